/- Walks by program. No condition. -/
import Derived.Test.YtgmggcpceemnnaaDoorEn21
import Derived.Test.YtgmggcpceemnnaaDoorChecked
import Derived.Test.YtgmggcpceemnnaaDoorShBEPut
import Derived.Test.YtgmggcpceemnnaaDoorEn23
import Derived.Test.YtgmggcpceemnnaaDoorEnU
import Derived.Test.YtgmggcpceemnnaaDoorEn25
import Derived.Test.YtgmggcpceemnnaaDoorShRepeat
import Derived.Test.YtgmggcpceemnnaaDoorEnJ
import Derived.Test.YtgmggcpceemnnaaDoorWWalkReaps_b
namespace Go.Proofs.YtgmggcpceemnnaaDoor
open Go.RowKit YtgmggcpceemnnaaDoor.En
set_option linter.unusedVariables false
set_option linter.unusedSimpArgs false
open Go.Value (int bool)
set_option maxRecDepth 100000 in
set_option maxHeartbeats 2000000 in
theorem f_lumref_nodeRead_ok (fu : Nat) (a0 : (List UInt8)) {r : (S_api_Node × (List UInt8) × Int)} (h : f_lumref_nodeRead fu a0 = some r) : FnOk Tryd.prog 169 [(str a0)] [] [] (fun (i : Value) => { val := (Value.tuple #[(ag [(str r.1.Name), (int .i64 r.1.Kind), (int .i64 r.1.Mode), (int .i64 r.1.Time), (int .i64 r.1.Size), i, (str r.1.Link)]), (str r.2.1), (int .i64 r.2.2)]), fz := [(fDat (tyList tyA8u8) [i] r.1.Parts)] }) := by
 unfold f_lumref_nodeRead at h
 refine fn_enter Tryd.func169 rfl Tryd.ntmps169 rfl (fun w0 Z0 => ?_)
 refine aw_sr ?_
 refine al_alloc (zs := [(str ([] : List UInt8)), (int .i64 (0 : Int)), (int .i64 (0 : Int)), (int .i64 (0 : Int)), (int .i64 (0 : Int)), (Value.slice none 0 0), (str ([] : List UInt8))]) (zeroOf_to to168) rfl rfl (fun g1 => ?_)
 refine al_as rfl rfl ?_
 refine al_as rfl rfl ?_
 refine al_nt ?_
 refine aw_sr ?_
 refine al_alloc (zs := [(str ([] : List UInt8)), (int .i64 (0 : Int)), (int .i64 (0 : Int)), (int .i64 (0 : Int)), (int .i64 (0 : Int)), (Value.slice none 0 0), (str ([] : List UInt8))]) (zeroOf_to to168) rfl rfl (fun g2 => ?_)
 refine al_nt ?_
 refine aw_sr ?_
 refine al_mv rfl rfl ?_
 obtain ⟨r4, hc3, h⟩ := opt_some h
 refine al_call (vs := [(str a0)]) (f_lumref_GetText_ok fu a0 hc3) [] [] [0, 1] pre_nil rfl (by simp) (by decide) (.inl rfl) rfl Tryd.func207 rfl rfl rfl (fun _ => ?_)
 refine al_mv rfl rfl ?_
 refine al_ex rfl rfl rfl ?_
 refine al_ex rfl rfl rfl ?_
 refine al_ex rfl rfl rfl ?_
 refine al_as rfl rfl ?_
 refine al_as rfl rfl ?_
 refine al_as rfl rfl ?_
 refine al_nt ?_
 refine aw_seq ?_
 refine aw_sr ?_
 refine al_mv rfl rfl ?_
 refine al_in rfl rfl rfl rfl ?_
 refine al_nt ?_
 refine aw_cond rfl (fun hb5 => ?_) (fun hb5 => ?_)
 ·replace h := bif_t hb5 h
  refine aw_sr ?_
  refine al_val (ov_load (i := 0) (v := (ag [(str ([] : List UInt8)), (int .i64 (0 : Int)), (int .i64 (0 : Int)), (int .i64 (0 : Int)), (int .i64 (0 : Int)), (Value.slice none 0 0), (str ([] : List UInt8))])) rfl rfl Tryd.underlying168 sz168 rfl rfl rfl rfl) ?_
  refine al_mv rfl rfl ?_
  refine al_store (i := 1) (vs := [(str ([] : List UInt8)), (int .i64 (0 : Int)), (int .i64 (0 : Int)), (int .i64 (0 : Int)), (int .i64 (0 : Int)), (Value.slice none 0 0), (str ([] : List UInt8))]) (cs' := [(str ([] : List UInt8)), (int .i64 (0 : Int)), (int .i64 (0 : Int)), (int .i64 (0 : Int)), (int .i64 (0 : Int)), (Value.slice none 0 0), (str ([] : List UInt8))]) rfl rfl rfl sz168 (cv_rfl rfl) rfl (co_val rfl (co_val rfl (co_val rfl (co_val rfl (co_val rfl (co_val rfl (co_val rfl co_nil))))))) (Nat.le_of_ble_eq_true rfl) rfl rfl ?_
  refine al_as rfl rfl ?_
  refine al_as rfl rfl ?_
  refine al_nt ?_
  refine aw_ret ?_
  refine aq_then_ret ?_
  refine aq_nilD tyA8u8 ?_
  obtain rfl := Option.some.inj h
  exact fn_ret (Value.slice none 0 0) [] [0] rfl rfl rfl rfl (resC rfl (resB (i := 1) rfl rfl Tryd.underlying168 sz168 rfl rfl rfl (resT rfl (resT rfl (resN)))) rfl) rfl rfl rfl (by decide)
 ·replace h := bif_f hb5 h
  refine aw_skip ?_
  refine aq_tr ?_
  refine al_mv rfl rfl ?_
  refine al_mv rfl rfl ?_
  obtain ⟨hc6, h⟩ := req_some h
  refine al_val (ov_strFrom hc6.1 hc6.2 Tryd.underlying9 rfl rfl rfl) ?_
  refine al_as rfl rfl ?_
  refine al_nt ?_
  refine aw_seq ?_
  refine aw_sr ?_
  refine al_mv rfl rfl ?_
  refine al_val (ov_strCmp rfl rfl rfl rfl) ?_
  refine al_nt ?_
  refine aw_cond rfl (fun hb7 => ?_) (fun hb7 => ?_)
  ·replace h := bif_t hb7 h
   refine aw_sr ?_
   refine al_val (ov_load (i := 0) (v := (ag [(str ([] : List UInt8)), (int .i64 (0 : Int)), (int .i64 (0 : Int)), (int .i64 (0 : Int)), (int .i64 (0 : Int)), (Value.slice none 0 0), (str ([] : List UInt8))])) rfl rfl Tryd.underlying168 sz168 rfl rfl rfl rfl) ?_
   refine al_store (i := 1) (vs := [(str ([] : List UInt8)), (int .i64 (0 : Int)), (int .i64 (0 : Int)), (int .i64 (0 : Int)), (int .i64 (0 : Int)), (Value.slice none 0 0), (str ([] : List UInt8))]) (cs' := [(str ([] : List UInt8)), (int .i64 (0 : Int)), (int .i64 (0 : Int)), (int .i64 (0 : Int)), (int .i64 (0 : Int)), (Value.slice none 0 0), (str ([] : List UInt8))]) rfl rfl rfl sz168 (cv_rfl rfl) rfl (co_val rfl (co_val rfl (co_val rfl (co_val rfl (co_val rfl (co_val rfl (co_val rfl co_nil))))))) (Nat.le_of_ble_eq_true rfl) rfl rfl ?_
   refine al_as rfl rfl ?_
   refine al_as rfl rfl ?_
   refine al_nt ?_
   refine aw_ret ?_
   refine aq_then_ret ?_
   refine aq_nilD tyA8u8 ?_
   obtain rfl := Option.some.inj h
   exact fn_ret (Value.slice none 0 0) [] [0] rfl rfl rfl rfl (resC rfl (resB (i := 1) rfl rfl Tryd.underlying168 sz168 rfl rfl rfl (resT rfl (resT rfl (resN)))) rfl) rfl rfl rfl (by decide)
  ·replace h := bif_f hb7 h
   refine aw_skip ?_
   refine aq_then ?_
   refine aw_seq ?_
   obtain ⟨hc8, h⟩ := req_some h
   refine aw_region_open [⟨0, 26, Unit, fun _ => { val := (str r4.1) }⟩, ⟨1, 27, Unit, fun _ => { val := (str (a0.drop (r4.2.1).toNat)) }⟩, ⟨2, 28, Unit, fun _ => { val := (int .u8 (En.bAt (a0.drop (r4.2.1).toNat) (0 : Int))) }⟩, ⟨3, 29, Unit, fun _ => { val := (int .i64 (IntKind.i64.wrap (En.bAt (a0.drop (r4.2.1).toNat) (0 : Int)))) }⟩, ⟨4, 30, Unit, fun _ => { val := (ptr g2 0) }⟩] (tab [(0, (str (a0.drop (r4.2.1).toNat))), (2, (ptr g1 0)), (5, (ptr g2 0)), (6, (str r4.1))]) mixed (fun a hs => hs.tab _ (allT_mem ⟨rfl, rfl, rfl, rfl, trivial⟩)) ?_
   refine ta_show (m := (memOf w0 Z0 [] [(oBox g2 168 [(str ([] : List UInt8)), (int .i64 (0 : Int)), (int .i64 (0 : Int)), (int .i64 (0 : Int)), (int .i64 (0 : Int)), (Value.slice none 0 0), (str ([] : List UInt8))]), (oBox g1 168 [(str ([] : List UInt8)), (int .i64 (0 : Int)), (int .i64 (0 : Int)), (int .i64 (0 : Int)), (int .i64 (0 : Int)), (Value.slice none 0 0), (str ([] : List UInt8))])] [])) (S := (tab [(0, (str (a0.drop (r4.2.1).toNat))), (2, (ptr g1 0)), (5, (ptr g2 0)), (6, (str r4.1))])) ?_
   refine ta_step 5 _ [0, 1, 2, 3, 4] [26, 27, 28, 29, 30] [0, 4] [6] [⟨0, 26, Unit, fun _ => { val := (str r4.1) }⟩, ⟨4, 30, Unit, fun _ => { val := (ptr g2 0) }⟩] [⟨1, 27, Unit, fun _ => { val := (str (a0.drop (r4.2.1).toNat)) }⟩, ⟨2, 28, Unit, fun _ => { val := (int .u8 (En.bAt (a0.drop (r4.2.1).toNat) (0 : Int))) }⟩, ⟨3, 29, Unit, fun _ => { val := (int .i64 (IntKind.i64.wrap (En.bAt (a0.drop (r4.2.1).toNat) (0 : Int)))) }⟩] rfl rfl rfl (by kernel_rfl) rfl rfl rfl ⟨⟨_, rfl, [], rfl, by
 intro X_ Y_ F_ K_ hK_
 refine al_show (m := Mem.plus (memOf w0 Z0 [] [(oBox g2 168 [(str ([] : List UInt8)), (int .i64 (0 : Int)), (int .i64 (0 : Int)), (int .i64 (0 : Int)), (int .i64 (0 : Int)), (Value.slice none 0 0), (str ([] : List UInt8))]), (oBox g1 168 [(str ([] : List UInt8)), (int .i64 (0 : Int)), (int .i64 (0 : Int)), (int .i64 (0 : Int)), (int .i64 (0 : Int)), (Value.slice none 0 0), (str ([] : List UInt8))])] []) X_ Y_) (S := over (tab [(0, (str (a0.drop (r4.2.1).toNat))), (2, (ptr g1 0)), (5, (ptr g2 0)), (6, (str r4.1))]) F_) ?_
 refine al_mv rfl rfl ?_
 refine al_nil ?_
 exact fr_fin hK_ ()⟩, ⟨_, rfl, [], rfl, by
 intro X_ Y_ F_ K_ hK_
 refine al_show (m := Mem.plus (memOf w0 Z0 [] [(oBox g2 168 [(str ([] : List UInt8)), (int .i64 (0 : Int)), (int .i64 (0 : Int)), (int .i64 (0 : Int)), (int .i64 (0 : Int)), (Value.slice none 0 0), (str ([] : List UInt8))]), (oBox g1 168 [(str ([] : List UInt8)), (int .i64 (0 : Int)), (int .i64 (0 : Int)), (int .i64 (0 : Int)), (int .i64 (0 : Int)), (Value.slice none 0 0), (str ([] : List UInt8))])] []) X_ Y_) (S := over (tab [(0, (str (a0.drop (r4.2.1).toNat))), (2, (ptr g1 0)), (5, (ptr g2 0)), (6, (str r4.1))]) F_) ?_
 refine al_mv rfl rfl ?_
 refine al_nil ?_
 exact fr_fin hK_ ()⟩, ⟨_, rfl, [1], rfl, by
 intro _
 intro X_ Y_ F_ K_ hK_
 refine al_show (m := Mem.plus (memOf w0 Z0 [] [(oBox g2 168 [(str ([] : List UInt8)), (int .i64 (0 : Int)), (int .i64 (0 : Int)), (int .i64 (0 : Int)), (int .i64 (0 : Int)), (Value.slice none 0 0), (str ([] : List UInt8))]), (oBox g1 168 [(str ([] : List UInt8)), (int .i64 (0 : Int)), (int .i64 (0 : Int)), (int .i64 (0 : Int)), (int .i64 (0 : Int)), (Value.slice none 0 0), (str ([] : List UInt8))])] []) X_ Y_) (S := over (put (tab [(0, (str (a0.drop (r4.2.1).toNat))), (2, (ptr g1 0)), (5, (ptr g2 0)), (6, (str r4.1))]) 27 (str (a0.drop (r4.2.1).toNat))) F_) ?_
 refine al_val (ov_strIdx hc8.1 hc8.2 Tryd.underlying9 rfl rfl rfl) ?_
 refine al_nil ?_
 exact fr_fin hK_ ()⟩, ⟨_, rfl, [2], rfl, by
 intro _
 intro X_ Y_ F_ K_ hK_
 refine al_show (m := Mem.plus (memOf w0 Z0 [] [(oBox g2 168 [(str ([] : List UInt8)), (int .i64 (0 : Int)), (int .i64 (0 : Int)), (int .i64 (0 : Int)), (int .i64 (0 : Int)), (Value.slice none 0 0), (str ([] : List UInt8))]), (oBox g1 168 [(str ([] : List UInt8)), (int .i64 (0 : Int)), (int .i64 (0 : Int)), (int .i64 (0 : Int)), (int .i64 (0 : Int)), (Value.slice none 0 0), (str ([] : List UInt8))])] []) X_ Y_) (S := over (put (tab [(0, (str (a0.drop (r4.2.1).toNat))), (2, (ptr g1 0)), (5, (ptr g2 0)), (6, (str r4.1))]) 28 (int .u8 (En.bAt (a0.drop (r4.2.1).toNat) (0 : Int)))) F_) ?_
 refine al_val (ov_convInt (by rw [Tryd.underlying5]; rfl) Tryd.underlying3 rfl rfl) ?_
 refine al_nil ?_
 exact fr_fin hK_ ()⟩, ⟨_, rfl, [0], rfl, by
 intro _
 intro X_ Y_ F_ K_ hK_
 refine al_show (m := Mem.plus (memOf w0 Z0 [] [(oBox g2 168 [(str ([] : List UInt8)), (int .i64 (0 : Int)), (int .i64 (0 : Int)), (int .i64 (0 : Int)), (int .i64 (0 : Int)), (Value.slice none 0 0), (str ([] : List UInt8))]), (oBox g1 168 [(str ([] : List UInt8)), (int .i64 (0 : Int)), (int .i64 (0 : Int)), (int .i64 (0 : Int)), (int .i64 (0 : Int)), (Value.slice none 0 0), (str ([] : List UInt8))])] []) X_ Y_) (S := over (put (tab [(0, (str (a0.drop (r4.2.1).toNat))), (2, (ptr g1 0)), (5, (ptr g2 0)), (6, (str r4.1))]) 26 (str r4.1)) F_) ?_
 refine al_val (ov_fieldA (p := 0) rfl Tryd.underlying168 rfl sz9 rfl rfl rfl) ?_
 refine al_nil ?_
 exact fr_fin hK_ ()⟩, trivial⟩ ?_
   intro _
   intro _
   intro X_ Y_ F_ K_ hK_
   refine al_show (m := Mem.plus (memOf w0 Z0 [] [(oBox g2 168 [(str ([] : List UInt8)), (int .i64 (0 : Int)), (int .i64 (0 : Int)), (int .i64 (0 : Int)), (int .i64 (0 : Int)), (Value.slice none 0 0), (str ([] : List UInt8))]), (oBox g1 168 [(str ([] : List UInt8)), (int .i64 (0 : Int)), (int .i64 (0 : Int)), (int .i64 (0 : Int)), (int .i64 (0 : Int)), (Value.slice none 0 0), (str ([] : List UInt8))])] []) X_ Y_) (S := over (put (put (tab [(0, (str (a0.drop (r4.2.1).toNat))), (2, (ptr g1 0)), (5, (ptr g2 0)), (6, (str r4.1))]) 26 (str r4.1)) 30 (ptr g2 0)) F_) ?_
   refine al_store (i := 0) (vs := [(str r4.1)]) (cs' := [(str r4.1), (int .i64 (0 : Int)), (int .i64 (0 : Int)), (int .i64 (0 : Int)), (int .i64 (0 : Int)), (Value.slice none 0 0), (str ([] : List UInt8))]) rfl rfl rfl sz9 (cv_rfl rfl) rfl (co_val rfl co_nil) (Nat.le_of_ble_eq_true rfl) rfl rfl ?_
   refine al_nil ?_
   refine aq_show (m := Mem.plus (memOf w0 Z0 [] [(oBox g2 168 [(str r4.1), (int .i64 (0 : Int)), (int .i64 (0 : Int)), (int .i64 (0 : Int)), (int .i64 (0 : Int)), (Value.slice none 0 0), (str ([] : List UInt8))]), (oBox g1 168 [(str ([] : List UInt8)), (int .i64 (0 : Int)), (int .i64 (0 : Int)), (int .i64 (0 : Int)), (int .i64 (0 : Int)), (Value.slice none 0 0), (str ([] : List UInt8))])] []) X_ Y_) ?_
   refine aq_next hK_ [0, 1] [] [(0, (str (a0.drop (r4.2.1).toNat))), (2, (ptr g1 0)), (5, (ptr g2 0))] [27, 28, 29] [⟨6, 31, Unit, fun _ => { val := (ptr g2 1) }⟩] rfl rfl (by decide) rfl ⟨rfl, rfl, rfl, trivial⟩ ⟨rfl, rfl, rfl, trivial⟩ ?_
   clear hK_ K_ F_ X_ Y_
   refine ta_show (m := (memOf w0 Z0 [] [(oBox g2 168 [(str r4.1), (int .i64 (0 : Int)), (int .i64 (0 : Int)), (int .i64 (0 : Int)), (int .i64 (0 : Int)), (Value.slice none 0 0), (str ([] : List UInt8))]), (oBox g1 168 [(str ([] : List UInt8)), (int .i64 (0 : Int)), (int .i64 (0 : Int)), (int .i64 (0 : Int)), (int .i64 (0 : Int)), (Value.slice none 0 0), (str ([] : List UInt8))])] [])) (S := (tab [(0, (str (a0.drop (r4.2.1).toNat))), (2, (ptr g1 0)), (5, (ptr g2 0))])) ?_
   refine ta_step 7 _ [1, 2, 3, 6] [27, 28, 29, 31] [1, 2, 3, 6] [] [⟨1, 27, Unit, fun _ => { val := (str (a0.drop (r4.2.1).toNat)) }⟩, ⟨2, 28, Unit, fun _ => { val := (int .u8 (En.bAt (a0.drop (r4.2.1).toNat) (0 : Int))) }⟩, ⟨3, 29, Unit, fun _ => { val := (int .i64 (IntKind.i64.wrap (En.bAt (a0.drop (r4.2.1).toNat) (0 : Int)))) }⟩, ⟨6, 31, Unit, fun _ => { val := (ptr g2 1) }⟩] [] rfl rfl rfl (by kernel_rfl) rfl rfl rfl ⟨⟨_, rfl, [], rfl, by
 intro X_ Y_ F_ K_ hK_
 refine al_show (m := Mem.plus (memOf w0 Z0 [] [(oBox g2 168 [(str r4.1), (int .i64 (0 : Int)), (int .i64 (0 : Int)), (int .i64 (0 : Int)), (int .i64 (0 : Int)), (Value.slice none 0 0), (str ([] : List UInt8))]), (oBox g1 168 [(str ([] : List UInt8)), (int .i64 (0 : Int)), (int .i64 (0 : Int)), (int .i64 (0 : Int)), (int .i64 (0 : Int)), (Value.slice none 0 0), (str ([] : List UInt8))])] []) X_ Y_) (S := over (tab [(0, (str (a0.drop (r4.2.1).toNat))), (2, (ptr g1 0)), (5, (ptr g2 0))]) F_) ?_
 refine al_mv rfl rfl ?_
 refine al_nil ?_
 exact fr_fin hK_ ()⟩, ⟨_, rfl, [0], rfl, by
 intro _
 intro X_ Y_ F_ K_ hK_
 refine al_show (m := Mem.plus (memOf w0 Z0 [] [(oBox g2 168 [(str r4.1), (int .i64 (0 : Int)), (int .i64 (0 : Int)), (int .i64 (0 : Int)), (int .i64 (0 : Int)), (Value.slice none 0 0), (str ([] : List UInt8))]), (oBox g1 168 [(str ([] : List UInt8)), (int .i64 (0 : Int)), (int .i64 (0 : Int)), (int .i64 (0 : Int)), (int .i64 (0 : Int)), (Value.slice none 0 0), (str ([] : List UInt8))])] []) X_ Y_) (S := over (put (tab [(0, (str (a0.drop (r4.2.1).toNat))), (2, (ptr g1 0)), (5, (ptr g2 0))]) 27 (str (a0.drop (r4.2.1).toNat))) F_) ?_
 refine al_val (ov_strIdx hc8.1 hc8.2 Tryd.underlying9 rfl rfl rfl) ?_
 refine al_nil ?_
 exact fr_fin hK_ ()⟩, ⟨_, rfl, [1], rfl, by
 intro _
 intro X_ Y_ F_ K_ hK_
 refine al_show (m := Mem.plus (memOf w0 Z0 [] [(oBox g2 168 [(str r4.1), (int .i64 (0 : Int)), (int .i64 (0 : Int)), (int .i64 (0 : Int)), (int .i64 (0 : Int)), (Value.slice none 0 0), (str ([] : List UInt8))]), (oBox g1 168 [(str ([] : List UInt8)), (int .i64 (0 : Int)), (int .i64 (0 : Int)), (int .i64 (0 : Int)), (int .i64 (0 : Int)), (Value.slice none 0 0), (str ([] : List UInt8))])] []) X_ Y_) (S := over (put (tab [(0, (str (a0.drop (r4.2.1).toNat))), (2, (ptr g1 0)), (5, (ptr g2 0))]) 28 (int .u8 (En.bAt (a0.drop (r4.2.1).toNat) (0 : Int)))) F_) ?_
 refine al_val (ov_convInt (by rw [Tryd.underlying5]; rfl) Tryd.underlying3 rfl rfl) ?_
 refine al_nil ?_
 exact fr_fin hK_ ()⟩, ⟨_, rfl, [0, 1, 2], rfl, by
 intro _
 intro _
 intro _
 intro X_ Y_ F_ K_ hK_
 refine al_show (m := Mem.plus (memOf w0 Z0 [] [(oBox g2 168 [(str r4.1), (int .i64 (0 : Int)), (int .i64 (0 : Int)), (int .i64 (0 : Int)), (int .i64 (0 : Int)), (Value.slice none 0 0), (str ([] : List UInt8))]), (oBox g1 168 [(str ([] : List UInt8)), (int .i64 (0 : Int)), (int .i64 (0 : Int)), (int .i64 (0 : Int)), (int .i64 (0 : Int)), (Value.slice none 0 0), (str ([] : List UInt8))])] []) X_ Y_) (S := over (put (put (put (tab [(0, (str (a0.drop (r4.2.1).toNat))), (2, (ptr g1 0)), (5, (ptr g2 0))]) 27 (str (a0.drop (r4.2.1).toNat))) 28 (int .u8 (En.bAt (a0.drop (r4.2.1).toNat) (0 : Int)))) 29 (int .i64 (IntKind.i64.wrap (En.bAt (a0.drop (r4.2.1).toNat) (0 : Int))))) F_) ?_
 refine al_val (ov_fieldA (p := 1) rfl Tryd.underlying168 rfl sz3 rfl rfl rfl) ?_
 refine al_nil ?_
 exact fr_fin hK_ ()⟩, trivial⟩ ?_
   intro _
   intro _
   intro _
   intro _
   intro X_ Y_ F_ K_ hK_
   refine al_show (m := Mem.plus (memOf w0 Z0 [] [(oBox g2 168 [(str r4.1), (int .i64 (0 : Int)), (int .i64 (0 : Int)), (int .i64 (0 : Int)), (int .i64 (0 : Int)), (Value.slice none 0 0), (str ([] : List UInt8))]), (oBox g1 168 [(str ([] : List UInt8)), (int .i64 (0 : Int)), (int .i64 (0 : Int)), (int .i64 (0 : Int)), (int .i64 (0 : Int)), (Value.slice none 0 0), (str ([] : List UInt8))])] []) X_ Y_) (S := over (put (put (put (put (tab [(0, (str (a0.drop (r4.2.1).toNat))), (2, (ptr g1 0)), (5, (ptr g2 0))]) 27 (str (a0.drop (r4.2.1).toNat))) 28 (int .u8 (En.bAt (a0.drop (r4.2.1).toNat) (0 : Int)))) 29 (int .i64 (IntKind.i64.wrap (En.bAt (a0.drop (r4.2.1).toNat) (0 : Int))))) 31 (ptr g2 1)) F_) ?_
   refine al_store (i := 0) (vs := [(int .i64 (IntKind.i64.wrap (En.bAt (a0.drop (r4.2.1).toNat) (0 : Int))))]) (cs' := [(str r4.1), (int .i64 (IntKind.i64.wrap (En.bAt (a0.drop (r4.2.1).toNat) (0 : Int)))), (int .i64 (0 : Int)), (int .i64 (0 : Int)), (int .i64 (0 : Int)), (Value.slice none 0 0), (str ([] : List UInt8))]) rfl rfl rfl sz3 (cv_rfl rfl) rfl (co_val rfl co_nil) (Nat.le_of_ble_eq_true rfl) rfl rfl ?_
   refine al_nil ?_
   refine aq_show (m := Mem.plus (memOf w0 Z0 [] [(oBox g2 168 [(str r4.1), (int .i64 (IntKind.i64.wrap (En.bAt (a0.drop (r4.2.1).toNat) (0 : Int)))), (int .i64 (0 : Int)), (int .i64 (0 : Int)), (int .i64 (0 : Int)), (Value.slice none 0 0), (str ([] : List UInt8))]), (oBox g1 168 [(str ([] : List UInt8)), (int .i64 (0 : Int)), (int .i64 (0 : Int)), (int .i64 (0 : Int)), (int .i64 (0 : Int)), (Value.slice none 0 0), (str ([] : List UInt8))])] []) X_ Y_) ?_
   refine aq_next hK_ [0, 1] [] [(0, (str (a0.drop (r4.2.1).toNat))), (2, (ptr g1 0)), (5, (ptr g2 0))] [] [] rfl rfl (by decide) rfl ⟨rfl, rfl, rfl, trivial⟩ trivial ?_
   clear hK_ K_ F_ X_ Y_
   refine ta_show (m := (memOf w0 Z0 [] [(oBox g2 168 [(str r4.1), (int .i64 (IntKind.i64.wrap (En.bAt (a0.drop (r4.2.1).toNat) (0 : Int)))), (int .i64 (0 : Int)), (int .i64 (0 : Int)), (int .i64 (0 : Int)), (Value.slice none 0 0), (str ([] : List UInt8))]), (oBox g1 168 [(str ([] : List UInt8)), (int .i64 (0 : Int)), (int .i64 (0 : Int)), (int .i64 (0 : Int)), (int .i64 (0 : Int)), (Value.slice none 0 0), (str ([] : List UInt8))])] [])) (S := (tab [(0, (str (a0.drop (r4.2.1).toNat))), (2, (ptr g1 0)), (5, (ptr g2 0))])) ?_
   refine ta_end [] [] rfl rfl (by kernel_rfl) rfl trivial ?_
   refine aq_show (m := (memOf w0 Z0 [] [(oBox g2 168 [(str r4.1), (int .i64 (IntKind.i64.wrap (En.bAt (a0.drop (r4.2.1).toNat) (0 : Int)))), (int .i64 (0 : Int)), (int .i64 (0 : Int)), (int .i64 (0 : Int)), (Value.slice none 0 0), (str ([] : List UInt8))]), (oBox g1 168 [(str ([] : List UInt8)), (int .i64 (0 : Int)), (int .i64 (0 : Int)), (int .i64 (0 : Int)), (int .i64 (0 : Int)), (Value.slice none 0 0), (str ([] : List UInt8))])] [])) (S := (tab [(0, (str (a0.drop (r4.2.1).toNat))), (2, (ptr g1 0)), (5, (ptr g2 0))])) ?_
   refine aq_then ?_
   refine aw_seq ?_
   refine aw_sr ?_
   refine al_mv rfl rfl ?_
   obtain ⟨hc9, h⟩ := req_some h
   refine al_val (ov_strFrom hc9.1 hc9.2 Tryd.underlying9 rfl rfl rfl) ?_
   obtain ⟨r11, hc10, h⟩ := opt_some h
   refine al_call (vs := [(str ((a0.drop (r4.2.1).toNat).drop ((1 : Int)).toNat)), (int .u64 (511 : Int))]) (f_lumref_numberAt_ok fu ((a0.drop (r4.2.1).toNat).drop ((1 : Int)).toNat) (511 : Int) hc10) [] [] [0, 1] pre_nil rfl (by simp) (by decide) (.inl rfl) rfl Tryd.func168 rfl rfl rfl (fun _ => ?_)
   refine al_mv rfl rfl ?_
   refine al_ex rfl rfl rfl ?_
   refine al_ex rfl rfl rfl ?_
   refine al_ex rfl rfl rfl ?_
   refine al_val (ov_fieldA (p := 2) rfl Tryd.underlying168 rfl sz3 rfl rfl rfl) ?_
   refine al_store (i := 0) (vs := [(int .i64 r11.1)]) (cs' := [(str r4.1), (int .i64 (IntKind.i64.wrap (En.bAt (a0.drop (r4.2.1).toNat) (0 : Int)))), (int .i64 r11.1), (int .i64 (0 : Int)), (int .i64 (0 : Int)), (Value.slice none 0 0), (str ([] : List UInt8))]) rfl rfl rfl sz3 (cv_rfl rfl) rfl (co_val rfl co_nil) (Nat.le_of_ble_eq_true rfl) rfl rfl ?_
   refine al_as rfl rfl ?_
   refine al_as rfl rfl ?_
   refine al_nt ?_
   refine aw_sr ?_
   refine al_mv rfl rfl ?_
   refine al_in rfl rfl rfl rfl ?_
   refine al_nt ?_
   refine aw_cond rfl (fun hb12 => ?_) (fun hb12 => ?_)
   ·replace h := bif_t hb12 h
    refine aw_sr ?_
    refine al_val (ov_load (i := 0) (v := (ag [(str r4.1), (int .i64 (IntKind.i64.wrap (En.bAt (a0.drop (r4.2.1).toNat) (0 : Int)))), (int .i64 r11.1), (int .i64 (0 : Int)), (int .i64 (0 : Int)), (Value.slice none 0 0), (str ([] : List UInt8))])) rfl rfl Tryd.underlying168 sz168 rfl rfl rfl rfl) ?_
    refine al_mv rfl rfl ?_
    refine al_store (i := 1) (vs := [(str r4.1), (int .i64 (IntKind.i64.wrap (En.bAt (a0.drop (r4.2.1).toNat) (0 : Int)))), (int .i64 r11.1), (int .i64 (0 : Int)), (int .i64 (0 : Int)), (Value.slice none 0 0), (str ([] : List UInt8))]) (cs' := [(str r4.1), (int .i64 (IntKind.i64.wrap (En.bAt (a0.drop (r4.2.1).toNat) (0 : Int)))), (int .i64 r11.1), (int .i64 (0 : Int)), (int .i64 (0 : Int)), (Value.slice none 0 0), (str ([] : List UInt8))]) rfl rfl rfl sz168 (cv_rfl rfl) rfl (co_val rfl (co_val rfl (co_val rfl (co_val rfl (co_val rfl (co_val rfl (co_val rfl co_nil))))))) (Nat.le_of_ble_eq_true rfl) rfl rfl ?_
    refine al_as rfl rfl ?_
    refine al_as rfl rfl ?_
    refine al_nt ?_
    refine aw_ret ?_
    refine aq_then_ret ?_
    refine aq_nilD tyA8u8 ?_
    obtain rfl := Option.some.inj h
    exact fn_ret (Value.slice none 0 0) [] [0] rfl rfl rfl rfl (resC rfl (resB (i := 1) rfl rfl Tryd.underlying168 sz168 rfl rfl rfl (resT rfl (resT rfl (resN)))) rfl) rfl rfl rfl (by decide)
   ·replace h := bif_f hb12 h
    refine aw_skip ?_
    refine aq_then ?_
    refine aw_seq ?_
    refine aw_sr ?_
    refine al_mv rfl rfl ?_
    obtain ⟨r14, hc13, h⟩ := opt_some h
    refine al_call (vs := [(str r11.2.1)]) (f_lumref_GetInt_ok fu r11.2.1 hc13) [] [] [0, 1] pre_nil rfl (by simp) (by decide) (.inl rfl) rfl Tryd.func208 rfl rfl rfl (fun _ => ?_)
    refine al_mv rfl rfl ?_
    refine al_ex rfl rfl rfl ?_
    refine al_ex rfl rfl rfl ?_
    refine al_ex rfl rfl rfl ?_
    refine al_val (ov_fieldA (p := 3) rfl Tryd.underlying168 rfl sz3 rfl rfl rfl) ?_
    refine al_store (i := 0) (vs := [(int .i64 r14.1)]) (cs' := [(str r4.1), (int .i64 (IntKind.i64.wrap (En.bAt (a0.drop (r4.2.1).toNat) (0 : Int)))), (int .i64 r11.1), (int .i64 r14.1), (int .i64 (0 : Int)), (Value.slice none 0 0), (str ([] : List UInt8))]) rfl rfl rfl sz3 (cv_rfl rfl) rfl (co_val rfl co_nil) (Nat.le_of_ble_eq_true rfl) rfl rfl ?_
    refine al_as rfl rfl ?_
    refine al_as rfl rfl ?_
    refine al_nt ?_
    refine aw_sr ?_
    refine al_mv rfl rfl ?_
    refine al_in rfl rfl rfl rfl ?_
    refine al_nt ?_
    refine aw_cond rfl (fun hb15 => ?_) (fun hb15 => ?_)
    ·replace h := bif_t hb15 h
     refine aw_sr ?_
     refine al_val (ov_load (i := 0) (v := (ag [(str r4.1), (int .i64 (IntKind.i64.wrap (En.bAt (a0.drop (r4.2.1).toNat) (0 : Int)))), (int .i64 r11.1), (int .i64 r14.1), (int .i64 (0 : Int)), (Value.slice none 0 0), (str ([] : List UInt8))])) rfl rfl Tryd.underlying168 sz168 rfl rfl rfl rfl) ?_
     refine al_mv rfl rfl ?_
     refine al_store (i := 1) (vs := [(str r4.1), (int .i64 (IntKind.i64.wrap (En.bAt (a0.drop (r4.2.1).toNat) (0 : Int)))), (int .i64 r11.1), (int .i64 r14.1), (int .i64 (0 : Int)), (Value.slice none 0 0), (str ([] : List UInt8))]) (cs' := [(str r4.1), (int .i64 (IntKind.i64.wrap (En.bAt (a0.drop (r4.2.1).toNat) (0 : Int)))), (int .i64 r11.1), (int .i64 r14.1), (int .i64 (0 : Int)), (Value.slice none 0 0), (str ([] : List UInt8))]) rfl rfl rfl sz168 (cv_rfl rfl) rfl (co_val rfl (co_val rfl (co_val rfl (co_val rfl (co_val rfl (co_val rfl (co_val rfl co_nil))))))) (Nat.le_of_ble_eq_true rfl) rfl rfl ?_
     refine al_as rfl rfl ?_
     refine al_as rfl rfl ?_
     refine al_nt ?_
     refine aw_ret ?_
     refine aq_then_ret ?_
     refine aq_nilD tyA8u8 ?_
     obtain rfl := Option.some.inj h
     exact fn_ret (Value.slice none 0 0) [] [0] rfl rfl rfl rfl (resC rfl (resB (i := 1) rfl rfl Tryd.underlying168 sz168 rfl rfl rfl (resT rfl (resT rfl (resN)))) rfl) rfl rfl rfl (by decide)
    ·replace h := bif_f hb15 h
     refine aw_skip ?_
     refine aq_then ?_
     refine aw_seq ?_
     refine aw_sr ?_
     refine al_mv rfl rfl ?_
     refine al_mv rfl rfl ?_
     obtain ⟨hc16, h⟩ := req_some h
     refine al_val (ov_strFrom hc16.1 hc16.2 Tryd.underlying9 rfl rfl rfl) ?_
     obtain ⟨r18, hc17, h⟩ := opt_some h
     refine al_call (vs := [(str (r11.2.1.drop (r14.2.1).toNat)), (int .u64 (4096 : Int))]) (f_lumref_numberAt_ok fu (r11.2.1.drop (r14.2.1).toNat) (4096 : Int) hc17) [] [] [0, 1] pre_nil rfl (by simp) (by decide) (.inl rfl) rfl Tryd.func168 rfl rfl rfl (fun _ => ?_)
     refine al_mv rfl rfl ?_
     refine al_ex rfl rfl rfl ?_
     refine al_ex rfl rfl rfl ?_
     refine al_ex rfl rfl rfl ?_
     refine al_val (ov_fieldA (p := 4) rfl Tryd.underlying168 rfl sz3 rfl rfl rfl) ?_
     refine al_store (i := 0) (vs := [(int .i64 r18.1)]) (cs' := [(str r4.1), (int .i64 (IntKind.i64.wrap (En.bAt (a0.drop (r4.2.1).toNat) (0 : Int)))), (int .i64 r11.1), (int .i64 r14.1), (int .i64 r18.1), (Value.slice none 0 0), (str ([] : List UInt8))]) rfl rfl rfl sz3 (cv_rfl rfl) rfl (co_val rfl co_nil) (Nat.le_of_ble_eq_true rfl) rfl rfl ?_
     refine al_as rfl rfl ?_
     refine al_as rfl rfl ?_
     refine al_nt ?_
     refine aw_sr ?_
     refine al_mv rfl rfl ?_
     refine al_in rfl rfl rfl rfl ?_
     refine al_nt ?_
     refine aw_cond rfl (fun hb19 => ?_) (fun hb19 => ?_)
     ·replace h := bif_t hb19 h
      refine aw_sr ?_
      refine al_val (ov_load (i := 0) (v := (ag [(str r4.1), (int .i64 (IntKind.i64.wrap (En.bAt (a0.drop (r4.2.1).toNat) (0 : Int)))), (int .i64 r11.1), (int .i64 r14.1), (int .i64 r18.1), (Value.slice none 0 0), (str ([] : List UInt8))])) rfl rfl Tryd.underlying168 sz168 rfl rfl rfl rfl) ?_
      refine al_mv rfl rfl ?_
      refine al_store (i := 1) (vs := [(str r4.1), (int .i64 (IntKind.i64.wrap (En.bAt (a0.drop (r4.2.1).toNat) (0 : Int)))), (int .i64 r11.1), (int .i64 r14.1), (int .i64 r18.1), (Value.slice none 0 0), (str ([] : List UInt8))]) (cs' := [(str r4.1), (int .i64 (IntKind.i64.wrap (En.bAt (a0.drop (r4.2.1).toNat) (0 : Int)))), (int .i64 r11.1), (int .i64 r14.1), (int .i64 r18.1), (Value.slice none 0 0), (str ([] : List UInt8))]) rfl rfl rfl sz168 (cv_rfl rfl) rfl (co_val rfl (co_val rfl (co_val rfl (co_val rfl (co_val rfl (co_val rfl (co_val rfl co_nil))))))) (Nat.le_of_ble_eq_true rfl) rfl rfl ?_
      refine al_as rfl rfl ?_
      refine al_as rfl rfl ?_
      refine al_nt ?_
      refine aw_ret ?_
      refine aq_then_ret ?_
      refine aq_nilD tyA8u8 ?_
      obtain rfl := Option.some.inj h
      exact fn_ret (Value.slice none 0 0) [] [0] rfl rfl rfl rfl (resC rfl (resB (i := 1) rfl rfl Tryd.underlying168 sz168 rfl rfl rfl (resT rfl (resT rfl (resN)))) rfl) rfl rfl rfl (by decide)
     ·replace h := bif_f hb19 h
      refine aw_skip ?_
      refine aq_tr ?_
      refine al_mv rfl rfl ?_
      obtain ⟨r21, hc20, h⟩ := opt_some h
      refine al_call (vs := [(str r18.2.1), (int .u64 (300 : Int))]) (f_lumref_numberAt_ok fu r18.2.1 (300 : Int) hc20) [] [] [0, 1] pre_nil rfl (by simp) (by decide) (.inl rfl) rfl Tryd.func168 rfl rfl rfl (fun _ => ?_)
      refine al_mv rfl rfl ?_
      refine al_ex rfl rfl rfl ?_
      refine al_ex rfl rfl rfl ?_
      refine al_ex rfl rfl rfl ?_
      refine al_as rfl rfl ?_
      refine al_as rfl rfl ?_
      refine al_as rfl rfl ?_
      refine al_nt ?_
      refine aw_seq ?_
      refine aw_seq ?_
      refine aw_state (m' := (memOf w0 Z0 [] [(oBox g2 168 [(str r4.1), (int .i64 (IntKind.i64.wrap (En.bAt (a0.drop (r4.2.1).toNat) (0 : Int)))), (int .i64 r11.1), (int .i64 r14.1), (int .i64 r18.1), (Value.slice none 0 0), (str ([] : List UInt8))]), (oBox g1 168 [(str ([] : List UInt8)), (int .i64 (0 : Int)), (int .i64 (0 : Int)), (int .i64 (0 : Int)), (int .i64 (0 : Int)), (Value.slice none 0 0), (str ([] : List UInt8))])] [])) (S' := (tab [(0, (str r21.2.1)), (2, (ptr g1 0)), (5, (ptr g2 0)), (8, (int .i64 r21.2.2)), (9, (int .i64 r21.1))])) ?_ (fun w a hm hs => norm hm hs [0, 1] [] [(0, (str r21.2.1)), (2, (ptr g1 0)), (5, (ptr g2 0)), (8, (int .i64 r21.2.2)), (9, (int .i64 r21.1))] (by decide) ⟨rfl, rfl, rfl, rfl, rfl, trivial⟩)
      refine aw_region ?_
      refine al_mv rfl rfl ?_
      refine al_in rfl rfl rfl rfl ?_
      refine al_nt ?_
      refine aw_cond rfl (fun hb22 => ?_) (fun hb22 => ?_)
      ·replace h := bif_t hb22 h
       refine aw_sr ?_
       refine al_val (ov_load (i := 0) (v := (ag [(str r4.1), (int .i64 (IntKind.i64.wrap (En.bAt (a0.drop (r4.2.1).toNat) (0 : Int)))), (int .i64 r11.1), (int .i64 r14.1), (int .i64 r18.1), (Value.slice none 0 0), (str ([] : List UInt8))])) rfl rfl Tryd.underlying168 sz168 rfl rfl rfl rfl) ?_
       refine al_mv rfl rfl ?_
       refine al_store (i := 1) (vs := [(str r4.1), (int .i64 (IntKind.i64.wrap (En.bAt (a0.drop (r4.2.1).toNat) (0 : Int)))), (int .i64 r11.1), (int .i64 r14.1), (int .i64 r18.1), (Value.slice none 0 0), (str ([] : List UInt8))]) (cs' := [(str r4.1), (int .i64 (IntKind.i64.wrap (En.bAt (a0.drop (r4.2.1).toNat) (0 : Int)))), (int .i64 r11.1), (int .i64 r14.1), (int .i64 r18.1), (Value.slice none 0 0), (str ([] : List UInt8))]) rfl rfl rfl sz168 (cv_rfl rfl) rfl (co_val rfl (co_val rfl (co_val rfl (co_val rfl (co_val rfl (co_val rfl (co_val rfl co_nil))))))) (Nat.le_of_ble_eq_true rfl) rfl rfl ?_
       refine al_as rfl rfl ?_
       refine al_as rfl rfl ?_
       refine al_nt ?_
       refine aw_ret ?_
       refine aq_then_ret ?_
       refine aq_nilD tyA8u8 ?_
       obtain rfl := Option.some.inj h
       exact fn_ret (Value.slice none 0 0) [] [0] rfl rfl rfl rfl (resC rfl (resB (i := 1) rfl rfl Tryd.underlying168 sz168 rfl rfl rfl (resT rfl (resT rfl (resN)))) rfl) rfl rfl rfl (by decide)
      ·replace h := bif_f hb22 h
       refine aw_skip ?_
       refine aq_then ?_
       refine aw_seq ?_
       refine aw_sr ?_
       refine al_mv rfl rfl ?_
       refine al_val (ov_strLen Tryd.underlying9 rfl rfl) ?_
       refine al_mv rfl rfl ?_
       refine al_in rfl rfl rfl rfl ?_
       refine al_in rfl rfl rfl rfl ?_
       refine al_nt ?_
       refine aw_cond rfl (fun hb23 => ?_) (fun hb23 => ?_)
       ·replace h := bif_t hb23 h
        refine aw_sr ?_
        refine al_val (ov_load (i := 0) (v := (ag [(str r4.1), (int .i64 (IntKind.i64.wrap (En.bAt (a0.drop (r4.2.1).toNat) (0 : Int)))), (int .i64 r11.1), (int .i64 r14.1), (int .i64 r18.1), (Value.slice none 0 0), (str ([] : List UInt8))])) rfl rfl Tryd.underlying168 sz168 rfl rfl rfl rfl) ?_
        refine al_store (i := 1) (vs := [(str r4.1), (int .i64 (IntKind.i64.wrap (En.bAt (a0.drop (r4.2.1).toNat) (0 : Int)))), (int .i64 r11.1), (int .i64 r14.1), (int .i64 r18.1), (Value.slice none 0 0), (str ([] : List UInt8))]) (cs' := [(str r4.1), (int .i64 (IntKind.i64.wrap (En.bAt (a0.drop (r4.2.1).toNat) (0 : Int)))), (int .i64 r11.1), (int .i64 r14.1), (int .i64 r18.1), (Value.slice none 0 0), (str ([] : List UInt8))]) rfl rfl rfl sz168 (cv_rfl rfl) rfl (co_val rfl (co_val rfl (co_val rfl (co_val rfl (co_val rfl (co_val rfl (co_val rfl co_nil))))))) (Nat.le_of_ble_eq_true rfl) rfl rfl ?_
        refine al_as rfl rfl ?_
        refine al_as rfl rfl ?_
        refine al_nt ?_
        refine aw_ret ?_
        refine aq_then_ret ?_
        refine aq_nilD tyA8u8 ?_
        obtain rfl := Option.some.inj h
        exact fn_ret (Value.slice none 0 0) [] [0] rfl rfl rfl rfl (resC rfl (resB (i := 1) rfl rfl Tryd.underlying168 sz168 rfl rfl rfl (resT rfl (resT rfl (resN)))) rfl) rfl rfl rfl (by decide)
       ·replace h := bif_f hb23 h
        refine aw_skip ?_
        refine aq_then ?_
        obtain ⟨kk25, hkk25, h⟩ := lt_some h
        refine aw_seq_join (ι := (List UInt8) × Value × (List A8u8)) (fun i => (memOf w0 Z0 [] [(oBox g1 168 [(str ([] : List UInt8)), (int .i64 (0 : Int)), (int .i64 (0 : Int)), (int .i64 (0 : Int)), (int .i64 (0 : Int)), (Value.slice none 0 0), (str ([] : List UInt8))]), (oRow i.2.1 47 tyA8u8 i.2.2), (oBox g2 168 [(str r4.1), (int .i64 (IntKind.i64.wrap (En.bAt (a0.drop (r4.2.1).toNat) (0 : Int)))), (int .i64 r11.1), (int .i64 r14.1), (int .i64 r18.1), i.2.1, (str ([] : List UInt8))])] [])) (fun i => (tab [(0, (str i.1)), (2, (ptr g1 0)), (5, (ptr g2 0))])) (fun i => kk25 i.1 i.2.2 = some r) ?_ ?_
        ·rintro ⟨j24s0, j24v5_5, j24x5_5⟩ h
         have h : kk25 j24s0 j24x5_5 = some r := h
         rw [hkk25] at h
         dsimp only at h
         clear hkk25
         refine aw_show (m := (memOf w0 Z0 [] [(oBox g1 168 [(str ([] : List UInt8)), (int .i64 (0 : Int)), (int .i64 (0 : Int)), (int .i64 (0 : Int)), (int .i64 (0 : Int)), (Value.slice none 0 0), (str ([] : List UInt8))]), (oRow j24v5_5 47 tyA8u8 j24x5_5), (oBox g2 168 [(str r4.1), (int .i64 (IntKind.i64.wrap (En.bAt (a0.drop (r4.2.1).toNat) (0 : Int)))), (int .i64 r11.1), (int .i64 r14.1), (int .i64 r18.1), j24v5_5, (str ([] : List UInt8))])] [])) (S := (tab [(0, (str j24s0)), (2, (ptr g1 0)), (5, (ptr g2 0))])) ?_
         refine aw_seq ?_
         refine aw_sr ?_
         refine al_mv rfl rfl ?_
         obtain ⟨r27, hc26, h⟩ := opt_some h
         refine al_call (vs := [(str j24s0)]) (f_lumref_GetText_ok fu j24s0 hc26) [] [] [0, 1, 2] pre_nil rfl (by simp) (by decide) (.inl rfl) rfl Tryd.func207 rfl rfl rfl (fun _ => ?_)
         refine al_mv rfl rfl ?_
         refine al_ex rfl rfl rfl ?_
         refine al_ex rfl rfl rfl ?_
         refine al_ex rfl rfl rfl ?_
         refine al_val (ov_fieldA (p := 6) rfl Tryd.underlying168 rfl sz9 rfl rfl rfl) ?_
         refine al_store (i := 2) (vs := [(str r27.1)]) (cs' := [(str r4.1), (int .i64 (IntKind.i64.wrap (En.bAt (a0.drop (r4.2.1).toNat) (0 : Int)))), (int .i64 r11.1), (int .i64 r14.1), (int .i64 r18.1), j24v5_5, (str r27.1)]) rfl rfl rfl sz9 (cv_rfl rfl) rfl (co_val rfl co_nil) (Nat.le_of_ble_eq_true rfl) rfl rfl ?_
         refine al_as rfl rfl ?_
         refine al_as rfl rfl ?_
         refine al_nt ?_
         refine aw_sr ?_
         refine al_mv rfl rfl ?_
         refine al_in rfl rfl rfl rfl ?_
         refine al_nt ?_
         refine aw_cond rfl (fun hb28 => ?_) (fun hb28 => ?_)
         ·replace h := bif_t hb28 h
          refine aw_sr ?_
          refine al_val (ov_load (i := 2) (v := (ag [(str r4.1), (int .i64 (IntKind.i64.wrap (En.bAt (a0.drop (r4.2.1).toNat) (0 : Int)))), (int .i64 r11.1), (int .i64 r14.1), (int .i64 r18.1), j24v5_5, (str r27.1)])) rfl rfl Tryd.underlying168 sz168 rfl rfl rfl rfl) ?_
          refine al_mv rfl rfl ?_
          refine al_store (i := 0) (vs := [(str r4.1), (int .i64 (IntKind.i64.wrap (En.bAt (a0.drop (r4.2.1).toNat) (0 : Int)))), (int .i64 r11.1), (int .i64 r14.1), (int .i64 r18.1), j24v5_5, (str r27.1)]) (cs' := [(str r4.1), (int .i64 (IntKind.i64.wrap (En.bAt (a0.drop (r4.2.1).toNat) (0 : Int)))), (int .i64 r11.1), (int .i64 r14.1), (int .i64 r18.1), j24v5_5, (str r27.1)]) rfl rfl rfl sz168 (cv_rfl rfl) rfl (co_val rfl (co_val rfl (co_val rfl (co_val rfl (co_val rfl (co_own 1 rfl (co_val rfl co_nil))))))) (Nat.le_of_ble_eq_true rfl) rfl rfl ?_
          refine al_as rfl rfl ?_
          refine al_as rfl rfl ?_
          refine al_nt ?_
          refine aw_ret ?_
          refine aq_then_ret ?_
          refine aq_freeze 1 rfl rfl ?_
          obtain rfl := Option.some.inj h
          exact fn_ret j24v5_5 [] [0] rfl rfl rfl rfl (resC rfl (resB (i := 0) rfl rfl Tryd.underlying168 sz168 rfl rfl rfl (resT rfl (resT rfl (resN)))) rfl) rfl rfl rfl (by decide)
         ·replace h := bif_f hb28 h
          refine aw_skip ?_
          refine aq_then ?_
          refine aw_seq ?_
          obtain ⟨hc29, h⟩ := req_some h
          refine aw_region_open [⟨0, 111, Unit, fun _ => { val := (ag [(str r4.1), (int .i64 (IntKind.i64.wrap (En.bAt (a0.drop (r4.2.1).toNat) (0 : Int)))), (int .i64 r11.1), (int .i64 r14.1), (int .i64 r18.1), j24v5_5, (str r27.1)]) }⟩, ⟨1, 112, Unit, fun _ => { val := (str j24s0) }⟩, ⟨2, 113, Unit, fun _ => { val := (int .i64 r27.2.1) }⟩, ⟨3, 114, Unit, fun _ => { val := (str (j24s0.drop (r27.2.1).toNat)) }⟩] (tab [(0, (str j24s0)), (2, (ptr g1 0)), (5, (ptr g2 0)), (7, (int .i64 r27.2.1))]) mixed (fun a hs => hs.tab _ (allT_mem ⟨rfl, rfl, rfl, rfl, trivial⟩)) ?_
          refine ta_show (m := (memOf w0 Z0 [] [(oBox g1 168 [(str ([] : List UInt8)), (int .i64 (0 : Int)), (int .i64 (0 : Int)), (int .i64 (0 : Int)), (int .i64 (0 : Int)), (Value.slice none 0 0), (str ([] : List UInt8))]), (oRow j24v5_5 47 tyA8u8 j24x5_5), (oBox g2 168 [(str r4.1), (int .i64 (IntKind.i64.wrap (En.bAt (a0.drop (r4.2.1).toNat) (0 : Int)))), (int .i64 r11.1), (int .i64 r14.1), (int .i64 r18.1), j24v5_5, (str r27.1)])] [])) (S := (tab [(0, (str j24s0)), (2, (ptr g1 0)), (5, (ptr g2 0)), (7, (int .i64 r27.2.1))])) ?_
          refine ta_step 4 _ [0, 1, 2, 3] [111, 112, 113, 114] [0] [] [⟨0, 111, Unit, fun _ => { val := (ag [(str r4.1), (int .i64 (IntKind.i64.wrap (En.bAt (a0.drop (r4.2.1).toNat) (0 : Int)))), (int .i64 r11.1), (int .i64 r14.1), (int .i64 r18.1), j24v5_5, (str r27.1)]) }⟩] [⟨1, 112, Unit, fun _ => { val := (str j24s0) }⟩, ⟨2, 113, Unit, fun _ => { val := (int .i64 r27.2.1) }⟩, ⟨3, 114, Unit, fun _ => { val := (str (j24s0.drop (r27.2.1).toNat)) }⟩] rfl rfl rfl (by kernel_rfl) rfl rfl rfl ⟨⟨_, rfl, [], rfl, by
 intro X_ Y_ F_ K_ hK_
 refine al_show (m := Mem.plus (memOf w0 Z0 [] [(oBox g1 168 [(str ([] : List UInt8)), (int .i64 (0 : Int)), (int .i64 (0 : Int)), (int .i64 (0 : Int)), (int .i64 (0 : Int)), (Value.slice none 0 0), (str ([] : List UInt8))]), (oRow j24v5_5 47 tyA8u8 j24x5_5), (oBox g2 168 [(str r4.1), (int .i64 (IntKind.i64.wrap (En.bAt (a0.drop (r4.2.1).toNat) (0 : Int)))), (int .i64 r11.1), (int .i64 r14.1), (int .i64 r18.1), j24v5_5, (str r27.1)])] []) X_ Y_) (S := over (tab [(0, (str j24s0)), (2, (ptr g1 0)), (5, (ptr g2 0)), (7, (int .i64 r27.2.1))]) F_) ?_
 refine al_val (ov_load (i := 2) (v := (ag [(str r4.1), (int .i64 (IntKind.i64.wrap (En.bAt (a0.drop (r4.2.1).toNat) (0 : Int)))), (int .i64 r11.1), (int .i64 r14.1), (int .i64 r18.1), j24v5_5, (str r27.1)])) rfl rfl Tryd.underlying168 sz168 rfl rfl rfl rfl) ?_
 refine al_nil ?_
 exact fr_fin hK_ ()⟩, ⟨_, rfl, [], rfl, by
 intro X_ Y_ F_ K_ hK_
 refine al_show (m := Mem.plus (memOf w0 Z0 [] [(oBox g1 168 [(str ([] : List UInt8)), (int .i64 (0 : Int)), (int .i64 (0 : Int)), (int .i64 (0 : Int)), (int .i64 (0 : Int)), (Value.slice none 0 0), (str ([] : List UInt8))]), (oRow j24v5_5 47 tyA8u8 j24x5_5), (oBox g2 168 [(str r4.1), (int .i64 (IntKind.i64.wrap (En.bAt (a0.drop (r4.2.1).toNat) (0 : Int)))), (int .i64 r11.1), (int .i64 r14.1), (int .i64 r18.1), j24v5_5, (str r27.1)])] []) X_ Y_) (S := over (tab [(0, (str j24s0)), (2, (ptr g1 0)), (5, (ptr g2 0)), (7, (int .i64 r27.2.1))]) F_) ?_
 refine al_mv rfl rfl ?_
 refine al_nil ?_
 exact fr_fin hK_ ()⟩, ⟨_, rfl, [], rfl, by
 intro X_ Y_ F_ K_ hK_
 refine al_show (m := Mem.plus (memOf w0 Z0 [] [(oBox g1 168 [(str ([] : List UInt8)), (int .i64 (0 : Int)), (int .i64 (0 : Int)), (int .i64 (0 : Int)), (int .i64 (0 : Int)), (Value.slice none 0 0), (str ([] : List UInt8))]), (oRow j24v5_5 47 tyA8u8 j24x5_5), (oBox g2 168 [(str r4.1), (int .i64 (IntKind.i64.wrap (En.bAt (a0.drop (r4.2.1).toNat) (0 : Int)))), (int .i64 r11.1), (int .i64 r14.1), (int .i64 r18.1), j24v5_5, (str r27.1)])] []) X_ Y_) (S := over (tab [(0, (str j24s0)), (2, (ptr g1 0)), (5, (ptr g2 0)), (7, (int .i64 r27.2.1))]) F_) ?_
 refine al_mv rfl rfl ?_
 refine al_nil ?_
 exact fr_fin hK_ ()⟩, ⟨_, rfl, [1, 2], rfl, by
 intro _
 intro _
 intro X_ Y_ F_ K_ hK_
 refine al_show (m := Mem.plus (memOf w0 Z0 [] [(oBox g1 168 [(str ([] : List UInt8)), (int .i64 (0 : Int)), (int .i64 (0 : Int)), (int .i64 (0 : Int)), (int .i64 (0 : Int)), (Value.slice none 0 0), (str ([] : List UInt8))]), (oRow j24v5_5 47 tyA8u8 j24x5_5), (oBox g2 168 [(str r4.1), (int .i64 (IntKind.i64.wrap (En.bAt (a0.drop (r4.2.1).toNat) (0 : Int)))), (int .i64 r11.1), (int .i64 r14.1), (int .i64 r18.1), j24v5_5, (str r27.1)])] []) X_ Y_) (S := over (put (put (tab [(0, (str j24s0)), (2, (ptr g1 0)), (5, (ptr g2 0)), (7, (int .i64 r27.2.1))]) 112 (str j24s0)) 113 (int .i64 r27.2.1)) F_) ?_
 refine al_val (ov_strFrom hc29.1 hc29.2 Tryd.underlying9 rfl rfl rfl) ?_
 refine al_nil ?_
 exact fr_fin hK_ ()⟩, trivial⟩ ?_
          intro _
          intro X_ Y_ F_ K_ hK_
          refine al_show (m := Mem.plus (memOf w0 Z0 [] [(oBox g1 168 [(str ([] : List UInt8)), (int .i64 (0 : Int)), (int .i64 (0 : Int)), (int .i64 (0 : Int)), (int .i64 (0 : Int)), (Value.slice none 0 0), (str ([] : List UInt8))]), (oRow j24v5_5 47 tyA8u8 j24x5_5), (oBox g2 168 [(str r4.1), (int .i64 (IntKind.i64.wrap (En.bAt (a0.drop (r4.2.1).toNat) (0 : Int)))), (int .i64 r11.1), (int .i64 r14.1), (int .i64 r18.1), j24v5_5, (str r27.1)])] []) X_ Y_) (S := over (put (tab [(0, (str j24s0)), (2, (ptr g1 0)), (5, (ptr g2 0)), (7, (int .i64 r27.2.1))]) 111 (ag [(str r4.1), (int .i64 (IntKind.i64.wrap (En.bAt (a0.drop (r4.2.1).toNat) (0 : Int)))), (int .i64 r11.1), (int .i64 r14.1), (int .i64 r18.1), j24v5_5, (str r27.1)])) F_) ?_
          refine al_store (i := 0) (vs := [(str r4.1), (int .i64 (IntKind.i64.wrap (En.bAt (a0.drop (r4.2.1).toNat) (0 : Int)))), (int .i64 r11.1), (int .i64 r14.1), (int .i64 r18.1), j24v5_5, (str r27.1)]) (cs' := [(str r4.1), (int .i64 (IntKind.i64.wrap (En.bAt (a0.drop (r4.2.1).toNat) (0 : Int)))), (int .i64 r11.1), (int .i64 r14.1), (int .i64 r18.1), j24v5_5, (str r27.1)]) rfl rfl rfl sz168 (cv_rfl rfl) rfl (co_val rfl (co_val rfl (co_val rfl (co_val rfl (co_val rfl (co_own 1 rfl (co_val rfl co_nil))))))) (Nat.le_of_ble_eq_true rfl) rfl rfl ?_
          refine al_nil ?_
          refine aq_show (m := Mem.plus (memOf w0 Z0 [] [(oBox g1 168 [(str r4.1), (int .i64 (IntKind.i64.wrap (En.bAt (a0.drop (r4.2.1).toNat) (0 : Int)))), (int .i64 r11.1), (int .i64 r14.1), (int .i64 r18.1), j24v5_5, (str r27.1)]), (oRow j24v5_5 47 tyA8u8 j24x5_5), (oBox g2 168 [(str r4.1), (int .i64 (IntKind.i64.wrap (En.bAt (a0.drop (r4.2.1).toNat) (0 : Int)))), (int .i64 r11.1), (int .i64 r14.1), (int .i64 r18.1), j24v5_5, (str r27.1)])] []) X_ Y_) ?_
          refine aq_next hK_ [0, 1, 2] [] [(0, (str j24s0)), (2, (ptr g1 0)), (7, (int .i64 r27.2.1))] [112, 113, 114] [] rfl rfl (by decide) rfl ⟨rfl, rfl, rfl, trivial⟩ ⟨rfl, rfl, rfl, trivial⟩ ?_
          clear hK_ K_ F_ X_ Y_
          refine ta_show (m := (memOf w0 Z0 [] [(oBox g1 168 [(str r4.1), (int .i64 (IntKind.i64.wrap (En.bAt (a0.drop (r4.2.1).toNat) (0 : Int)))), (int .i64 r11.1), (int .i64 r14.1), (int .i64 r18.1), j24v5_5, (str r27.1)]), (oRow j24v5_5 47 tyA8u8 j24x5_5), (oBox g2 168 [(str r4.1), (int .i64 (IntKind.i64.wrap (En.bAt (a0.drop (r4.2.1).toNat) (0 : Int)))), (int .i64 r11.1), (int .i64 r14.1), (int .i64 r18.1), j24v5_5, (str r27.1)])] [])) (S := (tab [(0, (str j24s0)), (2, (ptr g1 0)), (7, (int .i64 r27.2.1))])) ?_
          refine ta_step 5 _ [1, 2, 3] [112, 113, 114] [1, 2, 3] [] [⟨1, 112, Unit, fun _ => { val := (str j24s0) }⟩, ⟨2, 113, Unit, fun _ => { val := (int .i64 r27.2.1) }⟩, ⟨3, 114, Unit, fun _ => { val := (str (j24s0.drop (r27.2.1).toNat)) }⟩] [] rfl rfl rfl (by kernel_rfl) rfl rfl rfl ⟨⟨_, rfl, [], rfl, by
 intro X_ Y_ F_ K_ hK_
 refine al_show (m := Mem.plus (memOf w0 Z0 [] [(oBox g1 168 [(str r4.1), (int .i64 (IntKind.i64.wrap (En.bAt (a0.drop (r4.2.1).toNat) (0 : Int)))), (int .i64 r11.1), (int .i64 r14.1), (int .i64 r18.1), j24v5_5, (str r27.1)]), (oRow j24v5_5 47 tyA8u8 j24x5_5), (oBox g2 168 [(str r4.1), (int .i64 (IntKind.i64.wrap (En.bAt (a0.drop (r4.2.1).toNat) (0 : Int)))), (int .i64 r11.1), (int .i64 r14.1), (int .i64 r18.1), j24v5_5, (str r27.1)])] []) X_ Y_) (S := over (tab [(0, (str j24s0)), (2, (ptr g1 0)), (7, (int .i64 r27.2.1))]) F_) ?_
 refine al_mv rfl rfl ?_
 refine al_nil ?_
 exact fr_fin hK_ ()⟩, ⟨_, rfl, [], rfl, by
 intro X_ Y_ F_ K_ hK_
 refine al_show (m := Mem.plus (memOf w0 Z0 [] [(oBox g1 168 [(str r4.1), (int .i64 (IntKind.i64.wrap (En.bAt (a0.drop (r4.2.1).toNat) (0 : Int)))), (int .i64 r11.1), (int .i64 r14.1), (int .i64 r18.1), j24v5_5, (str r27.1)]), (oRow j24v5_5 47 tyA8u8 j24x5_5), (oBox g2 168 [(str r4.1), (int .i64 (IntKind.i64.wrap (En.bAt (a0.drop (r4.2.1).toNat) (0 : Int)))), (int .i64 r11.1), (int .i64 r14.1), (int .i64 r18.1), j24v5_5, (str r27.1)])] []) X_ Y_) (S := over (tab [(0, (str j24s0)), (2, (ptr g1 0)), (7, (int .i64 r27.2.1))]) F_) ?_
 refine al_mv rfl rfl ?_
 refine al_nil ?_
 exact fr_fin hK_ ()⟩, ⟨_, rfl, [0, 1], rfl, by
 intro _
 intro _
 intro X_ Y_ F_ K_ hK_
 refine al_show (m := Mem.plus (memOf w0 Z0 [] [(oBox g1 168 [(str r4.1), (int .i64 (IntKind.i64.wrap (En.bAt (a0.drop (r4.2.1).toNat) (0 : Int)))), (int .i64 r11.1), (int .i64 r14.1), (int .i64 r18.1), j24v5_5, (str r27.1)]), (oRow j24v5_5 47 tyA8u8 j24x5_5), (oBox g2 168 [(str r4.1), (int .i64 (IntKind.i64.wrap (En.bAt (a0.drop (r4.2.1).toNat) (0 : Int)))), (int .i64 r11.1), (int .i64 r14.1), (int .i64 r18.1), j24v5_5, (str r27.1)])] []) X_ Y_) (S := over (put (put (tab [(0, (str j24s0)), (2, (ptr g1 0)), (7, (int .i64 r27.2.1))]) 112 (str j24s0)) 113 (int .i64 r27.2.1)) F_) ?_
 refine al_val (ov_strFrom hc29.1 hc29.2 Tryd.underlying9 rfl rfl rfl) ?_
 refine al_nil ?_
 exact fr_fin hK_ ()⟩, trivial⟩ ?_
          intro _
          intro _
          intro _
          intro X_ Y_ F_ K_ hK_
          refine al_show (m := Mem.plus (memOf w0 Z0 [] [(oBox g1 168 [(str r4.1), (int .i64 (IntKind.i64.wrap (En.bAt (a0.drop (r4.2.1).toNat) (0 : Int)))), (int .i64 r11.1), (int .i64 r14.1), (int .i64 r18.1), j24v5_5, (str r27.1)]), (oRow j24v5_5 47 tyA8u8 j24x5_5), (oBox g2 168 [(str r4.1), (int .i64 (IntKind.i64.wrap (En.bAt (a0.drop (r4.2.1).toNat) (0 : Int)))), (int .i64 r11.1), (int .i64 r14.1), (int .i64 r18.1), j24v5_5, (str r27.1)])] []) X_ Y_) (S := over (put (put (put (tab [(0, (str j24s0)), (2, (ptr g1 0)), (7, (int .i64 r27.2.1))]) 112 (str j24s0)) 113 (int .i64 r27.2.1)) 114 (str (j24s0.drop (r27.2.1).toNat))) F_) ?_
          refine al_as rfl rfl ?_
          refine al_nil ?_
          refine aq_show (m := Mem.plus (memOf w0 Z0 [] [(oBox g1 168 [(str r4.1), (int .i64 (IntKind.i64.wrap (En.bAt (a0.drop (r4.2.1).toNat) (0 : Int)))), (int .i64 r11.1), (int .i64 r14.1), (int .i64 r18.1), j24v5_5, (str r27.1)]), (oRow j24v5_5 47 tyA8u8 j24x5_5), (oBox g2 168 [(str r4.1), (int .i64 (IntKind.i64.wrap (En.bAt (a0.drop (r4.2.1).toNat) (0 : Int)))), (int .i64 r11.1), (int .i64 r14.1), (int .i64 r18.1), j24v5_5, (str r27.1)])] []) X_ Y_) ?_
          refine aq_next hK_ [0, 1, 2] [] [(2, (ptr g1 0)), (3, (str (j24s0.drop (r27.2.1).toNat)))] [] [] rfl rfl (by decide) rfl ⟨rfl, rfl, trivial⟩ trivial ?_
          clear hK_ K_ F_ X_ Y_
          refine ta_show (m := (memOf w0 Z0 [] [(oBox g1 168 [(str r4.1), (int .i64 (IntKind.i64.wrap (En.bAt (a0.drop (r4.2.1).toNat) (0 : Int)))), (int .i64 r11.1), (int .i64 r14.1), (int .i64 r18.1), j24v5_5, (str r27.1)]), (oRow j24v5_5 47 tyA8u8 j24x5_5), (oBox g2 168 [(str r4.1), (int .i64 (IntKind.i64.wrap (En.bAt (a0.drop (r4.2.1).toNat) (0 : Int)))), (int .i64 r11.1), (int .i64 r14.1), (int .i64 r18.1), j24v5_5, (str r27.1)])] [])) (S := (tab [(2, (ptr g1 0)), (3, (str (j24s0.drop (r27.2.1).toNat)))])) ?_
          refine ta_step 6 _ [] [] [] [] [] [] rfl rfl rfl (by kernel_rfl) rfl rfl rfl trivial ?_
          intro X_ Y_ F_ K_ hK_
          refine al_show (m := Mem.plus (memOf w0 Z0 [] [(oBox g1 168 [(str r4.1), (int .i64 (IntKind.i64.wrap (En.bAt (a0.drop (r4.2.1).toNat) (0 : Int)))), (int .i64 r11.1), (int .i64 r14.1), (int .i64 r18.1), j24v5_5, (str r27.1)]), (oRow j24v5_5 47 tyA8u8 j24x5_5), (oBox g2 168 [(str r4.1), (int .i64 (IntKind.i64.wrap (En.bAt (a0.drop (r4.2.1).toNat) (0 : Int)))), (int .i64 r11.1), (int .i64 r14.1), (int .i64 r18.1), j24v5_5, (str r27.1)])] []) X_ Y_) (S := over (tab [(2, (ptr g1 0)), (3, (str (j24s0.drop (r27.2.1).toNat)))]) F_) ?_
          refine al_as rfl rfl ?_
          refine al_nil ?_
          refine aq_show (m := Mem.plus (memOf w0 Z0 [] [(oBox g1 168 [(str r4.1), (int .i64 (IntKind.i64.wrap (En.bAt (a0.drop (r4.2.1).toNat) (0 : Int)))), (int .i64 r11.1), (int .i64 r14.1), (int .i64 r18.1), j24v5_5, (str r27.1)]), (oRow j24v5_5 47 tyA8u8 j24x5_5), (oBox g2 168 [(str r4.1), (int .i64 (IntKind.i64.wrap (En.bAt (a0.drop (r4.2.1).toNat) (0 : Int)))), (int .i64 r11.1), (int .i64 r14.1), (int .i64 r18.1), j24v5_5, (str r27.1)])] []) X_ Y_) ?_
          refine aq_next hK_ [0, 1, 2] [] [(2, (ptr g1 0)), (3, (str (j24s0.drop (r27.2.1).toNat))), (4, (int .i64 (0 : Int)))] [] [] rfl rfl (by decide) rfl ⟨rfl, rfl, rfl, trivial⟩ trivial ?_
          clear hK_ K_ F_ X_ Y_
          refine ta_show (m := (memOf w0 Z0 [] [(oBox g1 168 [(str r4.1), (int .i64 (IntKind.i64.wrap (En.bAt (a0.drop (r4.2.1).toNat) (0 : Int)))), (int .i64 r11.1), (int .i64 r14.1), (int .i64 r18.1), j24v5_5, (str r27.1)]), (oRow j24v5_5 47 tyA8u8 j24x5_5), (oBox g2 168 [(str r4.1), (int .i64 (IntKind.i64.wrap (En.bAt (a0.drop (r4.2.1).toNat) (0 : Int)))), (int .i64 r11.1), (int .i64 r14.1), (int .i64 r18.1), j24v5_5, (str r27.1)])] [])) (S := (tab [(2, (ptr g1 0)), (3, (str (j24s0.drop (r27.2.1).toNat))), (4, (int .i64 (0 : Int)))])) ?_
          refine ta_end [] [] rfl rfl (by kernel_rfl) rfl trivial ?_
          refine aq_show (m := (memOf w0 Z0 [] [(oBox g1 168 [(str r4.1), (int .i64 (IntKind.i64.wrap (En.bAt (a0.drop (r4.2.1).toNat) (0 : Int)))), (int .i64 r11.1), (int .i64 r14.1), (int .i64 r18.1), j24v5_5, (str r27.1)]), (oRow j24v5_5 47 tyA8u8 j24x5_5), (oBox g2 168 [(str r4.1), (int .i64 (IntKind.i64.wrap (En.bAt (a0.drop (r4.2.1).toNat) (0 : Int)))), (int .i64 r11.1), (int .i64 r14.1), (int .i64 r18.1), j24v5_5, (str r27.1)])] [])) (S := (tab [(2, (ptr g1 0)), (3, (str (j24s0.drop (r27.2.1).toNat))), (4, (int .i64 (0 : Int)))])) ?_
          refine aq_then ?_
          refine aw_ret ?_
          refine aq_freeze 1 rfl rfl ?_
          obtain rfl := Option.some.inj h
          exact fn_ret j24v5_5 [] [0] rfl rfl rfl rfl (resC rfl (resB (i := 0) rfl rfl Tryd.underlying168 sz168 rfl rfl rfl (resT rfl (resT rfl (resN)))) rfl) rfl rfl rfl (by decide)
        ·clear hkk25
         refine aw_sr ?_
         refine al_mv rfl rfl ?_
         refine al_mv rfl rfl ?_
         refine al_nt ?_
         refine aw_block ?_
         refine aw_nilR 47 tyA8u8 ?_
         refine aw_state (aw_loop (ι := (List UInt8) × Value × (List A8u8) × Int) (fun i => (memOf w0 Z0 [] [(oBox g1 168 [(str ([] : List UInt8)), (int .i64 (0 : Int)), (int .i64 (0 : Int)), (int .i64 (0 : Int)), (int .i64 (0 : Int)), (Value.slice none 0 0), (str ([] : List UInt8))]), (oRow i.2.1 47 tyA8u8 i.2.2.1), (oBox g2 168 [(str r4.1), (int .i64 (IntKind.i64.wrap (En.bAt (a0.drop (r4.2.1).toNat) (0 : Int)))), (int .i64 r11.1), (int .i64 r14.1), (int .i64 r18.1), i.2.1, (str ([] : List UInt8))])] [])) (fun i => (tab [(0, (str i.1)), (2, (ptr g1 0)), (5, (ptr g2 0)), (84, (int .i64 r21.1)), (85, (int .i64 i.2.2.2))])) (fun q i => f_lumref_nodeRead_L32 r21 kk25 q i.1 i.2.2.1 i.2.2.2 = some r) ?_ fu (r21.2.1, (Value.slice none 0 0), ([] : List A8u8), (0 : Int)) h) (fun w a hm hs => norm hm hs [2, 0, 1] [] [(0, (str r21.2.1)), (2, (ptr g1 0)), (5, (ptr g2 0)), (84, (int .i64 r21.1)), (85, (int .i64 (0 : Int)))] (by decide) ⟨rfl, rfl, rfl, rfl, rfl, trivial⟩)
         clear h
         rintro k31 ⟨l30s0, l30v5_5, l30x5_5, l30i85⟩ h
         have h : f_lumref_nodeRead_L32 r21 kk25 k31 l30s0 l30x5_5 l30i85 = some r := h
         obtain _ | k31 := k31
         · rw [f_lumref_nodeRead_L32] at h; cases h
         rw [f_lumref_nodeRead_L32] at h
         refine aw_show (m := (memOf w0 Z0 [] [(oBox g1 168 [(str ([] : List UInt8)), (int .i64 (0 : Int)), (int .i64 (0 : Int)), (int .i64 (0 : Int)), (int .i64 (0 : Int)), (Value.slice none 0 0), (str ([] : List UInt8))]), (oRow l30v5_5 47 tyA8u8 l30x5_5), (oBox g2 168 [(str r4.1), (int .i64 (IntKind.i64.wrap (En.bAt (a0.drop (r4.2.1).toNat) (0 : Int)))), (int .i64 r11.1), (int .i64 r14.1), (int .i64 r18.1), l30v5_5, (str ([] : List UInt8))])] [])) (S := (tab [(0, (str l30s0)), (2, (ptr g1 0)), (5, (ptr g2 0)), (84, (int .i64 r21.1)), (85, (int .i64 l30i85))])) ?_
         refine aw_sr ?_
         refine al_in rfl rfl rfl rfl ?_
         refine al_nt ?_
         refine aw_seq ?_
         refine aw_cond rfl (fun hb33 => ?_) (fun hb33 => ?_)
         ·replace h := bif_t hb33 h
          refine aw_skip ?_
          refine aq_then ?_
          refine aw_seq ?_
          refine aw_block ?_
          refine aw_seq ?_
          obtain ⟨hc34, h⟩ := req_some h
          obtain ⟨hc35, h⟩ := req_some h
          obtain ⟨hc38, h⟩ := req_some h
          refine aw_region_open [⟨0, 87, Unit, fun _ => { val := (ptr g2 5) }⟩, ⟨1, 88, Unit, fun _ => { val := l30v5_5 }⟩, ⟨2, 89, Unit, fun _ => { val := (str l30s0) }⟩, ⟨3, 90, Unit, fun _ => { val := (str (l30s0.take ((8 : Int)).toNat)) }⟩, ⟨4, 91, Value, fun (i : Value) => { val := i, fz := [(fDat (tyList tyU8) [i] (l30s0.take ((8 : Int)).toNat))] }⟩, ⟨5, 92, Value, fun (i : Value) => { val := i, fz := [(fPtr tyA8u8 i (ofA8u8 (l30s0.take ((8 : Int)).toNat)))] }⟩, ⟨6, 93, Unit, fun _ => { val := (ag (cA8u8 (ofA8u8 (l30s0.take ((8 : Int)).toNat)))) }⟩, ⟨7, 94, Value, fun (i : Value) => { val := i, own := [(oRow i 47 tyA8u8 [(ofA8u8 (l30s0.take ((8 : Int)).toNat))])] }⟩] (tab [(0, (str l30s0)), (2, (ptr g1 0)), (5, (ptr g2 0)), (84, (int .i64 r21.1)), (85, (int .i64 l30i85))]) mixed (fun a hs => hs.tab _ (allT_mem ⟨rfl, rfl, rfl, rfl, rfl, trivial⟩)) ?_
          refine ta_show (m := (memOf w0 Z0 [] [(oBox g1 168 [(str ([] : List UInt8)), (int .i64 (0 : Int)), (int .i64 (0 : Int)), (int .i64 (0 : Int)), (int .i64 (0 : Int)), (Value.slice none 0 0), (str ([] : List UInt8))]), (oRow l30v5_5 47 tyA8u8 l30x5_5), (oBox g2 168 [(str r4.1), (int .i64 (IntKind.i64.wrap (En.bAt (a0.drop (r4.2.1).toNat) (0 : Int)))), (int .i64 r11.1), (int .i64 r14.1), (int .i64 r18.1), l30v5_5, (str ([] : List UInt8))])] [])) (S := (tab [(0, (str l30s0)), (2, (ptr g1 0)), (5, (ptr g2 0)), (84, (int .i64 r21.1)), (85, (int .i64 l30i85))])) ?_
          refine ta_step 8 _ [0, 1, 2, 3, 4, 5, 6, 7] [87, 88, 89, 90, 91, 92, 93, 94] [0, 1, 2, 3, 4, 5, 6, 7] [9] [⟨0, 87, Unit, fun _ => { val := (ptr g2 5) }⟩, ⟨1, 88, Unit, fun _ => { val := l30v5_5 }⟩, ⟨2, 89, Unit, fun _ => { val := (str l30s0) }⟩, ⟨3, 90, Unit, fun _ => { val := (str (l30s0.take ((8 : Int)).toNat)) }⟩, ⟨4, 91, Value, fun (i : Value) => { val := i, fz := [(fDat (tyList tyU8) [i] (l30s0.take ((8 : Int)).toNat))] }⟩, ⟨5, 92, Value, fun (i : Value) => { val := i, fz := [(fPtr tyA8u8 i (ofA8u8 (l30s0.take ((8 : Int)).toNat)))] }⟩, ⟨6, 93, Unit, fun _ => { val := (ag (cA8u8 (ofA8u8 (l30s0.take ((8 : Int)).toNat)))) }⟩, ⟨7, 94, Value, fun (i : Value) => { val := i, own := [(oRow i 47 tyA8u8 [(ofA8u8 (l30s0.take ((8 : Int)).toNat))])] }⟩] [] rfl rfl rfl (by kernel_rfl) rfl rfl rfl ⟨⟨_, rfl, [], rfl, by
 intro X_ Y_ F_ K_ hK_
 refine al_show (m := Mem.plus (memOf w0 Z0 [] [(oBox g1 168 [(str ([] : List UInt8)), (int .i64 (0 : Int)), (int .i64 (0 : Int)), (int .i64 (0 : Int)), (int .i64 (0 : Int)), (Value.slice none 0 0), (str ([] : List UInt8))]), (oRow l30v5_5 47 tyA8u8 l30x5_5), (oBox g2 168 [(str r4.1), (int .i64 (IntKind.i64.wrap (En.bAt (a0.drop (r4.2.1).toNat) (0 : Int)))), (int .i64 r11.1), (int .i64 r14.1), (int .i64 r18.1), l30v5_5, (str ([] : List UInt8))])] []) X_ Y_) (S := over (tab [(0, (str l30s0)), (2, (ptr g1 0)), (5, (ptr g2 0)), (84, (int .i64 r21.1)), (85, (int .i64 l30i85))]) F_) ?_
 refine al_val (ov_fieldA (p := 5) rfl Tryd.underlying168 rfl sz27 rfl rfl rfl) ?_
 refine al_nil ?_
 exact fr_fin hK_ ()⟩, ⟨_, rfl, [0], rfl, by
 intro _
 intro X_ Y_ F_ K_ hK_
 refine al_show (m := Mem.plus (memOf w0 Z0 [] [(oBox g1 168 [(str ([] : List UInt8)), (int .i64 (0 : Int)), (int .i64 (0 : Int)), (int .i64 (0 : Int)), (int .i64 (0 : Int)), (Value.slice none 0 0), (str ([] : List UInt8))]), (oRow l30v5_5 47 tyA8u8 l30x5_5), (oBox g2 168 [(str r4.1), (int .i64 (IntKind.i64.wrap (En.bAt (a0.drop (r4.2.1).toNat) (0 : Int)))), (int .i64 r11.1), (int .i64 r14.1), (int .i64 r18.1), l30v5_5, (str ([] : List UInt8))])] []) X_ Y_) (S := over (put (tab [(0, (str l30s0)), (2, (ptr g1 0)), (5, (ptr g2 0)), (84, (int .i64 r21.1)), (85, (int .i64 l30i85))]) 87 (ptr g2 5)) F_) ?_
 refine al_val (ov_load (i := 2) (v := l30v5_5) rfl rfl Tryd.underlying27 sz27 rfl rfl rfl rfl) ?_
 refine al_nil ?_
 exact fr_fin hK_ ()⟩, ⟨_, rfl, [], rfl, by
 intro X_ Y_ F_ K_ hK_
 refine al_show (m := Mem.plus (memOf w0 Z0 [] [(oBox g1 168 [(str ([] : List UInt8)), (int .i64 (0 : Int)), (int .i64 (0 : Int)), (int .i64 (0 : Int)), (int .i64 (0 : Int)), (Value.slice none 0 0), (str ([] : List UInt8))]), (oRow l30v5_5 47 tyA8u8 l30x5_5), (oBox g2 168 [(str r4.1), (int .i64 (IntKind.i64.wrap (En.bAt (a0.drop (r4.2.1).toNat) (0 : Int)))), (int .i64 r11.1), (int .i64 r14.1), (int .i64 r18.1), l30v5_5, (str ([] : List UInt8))])] []) X_ Y_) (S := over (tab [(0, (str l30s0)), (2, (ptr g1 0)), (5, (ptr g2 0)), (84, (int .i64 r21.1)), (85, (int .i64 l30i85))]) F_) ?_
 refine al_mv rfl rfl ?_
 refine al_nil ?_
 exact fr_fin hK_ ()⟩, ⟨_, rfl, [2], rfl, by
 intro _
 intro X_ Y_ F_ K_ hK_
 refine al_show (m := Mem.plus (memOf w0 Z0 [] [(oBox g1 168 [(str ([] : List UInt8)), (int .i64 (0 : Int)), (int .i64 (0 : Int)), (int .i64 (0 : Int)), (int .i64 (0 : Int)), (Value.slice none 0 0), (str ([] : List UInt8))]), (oRow l30v5_5 47 tyA8u8 l30x5_5), (oBox g2 168 [(str r4.1), (int .i64 (IntKind.i64.wrap (En.bAt (a0.drop (r4.2.1).toNat) (0 : Int)))), (int .i64 r11.1), (int .i64 r14.1), (int .i64 r18.1), l30v5_5, (str ([] : List UInt8))])] []) X_ Y_) (S := over (put (tab [(0, (str l30s0)), (2, (ptr g1 0)), (5, (ptr g2 0)), (84, (int .i64 r21.1)), (85, (int .i64 l30i85))]) 89 (str l30s0)) F_) ?_
 refine al_val (ov_strTo hc34.1 hc34.2 Tryd.underlying9 rfl rfl rfl) ?_
 refine al_nil ?_
 exact fr_fin hK_ ()⟩, ⟨_, rfl, [3], rfl, by
 intro _
 intro X_ Y_ F_ K_ hK_
 refine al_show (m := Mem.plus (memOf w0 Z0 [] [(oBox g1 168 [(str ([] : List UInt8)), (int .i64 (0 : Int)), (int .i64 (0 : Int)), (int .i64 (0 : Int)), (int .i64 (0 : Int)), (Value.slice none 0 0), (str ([] : List UInt8))]), (oRow l30v5_5 47 tyA8u8 l30x5_5), (oBox g2 168 [(str r4.1), (int .i64 (IntKind.i64.wrap (En.bAt (a0.drop (r4.2.1).toNat) (0 : Int)))), (int .i64 r11.1), (int .i64 r14.1), (int .i64 r18.1), l30v5_5, (str ([] : List UInt8))])] []) X_ Y_) (S := over (put (tab [(0, (str l30s0)), (2, (ptr g1 0)), (5, (ptr g2 0)), (84, (int .i64 r21.1)), (85, (int .i64 l30i85))]) 90 (str (l30s0.take ((8 : Int)).toNat))) F_) ?_
 refine al_bytes hc35 rfl Tryd.underlying9 Tryd.underlying113 Tryd.underlying5 rfl (fun s36 => ?_)
 refine al_nil ?_
 exact fr_fin hK_ s36⟩, ⟨_, rfl, [4], rfl, by
 intro s36
 intro X_ Y_ F_ K_ hK_
 refine al_show (m := Mem.plus (memOf w0 Z0 [] [(oBox g1 168 [(str ([] : List UInt8)), (int .i64 (0 : Int)), (int .i64 (0 : Int)), (int .i64 (0 : Int)), (int .i64 (0 : Int)), (Value.slice none 0 0), (str ([] : List UInt8))]), (oRow l30v5_5 47 tyA8u8 l30x5_5), (oBox g2 168 [(str r4.1), (int .i64 (IntKind.i64.wrap (En.bAt (a0.drop (r4.2.1).toNat) (0 : Int)))), (int .i64 r11.1), (int .i64 r14.1), (int .i64 r18.1), l30v5_5, (str ([] : List UInt8))])] [(fDat (tyList tyU8) [s36] (l30s0.take ((8 : Int)).toNat))]) X_ Y_) (S := over (put (tab [(0, (str l30s0)), (2, (ptr g1 0)), (5, (ptr g2 0)), (84, (int .i64 r21.1)), (85, (int .i64 l30i85))]) 91 s36) F_) ?_
 refine al_s2ap (τA := tyA8u8) (x := (ofA8u8 (l30s0.take ((8 : Int)).toNat))) 0 8 hc38 rfl (fun h9 => oflA8u8 hc38 h9) rfl rfl Tryd.underlying47 rfl (fun p37 => ?_)
 refine al_nil ?_
 exact fr_fin hK_ p37⟩, ⟨_, rfl, [5], rfl, by
 intro p37
 intro X_ Y_ F_ K_ hK_
 refine al_show (m := Mem.plus (memOf w0 Z0 [] [(oBox g1 168 [(str ([] : List UInt8)), (int .i64 (0 : Int)), (int .i64 (0 : Int)), (int .i64 (0 : Int)), (int .i64 (0 : Int)), (Value.slice none 0 0), (str ([] : List UInt8))]), (oRow l30v5_5 47 tyA8u8 l30x5_5), (oBox g2 168 [(str r4.1), (int .i64 (IntKind.i64.wrap (En.bAt (a0.drop (r4.2.1).toNat) (0 : Int)))), (int .i64 r11.1), (int .i64 r14.1), (int .i64 r18.1), l30v5_5, (str ([] : List UInt8))])] [(fPtr tyA8u8 p37 (ofA8u8 (l30s0.take ((8 : Int)).toNat)))]) X_ Y_) (S := over (put (tab [(0, (str l30s0)), (2, (ptr g1 0)), (5, (ptr g2 0)), (84, (int .i64 r21.1)), (85, (int .i64 l30i85))]) 92 p37) F_) ?_
 refine al_val (ov_loadP (ds := (cA8u8 (ofA8u8 (l30s0.take ((8 : Int)).toNat)))) 0 rfl encA8u8 rfl Tryd.underlying47 sz47 rfl rfl rfl) ?_
 refine al_nil ?_
 exact fr_fin hK_ ()⟩, ⟨_, rfl, [6], rfl, by
 intro _
 intro X_ Y_ F_ K_ hK_
 refine al_show (m := Mem.plus (memOf w0 Z0 [] [(oBox g1 168 [(str ([] : List UInt8)), (int .i64 (0 : Int)), (int .i64 (0 : Int)), (int .i64 (0 : Int)), (int .i64 (0 : Int)), (Value.slice none 0 0), (str ([] : List UInt8))]), (oRow l30v5_5 47 tyA8u8 l30x5_5), (oBox g2 168 [(str r4.1), (int .i64 (IntKind.i64.wrap (En.bAt (a0.drop (r4.2.1).toNat) (0 : Int)))), (int .i64 r11.1), (int .i64 r14.1), (int .i64 r18.1), l30v5_5, (str ([] : List UInt8))])] []) X_ Y_) (S := over (put (tab [(0, (str l30s0)), (2, (ptr g1 0)), (5, (ptr g2 0)), (84, (int .i64 r21.1)), (85, (int .i64 l30i85))]) 93 (ag (cA8u8 (ofA8u8 (l30s0.take ((8 : Int)).toNat))))) F_) ?_
 refine al_buildSlice (τ := tyA8u8) (e := 47) (k := 1) (sz := 0) (by_ := 0) (z := undef) (cs := (cA8u8 (ofA8u8 (l30s0.take ((8 : Int)).toNat)))) (xs := [(ofA8u8 (l30s0.take ((8 : Int)).toNat))]) rfl (by decide) (fun w a hm hs => ⟨((cA8u8 (ofA8u8 (l30s0.take ((8 : Int)).toNat)))).toArray, rfl, by simp only [List.map_toArray, List.map_cons, List.map_nil, hs.ev (x := .tmp 93) rfl]; exact run_bs [(ag (cA8u8 (ofA8u8 (l30s0.take ((8 : Int)).toNat))))] (cA8u8 (ofA8u8 (l30s0.take ((8 : Int)).toNat))) Tryd.underlying27 to47 rfl rfl (bs_cons (l := (cA8u8 (ofA8u8 (l30s0.take ((8 : Int)).toNat)))) (cs := []) (cv_rfl rfl) rfl bs_nil) hm⟩) (fun hm => ⟨(cA8u8 (ofA8u8 (l30s0.take ((8 : Int)).toNat))), [], rfl, mkA8u8 rfl, rfl⟩) rfl (fun v39 => ?_)
 refine al_nil ?_
 exact fr_fin hK_ v39⟩, trivial⟩ ?_
          intro _
          intro _
          intro _
          intro _
          intro s36
          intro p37
          intro _
          intro v39
          intro X_ Y_ F_ K_ hK_
          refine al_show (m := Mem.plus (memOf w0 Z0 [] [(oRow v39 47 tyA8u8 [(ofA8u8 (l30s0.take ((8 : Int)).toNat))]), (oBox g1 168 [(str ([] : List UInt8)), (int .i64 (0 : Int)), (int .i64 (0 : Int)), (int .i64 (0 : Int)), (int .i64 (0 : Int)), (Value.slice none 0 0), (str ([] : List UInt8))]), (oRow l30v5_5 47 tyA8u8 l30x5_5), (oBox g2 168 [(str r4.1), (int .i64 (IntKind.i64.wrap (En.bAt (a0.drop (r4.2.1).toNat) (0 : Int)))), (int .i64 r11.1), (int .i64 r14.1), (int .i64 r18.1), l30v5_5, (str ([] : List UInt8))])] [(fPtr tyA8u8 p37 (ofA8u8 (l30s0.take ((8 : Int)).toNat))), (fDat (tyList tyU8) [s36] (l30s0.take ((8 : Int)).toNat))]) X_ Y_) (S := over (put (put (put (put (put (put (put (put (tab [(0, (str l30s0)), (2, (ptr g1 0)), (5, (ptr g2 0)), (84, (int .i64 r21.1)), (85, (int .i64 l30i85))]) 87 (ptr g2 5)) 88 l30v5_5) 89 (str l30s0)) 90 (str (l30s0.take ((8 : Int)).toNat))) 91 s36) 92 p37) 93 (ag (cA8u8 (ofA8u8 (l30s0.take ((8 : Int)).toNat))))) 94 v39) F_) ?_
          obtain ⟨hc40, h⟩ := req_some h
          refine al_append 2 hc40.1 hc40.2 rfl (src_own (i := 2) 0 rfl) rfl rfl Tryd.underlying27 to47 rfl rfl rfl (fun v41 => ?_)
          refine al_nil ?_
          refine aq_show (m := Mem.plus (memOf w0 Z0 [] [(oRow v39 47 tyA8u8 [(ofA8u8 (l30s0.take ((8 : Int)).toNat))]), (oBox g1 168 [(str ([] : List UInt8)), (int .i64 (0 : Int)), (int .i64 (0 : Int)), (int .i64 (0 : Int)), (int .i64 (0 : Int)), (Value.slice none 0 0), (str ([] : List UInt8))]), (oRow v41 47 tyA8u8 (l30x5_5 ++ ([(ofA8u8 (l30s0.take ((8 : Int)).toNat))]))), (oBox g2 168 [(str r4.1), (int .i64 (IntKind.i64.wrap (En.bAt (a0.drop (r4.2.1).toNat) (0 : Int)))), (int .i64 r11.1), (int .i64 r14.1), (int .i64 r18.1), l30v5_5, (str ([] : List UInt8))])] [(fPtr tyA8u8 p37 (ofA8u8 (l30s0.take ((8 : Int)).toNat))), (fDat (tyList tyU8) [s36] (l30s0.take ((8 : Int)).toNat))]) X_ Y_) ?_
          refine aq_next hK_ [0, 1, 2, 3] [] [(0, (str l30s0)), (2, (ptr g1 0)), (5, (ptr g2 0)), (84, (int .i64 r21.1)), (85, (int .i64 l30i85)), (95, v41)] [] [⟨9, 96, Unit, fun _ => { val := (ptr g2 5) }⟩] rfl rfl (by decide) rfl ⟨rfl, rfl, rfl, rfl, rfl, rfl, trivial⟩ trivial ?_
          clear hK_ K_ F_ X_ Y_
          refine ta_show (m := (memOf w0 Z0 [] [(oRow v39 47 tyA8u8 [(ofA8u8 (l30s0.take ((8 : Int)).toNat))]), (oBox g1 168 [(str ([] : List UInt8)), (int .i64 (0 : Int)), (int .i64 (0 : Int)), (int .i64 (0 : Int)), (int .i64 (0 : Int)), (Value.slice none 0 0), (str ([] : List UInt8))]), (oRow v41 47 tyA8u8 (l30x5_5 ++ ([(ofA8u8 (l30s0.take ((8 : Int)).toNat))]))), (oBox g2 168 [(str r4.1), (int .i64 (IntKind.i64.wrap (En.bAt (a0.drop (r4.2.1).toNat) (0 : Int)))), (int .i64 r11.1), (int .i64 r14.1), (int .i64 r18.1), l30v5_5, (str ([] : List UInt8))])] [])) (S := (tab [(0, (str l30s0)), (2, (ptr g1 0)), (5, (ptr g2 0)), (84, (int .i64 r21.1)), (85, (int .i64 l30i85)), (95, v41)])) ?_
          refine ta_step 10 _ [9] [96] [9] [] [⟨9, 96, Unit, fun _ => { val := (ptr g2 5) }⟩] [] rfl rfl rfl (by kernel_rfl) rfl rfl rfl ⟨⟨_, rfl, [], rfl, by
 intro X_ Y_ F_ K_ hK_
 refine al_show (m := Mem.plus (memOf w0 Z0 [] [(oRow v39 47 tyA8u8 [(ofA8u8 (l30s0.take ((8 : Int)).toNat))]), (oBox g1 168 [(str ([] : List UInt8)), (int .i64 (0 : Int)), (int .i64 (0 : Int)), (int .i64 (0 : Int)), (int .i64 (0 : Int)), (Value.slice none 0 0), (str ([] : List UInt8))]), (oRow v41 47 tyA8u8 (l30x5_5 ++ ([(ofA8u8 (l30s0.take ((8 : Int)).toNat))]))), (oBox g2 168 [(str r4.1), (int .i64 (IntKind.i64.wrap (En.bAt (a0.drop (r4.2.1).toNat) (0 : Int)))), (int .i64 r11.1), (int .i64 r14.1), (int .i64 r18.1), l30v5_5, (str ([] : List UInt8))])] []) X_ Y_) (S := over (tab [(0, (str l30s0)), (2, (ptr g1 0)), (5, (ptr g2 0)), (84, (int .i64 r21.1)), (85, (int .i64 l30i85)), (95, v41)]) F_) ?_
 refine al_val (ov_fieldA (p := 5) rfl Tryd.underlying168 rfl sz27 rfl rfl rfl) ?_
 refine al_nil ?_
 exact fr_fin hK_ ()⟩, trivial⟩ ?_
          intro _
          intro X_ Y_ F_ K_ hK_
          refine al_show (m := Mem.plus (memOf w0 Z0 [] [(oRow v39 47 tyA8u8 [(ofA8u8 (l30s0.take ((8 : Int)).toNat))]), (oBox g1 168 [(str ([] : List UInt8)), (int .i64 (0 : Int)), (int .i64 (0 : Int)), (int .i64 (0 : Int)), (int .i64 (0 : Int)), (Value.slice none 0 0), (str ([] : List UInt8))]), (oRow v41 47 tyA8u8 (l30x5_5 ++ ([(ofA8u8 (l30s0.take ((8 : Int)).toNat))]))), (oBox g2 168 [(str r4.1), (int .i64 (IntKind.i64.wrap (En.bAt (a0.drop (r4.2.1).toNat) (0 : Int)))), (int .i64 r11.1), (int .i64 r14.1), (int .i64 r18.1), l30v5_5, (str ([] : List UInt8))])] []) X_ Y_) (S := over (put (tab [(0, (str l30s0)), (2, (ptr g1 0)), (5, (ptr g2 0)), (84, (int .i64 r21.1)), (85, (int .i64 l30i85)), (95, v41)]) 96 (ptr g2 5)) F_) ?_
          refine al_store (i := 3) (vs := [v41]) (cs' := [(str r4.1), (int .i64 (IntKind.i64.wrap (En.bAt (a0.drop (r4.2.1).toNat) (0 : Int)))), (int .i64 r11.1), (int .i64 r14.1), (int .i64 r18.1), v41, (str ([] : List UInt8))]) rfl rfl rfl sz27 (cv_own 2 rfl) rfl (co_own 2 rfl co_nil) (Nat.le_of_ble_eq_true rfl) rfl rfl ?_
          refine al_nil ?_
          refine aq_show (m := Mem.plus (memOf w0 Z0 [] [(oRow v39 47 tyA8u8 [(ofA8u8 (l30s0.take ((8 : Int)).toNat))]), (oBox g1 168 [(str ([] : List UInt8)), (int .i64 (0 : Int)), (int .i64 (0 : Int)), (int .i64 (0 : Int)), (int .i64 (0 : Int)), (Value.slice none 0 0), (str ([] : List UInt8))]), (oRow v41 47 tyA8u8 (l30x5_5 ++ ([(ofA8u8 (l30s0.take ((8 : Int)).toNat))]))), (oBox g2 168 [(str r4.1), (int .i64 (IntKind.i64.wrap (En.bAt (a0.drop (r4.2.1).toNat) (0 : Int)))), (int .i64 r11.1), (int .i64 r14.1), (int .i64 r18.1), v41, (str ([] : List UInt8))])] []) X_ Y_) ?_
          refine aq_next hK_ [0, 1, 2, 3] [] [(0, (str l30s0)), (2, (ptr g1 0)), (5, (ptr g2 0)), (84, (int .i64 r21.1)), (85, (int .i64 l30i85))] [] [] rfl rfl (by decide) rfl ⟨rfl, rfl, rfl, rfl, rfl, trivial⟩ trivial ?_
          clear hK_ K_ F_ X_ Y_
          refine ta_show (m := (memOf w0 Z0 [] [(oRow v39 47 tyA8u8 [(ofA8u8 (l30s0.take ((8 : Int)).toNat))]), (oBox g1 168 [(str ([] : List UInt8)), (int .i64 (0 : Int)), (int .i64 (0 : Int)), (int .i64 (0 : Int)), (int .i64 (0 : Int)), (Value.slice none 0 0), (str ([] : List UInt8))]), (oRow v41 47 tyA8u8 (l30x5_5 ++ ([(ofA8u8 (l30s0.take ((8 : Int)).toNat))]))), (oBox g2 168 [(str r4.1), (int .i64 (IntKind.i64.wrap (En.bAt (a0.drop (r4.2.1).toNat) (0 : Int)))), (int .i64 r11.1), (int .i64 r14.1), (int .i64 r18.1), v41, (str ([] : List UInt8))])] [])) (S := (tab [(0, (str l30s0)), (2, (ptr g1 0)), (5, (ptr g2 0)), (84, (int .i64 r21.1)), (85, (int .i64 l30i85))])) ?_
          refine ta_end [] [] rfl rfl (by kernel_rfl) rfl trivial ?_
          refine aq_show (m := (memOf w0 Z0 [] [(oRow v39 47 tyA8u8 [(ofA8u8 (l30s0.take ((8 : Int)).toNat))]), (oBox g1 168 [(str ([] : List UInt8)), (int .i64 (0 : Int)), (int .i64 (0 : Int)), (int .i64 (0 : Int)), (int .i64 (0 : Int)), (Value.slice none 0 0), (str ([] : List UInt8))]), (oRow v41 47 tyA8u8 (l30x5_5 ++ ([(ofA8u8 (l30s0.take ((8 : Int)).toNat))]))), (oBox g2 168 [(str r4.1), (int .i64 (IntKind.i64.wrap (En.bAt (a0.drop (r4.2.1).toNat) (0 : Int)))), (int .i64 r11.1), (int .i64 r14.1), (int .i64 r18.1), v41, (str ([] : List UInt8))])] [])) (S := (tab [(0, (str l30s0)), (2, (ptr g1 0)), (5, (ptr g2 0)), (84, (int .i64 r21.1)), (85, (int .i64 l30i85))])) ?_
          refine aq_then ?_
          refine aw_region ?_
          refine al_mv rfl rfl ?_
          obtain ⟨hc42, h⟩ := req_some h
          refine al_val (ov_strFrom hc42.1 hc42.2 Tryd.underlying9 rfl rfl rfl) ?_
          refine al_as rfl rfl ?_
          refine al_nil ?_
          refine aq_block ?_
          refine aq_then ?_
          refine aw_region ?_
          refine al_in rfl rfl rfl rfl ?_
          refine al_mv rfl rfl ?_
          refine al_nil ?_
          exact aq_again k31 ((l30s0.drop ((8 : Int)).toNat), v41, (l30x5_5 ++ ([(ofA8u8 (l30s0.take ((8 : Int)).toNat))])), (IntKind.i64.wrap (l30i85 + (1 : Int)))) (Nat.lt_succ_self _) h (fun w a hm hs => norm hm hs [1, 2, 3] [] [(0, (str (l30s0.drop ((8 : Int)).toNat))), (2, (ptr g1 0)), (5, (ptr g2 0)), (84, (int .i64 r21.1)), (85, (int .i64 (IntKind.i64.wrap (l30i85 + (1 : Int)))))] (by decide) ⟨rfl, rfl, rfl, rfl, rfl, trivial⟩)
         ·replace h := bif_f hb33 h
          refine aw_exit ?_
          refine aq_then_exit ?_
          refine aq_then_exit ?_
          refine aq_block_exit ?_
          exact aq_join (l30s0, l30v5_5, l30x5_5) h (fun w a hm hs => norm hm hs [0, 1, 2] [] [(0, (str l30s0)), (2, (ptr g1 0)), (5, (ptr g2 0))] (by decide) ⟨rfl, rfl, rfl, trivial⟩)
def f_lumref_char_L20 (a0 : (List UInt8)) (j4i5 : Int) (kk8 : (Int → Option (Int × Int))) : Nat → Int → Int → Option (Int × Int)
  | 0, _, _ => none
  | k19 + 1, l18i4, l18i53 => (bif (decide (l18i53 < ((cut a0 (1 : Int) j4i5).length : Int))) then (opt (at? (cut a0 (1 : Int) j4i5) l18i53) fun (u22 : UInt8) => (lt (fun (j25b62 : Bool) => (bif j25b62 then (some ((0 : Int), (0 : Int))) else (f_lumref_char_L20 a0 j4i5 kk8 k19 (IntKind.i64.wrap ((IntKind.i64.wrap ((IntKind.i64.wrap ((64 : Int) * l18i4)) + (IntKind.i64.wrap (u22.toNat : Int)))) - (128 : Int))) (IntKind.i64.wrap (l18i53 + (1 : Int)))))) fun (kk26 : Bool → Option (Int × Int)) => (bif (decide ((u22.toNat : Int) < (128 : Int))) then (kk26 true) else (kk26 (decide ((u22.toNat : Int) > (191 : Int))))))) else (kk8 l18i4))
def f_lumref_char (fu : Nat) (a0 : (List UInt8)) : Option (Int × Int) := (bif (a0 == ([] : List UInt8)) then (some ((0 : Int), (0 : Int))) else (req (0 ≤ (0 : Int) ∧ (0 : Int) < (a0.length : Int)) (bif (decide ((IntKind.i64.wrap (En.bAt a0 (0 : Int))) < (128 : Int))) then (some ((IntKind.i64.wrap (En.bAt a0 (0 : Int))), (1 : Int))) else (lt (fun (j4i4 : Int) (j4i5 : Int) (j4i6 : Int) => (bif (decide ((a0.length : Int) < j4i5)) then (some ((0 : Int), (0 : Int))) else (lt (fun (j7i4 : Int) => (lt (fun (j9b84 : Bool) => (bif j9b84 then (some ((0 : Int), (0 : Int))) else (some (j7i4, j4i5)))) fun (kk10 : Bool → Option (Int × Int)) => (bif (decide (j7i4 < j4i6)) then (kk10 true) else (bif (decide (j7i4 > (1114111 : Int))) then (kk10 true) else (bif (decide (j7i4 ≥ (55296 : Int))) then (kk10 (decide (j7i4 < (57344 : Int)))) else (kk10 false)))))) fun (kk8 : Int → Option (Int × Int)) => (req (0 ≤ (1 : Int) ∧ (1 : Int) ≤ j4i5 ∧ j4i5 ≤ (a0.length : Int)) (req ((cut a0 (1 : Int) j4i5).length ≤ 9223372036854775807) (f_lumref_char_L20 a0 j4i5 kk8 fu j4i4 (0 : Int))))))) fun (kk5 : Int → Int → Int → Option (Int × Int)) => (lt (fun (j29b17 : Bool) => (bif j29b17 then (kk5 (IntKind.i64.wrap ((IntKind.i64.wrap (En.bAt a0 (0 : Int))) - (192 : Int))) (2 : Int) (128 : Int)) else (lt (fun (j32b26 : Bool) => (bif j32b26 then (kk5 (IntKind.i64.wrap ((IntKind.i64.wrap (En.bAt a0 (0 : Int))) - (224 : Int))) (3 : Int) (2048 : Int)) else (lt (fun (j35b35 : Bool) => (bif j35b35 then (kk5 (IntKind.i64.wrap ((IntKind.i64.wrap (En.bAt a0 (0 : Int))) - (240 : Int))) (4 : Int) (65536 : Int)) else (some ((0 : Int), (0 : Int))))) fun (kk36 : Bool → Option (Int × Int)) => (bif (decide ((IntKind.i64.wrap (En.bAt a0 (0 : Int))) ≥ (240 : Int))) then (kk36 (decide ((IntKind.i64.wrap (En.bAt a0 (0 : Int))) < (245 : Int)))) else (kk36 false))))) fun (kk33 : Bool → Option (Int × Int)) => (bif (decide ((IntKind.i64.wrap (En.bAt a0 (0 : Int))) ≥ (224 : Int))) then (kk33 (decide ((IntKind.i64.wrap (En.bAt a0 (0 : Int))) < (240 : Int)))) else (kk33 false))))) fun (kk30 : Bool → Option (Int × Int)) => (bif (decide ((IntKind.i64.wrap (En.bAt a0 (0 : Int))) ≥ (194 : Int))) then (kk30 (decide ((IntKind.i64.wrap (En.bAt a0 (0 : Int))) < (224 : Int)))) else (kk30 false)))))))
set_option maxRecDepth 100000 in
set_option maxHeartbeats 2000000 in
theorem f_lumref_char_ok (fu : Nat) (a0 : (List UInt8)) {r : (Int × Int)} (h : f_lumref_char fu a0 = some r) : FnOk Tryd.prog 149 [(str a0)] [] [] (fun (i : Unit) => { val := (Value.tuple #[(int .i64 r.1), (int .i64 r.2)]) }) := by
 unfold f_lumref_char at h
 refine fn_enter Tryd.func149 rfl Tryd.ntmps149 rfl (fun w0 Z0 => ?_)
 refine aw_sr ?_
 refine al_as rfl rfl ?_
 refine al_as rfl rfl ?_
 refine al_nt ?_
 refine aw_seq ?_
 refine aw_sr ?_
 refine al_mv rfl rfl ?_
 refine al_val (ov_strCmp rfl rfl rfl rfl) ?_
 refine al_nt ?_
 refine aw_cond rfl (fun hb1 => ?_) (fun hb1 => ?_)
 ·replace h := bif_t hb1 h
  refine aw_sr ?_
  refine al_as rfl rfl ?_
  refine al_as rfl rfl ?_
  refine al_nt ?_
  refine aw_ret ?_
  refine aq_then_ret ?_
  obtain rfl := Option.some.inj h
  exact fn_ret () [] [] rfl rfl rfl rfl (res2 rfl rfl rfl) rfl rfl rfl (by decide)
 ·replace h := bif_f hb1 h
  refine aw_skip ?_
  refine aq_tr ?_
  refine al_mv rfl rfl ?_
  obtain ⟨hc2, h⟩ := req_some h
  refine al_val (ov_strIdx hc2.1 hc2.2 Tryd.underlying9 rfl rfl rfl) ?_
  refine al_val (ov_convInt (by rw [Tryd.underlying5]; rfl) Tryd.underlying3 rfl rfl) ?_
  refine al_as rfl rfl ?_
  refine al_nt ?_
  refine aw_seq ?_
  refine aw_sr ?_
  refine al_mv rfl rfl ?_
  refine al_in rfl rfl rfl rfl ?_
  refine al_nt ?_
  refine aw_cond rfl (fun hb3 => ?_) (fun hb3 => ?_)
  ·replace h := bif_t hb3 h
   refine aw_sr ?_
   refine al_mv rfl rfl ?_
   refine al_as rfl rfl ?_
   refine al_as rfl rfl ?_
   refine al_nt ?_
   refine aw_ret ?_
   refine aq_then_ret ?_
   obtain rfl := Option.some.inj h
   exact fn_ret () [] [] rfl rfl rfl rfl (res2 rfl rfl rfl) rfl rfl rfl (by decide)
  ·replace h := bif_f hb3 h
   refine aw_skip ?_
   refine aq_tr ?_
   refine al_as rfl rfl ?_
   refine al_as rfl rfl ?_
   refine al_nt ?_
   obtain ⟨kk5, hkk5, h⟩ := lt_some h
   refine aw_seq_join (ι := Int × Int × Int) (fun i => (memOf w0 Z0 [] [] [])) (fun i => (tab [(0, (str a0)), (4, (int .i64 i.1)), (5, (int .i64 i.2.1)), (6, (int .i64 i.2.2))])) (fun i => kk5 i.1 i.2.1 i.2.2 = some r) ?_ ?_
   ·rintro ⟨j4i4, j4i5, j4i6⟩ h
    have h : kk5 j4i4 j4i5 j4i6 = some r := h
    rw [hkk5] at h
    dsimp only at h
    clear hkk5
    refine aw_show (m := (memOf w0 Z0 [] [] [])) (S := (tab [(0, (str a0)), (4, (int .i64 j4i4)), (5, (int .i64 j4i5)), (6, (int .i64 j4i6))])) ?_
    refine aw_seq ?_
    refine aw_sr ?_
    refine al_mv rfl rfl ?_
    refine al_val (ov_strLen Tryd.underlying9 rfl rfl) ?_
    refine al_mv rfl rfl ?_
    refine al_in rfl rfl rfl rfl ?_
    refine al_nt ?_
    refine aw_cond rfl (fun hb6 => ?_) (fun hb6 => ?_)
    ·replace h := bif_t hb6 h
     refine aw_sr ?_
     refine al_as rfl rfl ?_
     refine al_as rfl rfl ?_
     refine al_nt ?_
     refine aw_ret ?_
     refine aq_then_ret ?_
     obtain rfl := Option.some.inj h
     exact fn_ret () [] [] rfl rfl rfl rfl (res2 rfl rfl rfl) rfl rfl rfl (by decide)
    ·replace h := bif_f hb6 h
     refine aw_skip ?_
     refine aq_then ?_
     obtain ⟨kk8, hkk8, h⟩ := lt_some h
     refine aw_seq_join (ι := Int) (fun i => (memOf w0 Z0 [] [] [])) (fun i => (tab [(4, (int .i64 i)), (5, (int .i64 j4i5)), (6, (int .i64 j4i6))])) (fun i => kk8 i = some r) ?_ ?_
     ·rintro j7i4 h
      have h : kk8 j7i4 = some r := h
      rw [hkk8] at h
      dsimp only at h
      clear hkk8
      refine aw_show (m := (memOf w0 Z0 [] [] [])) (S := (tab [(4, (int .i64 j7i4)), (5, (int .i64 j4i5)), (6, (int .i64 j4i6))])) ?_
      refine aw_seq ?_
      obtain ⟨kk10, hkk10, h⟩ := lt_some h
      refine aw_seq_join (ι := Bool) (fun i => (memOf w0 Z0 [] [] [])) (fun i => (tab [(4, (int .i64 j7i4)), (5, (int .i64 j4i5)), (84, (bool i))])) (fun i => kk10 i = some r) ?_ ?_
      ·rintro j9b84 h
       have h : kk10 j9b84 = some r := h
       rw [hkk10] at h
       dsimp only at h
       clear hkk10
       refine aw_show (m := (memOf w0 Z0 [] [] [])) (S := (tab [(4, (int .i64 j7i4)), (5, (int .i64 j4i5)), (84, (bool j9b84))])) ?_
       refine aw_cond rfl (fun hb11 => ?_) (fun hb11 => ?_)
       ·replace h := bif_t hb11 h
        refine aw_sr ?_
        refine al_as rfl rfl ?_
        refine al_as rfl rfl ?_
        refine al_nt ?_
        refine aw_ret ?_
        refine aq_then_ret ?_
        obtain rfl := Option.some.inj h
        exact fn_ret () [] [] rfl rfl rfl rfl (res2 rfl rfl rfl) rfl rfl rfl (by decide)
       ·replace h := bif_f hb11 h
        refine aw_skip ?_
        refine aq_tr ?_
        refine al_mv rfl rfl ?_
        refine al_mv rfl rfl ?_
        refine al_as rfl rfl ?_
        refine al_as rfl rfl ?_
        refine al_nt ?_
        refine aw_ret ?_
        obtain rfl := Option.some.inj h
        exact fn_ret () [] [] rfl rfl rfl rfl (res2 rfl rfl rfl) rfl rfl rfl (by decide)
      ·clear hkk10
       refine aw_region ?_
       refine al_mv rfl rfl ?_
       refine al_mv rfl rfl ?_
       refine al_in rfl rfl rfl rfl ?_
       refine al_mv rfl rfl ?_
       refine al_caseB 73 rfl (fun hb12 => ?_) (fun hb12 => ?_)
       ·replace h := bif_t hb12 h
        refine al_skip ?_
        refine al_skip ?_
        refine al_val (ov_pick_t rfl rfl rfl) ?_
        refine al_mv rfl rfl ?_
        refine al_skip ?_
        refine al_skip ?_
        refine al_skip ?_
        refine al_skip ?_
        refine al_skip ?_
        refine al_skip ?_
        refine al_val (ov_pick_t rfl rfl rfl) ?_
        refine al_nil ?_
        exact aq_join true h (fun w a hm hs => norm hm hs [] [] [(4, (int .i64 j7i4)), (5, (int .i64 j4i5)), (84, (bool true))] (by decide) ⟨rfl, rfl, rfl, trivial⟩)
       ·replace h := bif_f hb12 h
        refine al_mv rfl rfl ?_
        refine al_in rfl rfl rfl rfl ?_
        refine al_val (ov_pick_f rfl rfl rfl) ?_
        refine al_mv rfl rfl ?_
        refine al_caseB 77 rfl (fun hb13 => ?_) (fun hb13 => ?_)
        ·replace h := bif_t hb13 h
         refine al_skip ?_
         refine al_skip ?_
         refine al_skip ?_
         refine al_skip ?_
         refine al_skip ?_
         refine al_skip ?_
         refine al_val (ov_pick_t rfl rfl rfl) ?_
         refine al_nil ?_
         exact aq_join true h (fun w a hm hs => norm hm hs [] [] [(4, (int .i64 j7i4)), (5, (int .i64 j4i5)), (84, (bool true))] (by decide) ⟨rfl, rfl, rfl, trivial⟩)
        ·replace h := bif_f hb13 h
         refine al_mv rfl rfl ?_
         refine al_in rfl rfl rfl rfl ?_
         refine al_mv rfl rfl ?_
         refine al_caseB 80 rfl (fun hb14 => ?_) (fun hb14 => ?_)
         ·replace h := bif_t hb14 h
          refine al_mv rfl rfl ?_
          refine al_in rfl rfl rfl rfl ?_
          refine al_val (ov_pick_t rfl rfl rfl) ?_
          refine al_val (ov_pick_f rfl rfl rfl) ?_
          refine al_nil ?_
          exact aq_join (decide (j7i4 < (57344 : Int))) h (fun w a hm hs => norm hm hs [] [] [(4, (int .i64 j7i4)), (5, (int .i64 j4i5)), (84, (bool (decide (j7i4 < (57344 : Int)))))] (by decide) ⟨rfl, rfl, rfl, trivial⟩)
         ·replace h := bif_f hb14 h
          refine al_skip ?_
          refine al_skip ?_
          refine al_val (ov_pick_f rfl rfl rfl) ?_
          refine al_val (ov_pick_f rfl rfl rfl) ?_
          refine al_nil ?_
          exact aq_join false h (fun w a hm hs => norm hm hs [] [] [(4, (int .i64 j7i4)), (5, (int .i64 j4i5)), (84, (bool false))] (by decide) ⟨rfl, rfl, rfl, trivial⟩)
     ·clear hkk8
      refine aw_sr ?_
      refine al_mv rfl rfl ?_
      refine al_mv rfl rfl ?_
      obtain ⟨hc15, h⟩ := req_some h
      refine al_val (ov_strCut hc15.1 hc15.2.1 hc15.2.2 Tryd.underlying9 rfl rfl rfl rfl) ?_
      obtain ⟨hc16, h⟩ := req_some h
      refine al_bytes hc16 rfl Tryd.underlying9 Tryd.underlying113 Tryd.underlying5 rfl (fun s17 => ?_)
      refine al_val (ov_lenD 0 rfl rfl Tryd.underlying113 rfl) ?_
      refine al_mv rfl rfl ?_
      refine al_nt ?_
      refine aw_block ?_
      refine aw_state (aw_loop (ι := Int × Int) (fun i => (memOf w0 Z0 [] [] [(fDat (tyList tyU8) [s17] (cut a0 (1 : Int) j4i5))])) (fun i => (tab [(4, (int .i64 i.1)), (5, (int .i64 j4i5)), (6, (int .i64 j4i6)), (51, s17), (52, (int .i64 ((cut a0 (1 : Int) j4i5).length : Int))), (53, (int .i64 i.2))])) (fun q i => f_lumref_char_L20 a0 j4i5 kk8 q i.1 i.2 = some r) ?_ fu (j4i4, (0 : Int)) h) (fun w a hm hs => norm hm hs [] [0] [(4, (int .i64 j4i4)), (5, (int .i64 j4i5)), (6, (int .i64 j4i6)), (51, s17), (52, (int .i64 ((cut a0 (1 : Int) j4i5).length : Int))), (53, (int .i64 (0 : Int)))] (by decide) ⟨rfl, rfl, rfl, rfl, rfl, rfl, trivial⟩)
      clear h
      rintro k19 ⟨l18i4, l18i53⟩ h
      have h : f_lumref_char_L20 a0 j4i5 kk8 k19 l18i4 l18i53 = some r := h
      obtain _ | k19 := k19
      · rw [f_lumref_char_L20] at h; cases h
      rw [f_lumref_char_L20] at h
      refine aw_show (m := (memOf w0 Z0 [] [] [(fDat (tyList tyU8) [s17] (cut a0 (1 : Int) j4i5))])) (S := (tab [(4, (int .i64 l18i4)), (5, (int .i64 j4i5)), (6, (int .i64 j4i6)), (51, s17), (52, (int .i64 ((cut a0 (1 : Int) j4i5).length : Int))), (53, (int .i64 l18i53))])) ?_
      refine aw_sr ?_
      refine al_in rfl rfl rfl rfl ?_
      refine al_nt ?_
      refine aw_seq ?_
      refine aw_cond rfl (fun hb21 => ?_) (fun hb21 => ?_)
      ·replace h := bif_t hb21 h
       refine aw_skip ?_
       refine aq_then ?_
       refine aw_seq ?_
       refine aw_block ?_
       refine aw_sr ?_
       obtain ⟨u22, hu23, h⟩ := opt_some h
       refine al_idxD 0 hu23 rfl rfl rfl Tryd.underlying113 sz5 rfl (fun p24 => ?_)
       refine al_val (ov_loadP (ds := [(int .u8 (u22.toNat : Int))]) 0 rfl (fun h => h) rfl Tryd.underlying5 sz5 rfl rfl rfl) ?_
       refine al_as rfl rfl ?_
       refine al_nt ?_
       refine aw_seq ?_
       obtain ⟨kk26, hkk26, h⟩ := lt_some h
       refine aw_seq_join (ι := Bool) (fun i => (memOf w0 Z0 [] [] [(fDat (tyList tyU8) [s17] (cut a0 (1 : Int) j4i5)), (fPtr tyU8 p24 u22)])) (fun i => (tab [(4, (int .i64 l18i4)), (5, (int .i64 j4i5)), (6, (int .i64 j4i6)), (8, (int .u8 (u22.toNat : Int))), (51, s17), (52, (int .i64 ((cut a0 (1 : Int) j4i5).length : Int))), (53, (int .i64 l18i53)), (62, (bool i))])) (fun i => kk26 i = some r) ?_ ?_
       ·rintro j25b62 h
        have h : kk26 j25b62 = some r := h
        rw [hkk26] at h
        dsimp only at h
        clear hkk26
        refine aw_show (m := (memOf w0 Z0 [] [] [(fDat (tyList tyU8) [s17] (cut a0 (1 : Int) j4i5)), (fPtr tyU8 p24 u22)])) (S := (tab [(4, (int .i64 l18i4)), (5, (int .i64 j4i5)), (6, (int .i64 j4i6)), (8, (int .u8 (u22.toNat : Int))), (51, s17), (52, (int .i64 ((cut a0 (1 : Int) j4i5).length : Int))), (53, (int .i64 l18i53)), (62, (bool j25b62))])) ?_
        refine aw_cond rfl (fun hb27 => ?_) (fun hb27 => ?_)
        ·replace h := bif_t hb27 h
         refine aw_sr ?_
         refine al_as rfl rfl ?_
         refine al_as rfl rfl ?_
         refine al_nt ?_
         refine aw_ret ?_
         refine aq_then_ret ?_
         refine aq_block_ret ?_
         refine aq_then_ret ?_
         refine aq_then_ret ?_
         refine aq_block_ret ?_
         refine aq_then_ret ?_
         obtain rfl := Option.some.inj h
         exact fn_ret () [] [] rfl rfl rfl rfl (res2 rfl rfl rfl) rfl rfl rfl (by decide)
        ·replace h := bif_f hb27 h
         refine aw_skip ?_
         refine aq_then ?_
         refine aw_region ?_
         refine al_mv rfl rfl ?_
         refine al_in rfl rfl rfl rfl ?_
         refine al_mv rfl rfl ?_
         refine al_val (ov_convInt (by rw [Tryd.underlying5]; rfl) Tryd.underlying3 rfl rfl) ?_
         refine al_in rfl rfl rfl rfl ?_
         refine al_in rfl rfl rfl rfl ?_
         refine al_as rfl rfl ?_
         refine al_nil ?_
         refine aq_block ?_
         refine aq_then ?_
         refine aw_region ?_
         refine al_in rfl rfl rfl rfl ?_
         refine al_mv rfl rfl ?_
         refine al_nil ?_
         exact aq_again k19 ((IntKind.i64.wrap ((IntKind.i64.wrap ((IntKind.i64.wrap ((64 : Int) * l18i4)) + (IntKind.i64.wrap (u22.toNat : Int)))) - (128 : Int))), (IntKind.i64.wrap (l18i53 + (1 : Int)))) (Nat.lt_succ_self _) h (fun w a hm hs => norm hm hs [] [0] [(4, (int .i64 (IntKind.i64.wrap ((IntKind.i64.wrap ((IntKind.i64.wrap ((64 : Int) * l18i4)) + (IntKind.i64.wrap (u22.toNat : Int)))) - (128 : Int))))), (5, (int .i64 j4i5)), (6, (int .i64 j4i6)), (51, s17), (52, (int .i64 ((cut a0 (1 : Int) j4i5).length : Int))), (53, (int .i64 (IntKind.i64.wrap (l18i53 + (1 : Int)))))] (by decide) ⟨rfl, rfl, rfl, rfl, rfl, rfl, trivial⟩)
       ·clear hkk26
        refine aw_region ?_
        refine al_mv rfl rfl ?_
        refine al_in rfl rfl rfl rfl ?_
        refine al_mv rfl rfl ?_
        refine al_caseB 59 rfl (fun hb28 => ?_) (fun hb28 => ?_)
        ·replace h := bif_t hb28 h
         refine al_skip ?_
         refine al_skip ?_
         refine al_val (ov_pick_t rfl rfl rfl) ?_
         refine al_nil ?_
         exact aq_join true h (fun w a hm hs => norm hm hs [] [1, 0] [(4, (int .i64 l18i4)), (5, (int .i64 j4i5)), (6, (int .i64 j4i6)), (8, (int .u8 (u22.toNat : Int))), (51, s17), (52, (int .i64 ((cut a0 (1 : Int) j4i5).length : Int))), (53, (int .i64 l18i53)), (62, (bool true))] (by decide) ⟨rfl, rfl, rfl, rfl, rfl, rfl, rfl, rfl, trivial⟩)
        ·replace h := bif_f hb28 h
         refine al_mv rfl rfl ?_
         refine al_in rfl rfl rfl rfl ?_
         refine al_val (ov_pick_f rfl rfl rfl) ?_
         refine al_nil ?_
         exact aq_join (decide ((u22.toNat : Int) > (191 : Int))) h (fun w a hm hs => norm hm hs [] [1, 0] [(4, (int .i64 l18i4)), (5, (int .i64 j4i5)), (6, (int .i64 j4i6)), (8, (int .u8 (u22.toNat : Int))), (51, s17), (52, (int .i64 ((cut a0 (1 : Int) j4i5).length : Int))), (53, (int .i64 l18i53)), (62, (bool (decide ((u22.toNat : Int) > (191 : Int)))))] (by decide) ⟨rfl, rfl, rfl, rfl, rfl, rfl, rfl, rfl, trivial⟩)
      ·replace h := bif_f hb21 h
       refine aw_exit ?_
       refine aq_then_exit ?_
       refine aq_then_exit ?_
       refine aq_block_exit ?_
       exact aq_join l18i4 h (fun w a hm hs => norm hm hs [] [] [(4, (int .i64 l18i4)), (5, (int .i64 j4i5)), (6, (int .i64 j4i6))] (by decide) ⟨rfl, rfl, rfl, trivial⟩)
   ·clear hkk5
    refine aw_block ?_
    obtain ⟨kk30, hkk30, h⟩ := lt_some h
    refine aw_seq_join (ι := Bool) (fun i => (memOf w0 Z0 [] [] [])) (fun i => (tab [(0, (str a0)), (4, (int .i64 (IntKind.i64.wrap (En.bAt a0 (0 : Int))))), (17, (bool i))])) (fun i => kk30 i = some r) ?_ ?_
    ·rintro j29b17 h
     have h : kk30 j29b17 = some r := h
     rw [hkk30] at h
     dsimp only at h
     clear hkk30
     refine aw_show (m := (memOf w0 Z0 [] [] [])) (S := (tab [(0, (str a0)), (4, (int .i64 (IntKind.i64.wrap (En.bAt a0 (0 : Int))))), (17, (bool j29b17))])) ?_
     refine aw_cond rfl (fun hb31 => ?_) (fun hb31 => ?_)
     ·replace h := bif_t hb31 h
      refine aw_region ?_
      refine al_mv rfl rfl ?_
      refine al_in rfl rfl rfl rfl ?_
      refine al_as rfl rfl ?_
      refine al_as rfl rfl ?_
      refine al_as rfl rfl ?_
      refine al_nil ?_
      refine aq_block ?_
      exact aq_join ((IntKind.i64.wrap ((IntKind.i64.wrap (En.bAt a0 (0 : Int))) - (192 : Int))), (2 : Int), (128 : Int)) h (fun w a hm hs => norm hm hs [] [] [(0, (str a0)), (4, (int .i64 (IntKind.i64.wrap ((IntKind.i64.wrap (En.bAt a0 (0 : Int))) - (192 : Int))))), (5, (int .i64 (2 : Int))), (6, (int .i64 (128 : Int)))] (by decide) ⟨rfl, rfl, rfl, rfl, trivial⟩)
     ·replace h := bif_f hb31 h
      obtain ⟨kk33, hkk33, h⟩ := lt_some h
      refine aw_seq_join (ι := Bool) (fun i => (memOf w0 Z0 [] [] [])) (fun i => (tab [(0, (str a0)), (4, (int .i64 (IntKind.i64.wrap (En.bAt a0 (0 : Int))))), (26, (bool i))])) (fun i => kk33 i = some r) ?_ ?_
      ·rintro j32b26 h
       have h : kk33 j32b26 = some r := h
       rw [hkk33] at h
       dsimp only at h
       clear hkk33
       refine aw_show (m := (memOf w0 Z0 [] [] [])) (S := (tab [(0, (str a0)), (4, (int .i64 (IntKind.i64.wrap (En.bAt a0 (0 : Int))))), (26, (bool j32b26))])) ?_
       refine aw_cond rfl (fun hb34 => ?_) (fun hb34 => ?_)
       ·replace h := bif_t hb34 h
        refine aw_region ?_
        refine al_mv rfl rfl ?_
        refine al_in rfl rfl rfl rfl ?_
        refine al_as rfl rfl ?_
        refine al_as rfl rfl ?_
        refine al_as rfl rfl ?_
        refine al_nil ?_
        refine aq_block ?_
        exact aq_join ((IntKind.i64.wrap ((IntKind.i64.wrap (En.bAt a0 (0 : Int))) - (224 : Int))), (3 : Int), (2048 : Int)) h (fun w a hm hs => norm hm hs [] [] [(0, (str a0)), (4, (int .i64 (IntKind.i64.wrap ((IntKind.i64.wrap (En.bAt a0 (0 : Int))) - (224 : Int))))), (5, (int .i64 (3 : Int))), (6, (int .i64 (2048 : Int)))] (by decide) ⟨rfl, rfl, rfl, rfl, trivial⟩)
       ·replace h := bif_f hb34 h
        obtain ⟨kk36, hkk36, h⟩ := lt_some h
        refine aw_seq_join (ι := Bool) (fun i => (memOf w0 Z0 [] [] [])) (fun i => (tab [(0, (str a0)), (4, (int .i64 (IntKind.i64.wrap (En.bAt a0 (0 : Int))))), (35, (bool i))])) (fun i => kk36 i = some r) ?_ ?_
        ·rintro j35b35 h
         have h : kk36 j35b35 = some r := h
         rw [hkk36] at h
         dsimp only at h
         clear hkk36
         refine aw_show (m := (memOf w0 Z0 [] [] [])) (S := (tab [(0, (str a0)), (4, (int .i64 (IntKind.i64.wrap (En.bAt a0 (0 : Int))))), (35, (bool j35b35))])) ?_
         refine aw_cond rfl (fun hb37 => ?_) (fun hb37 => ?_)
         ·replace h := bif_t hb37 h
          refine aw_region ?_
          refine al_mv rfl rfl ?_
          refine al_in rfl rfl rfl rfl ?_
          refine al_as rfl rfl ?_
          refine al_as rfl rfl ?_
          refine al_as rfl rfl ?_
          refine al_nil ?_
          refine aq_block ?_
          exact aq_join ((IntKind.i64.wrap ((IntKind.i64.wrap (En.bAt a0 (0 : Int))) - (240 : Int))), (4 : Int), (65536 : Int)) h (fun w a hm hs => norm hm hs [] [] [(0, (str a0)), (4, (int .i64 (IntKind.i64.wrap ((IntKind.i64.wrap (En.bAt a0 (0 : Int))) - (240 : Int))))), (5, (int .i64 (4 : Int))), (6, (int .i64 (65536 : Int)))] (by decide) ⟨rfl, rfl, rfl, rfl, trivial⟩)
         ·replace h := bif_f hb37 h
          refine aw_sr ?_
          refine al_as rfl rfl ?_
          refine al_as rfl rfl ?_
          refine al_nt ?_
          refine aw_ret ?_
          refine aq_block_ret ?_
          refine aq_then_ret ?_
          obtain rfl := Option.some.inj h
          exact fn_ret () [] [] rfl rfl rfl rfl (res2 rfl rfl rfl) rfl rfl rfl (by decide)
        ·clear hkk36
         refine aw_region ?_
         refine al_mv rfl rfl ?_
         refine al_in rfl rfl rfl rfl ?_
         refine al_mv rfl rfl ?_
         refine al_caseB 38 rfl (fun hb38 => ?_) (fun hb38 => ?_)
         ·replace h := bif_t hb38 h
          refine al_mv rfl rfl ?_
          refine al_in rfl rfl rfl rfl ?_
          refine al_val (ov_pick_t rfl rfl rfl) ?_
          refine al_as rfl rfl ?_
          refine al_nil ?_
          exact aq_join (decide ((IntKind.i64.wrap (En.bAt a0 (0 : Int))) < (245 : Int))) h (fun w a hm hs => norm hm hs [] [] [(0, (str a0)), (4, (int .i64 (IntKind.i64.wrap (En.bAt a0 (0 : Int))))), (35, (bool (decide ((IntKind.i64.wrap (En.bAt a0 (0 : Int))) < (245 : Int)))))] (by decide) ⟨rfl, rfl, rfl, trivial⟩)
         ·replace h := bif_f hb38 h
          refine al_skip ?_
          refine al_skip ?_
          refine al_val (ov_pick_f rfl rfl rfl) ?_
          refine al_as rfl rfl ?_
          refine al_nil ?_
          exact aq_join false h (fun w a hm hs => norm hm hs [] [] [(0, (str a0)), (4, (int .i64 (IntKind.i64.wrap (En.bAt a0 (0 : Int))))), (35, (bool false))] (by decide) ⟨rfl, rfl, rfl, trivial⟩)
      ·clear hkk33
       refine aw_region ?_
       refine al_mv rfl rfl ?_
       refine al_in rfl rfl rfl rfl ?_
       refine al_mv rfl rfl ?_
       refine al_caseB 29 rfl (fun hb39 => ?_) (fun hb39 => ?_)
       ·replace h := bif_t hb39 h
        refine al_mv rfl rfl ?_
        refine al_in rfl rfl rfl rfl ?_
        refine al_val (ov_pick_t rfl rfl rfl) ?_
        refine al_as rfl rfl ?_
        refine al_nil ?_
        exact aq_join (decide ((IntKind.i64.wrap (En.bAt a0 (0 : Int))) < (240 : Int))) h (fun w a hm hs => norm hm hs [] [] [(0, (str a0)), (4, (int .i64 (IntKind.i64.wrap (En.bAt a0 (0 : Int))))), (26, (bool (decide ((IntKind.i64.wrap (En.bAt a0 (0 : Int))) < (240 : Int)))))] (by decide) ⟨rfl, rfl, rfl, trivial⟩)
       ·replace h := bif_f hb39 h
        refine al_skip ?_
        refine al_skip ?_
        refine al_val (ov_pick_f rfl rfl rfl) ?_
        refine al_as rfl rfl ?_
        refine al_nil ?_
        exact aq_join false h (fun w a hm hs => norm hm hs [] [] [(0, (str a0)), (4, (int .i64 (IntKind.i64.wrap (En.bAt a0 (0 : Int))))), (26, (bool false))] (by decide) ⟨rfl, rfl, rfl, trivial⟩)
    ·clear hkk30
     refine aw_region ?_
     refine al_mv rfl rfl ?_
     refine al_in rfl rfl rfl rfl ?_
     refine al_mv rfl rfl ?_
     refine al_caseB 20 rfl (fun hb40 => ?_) (fun hb40 => ?_)
     ·replace h := bif_t hb40 h
      refine al_mv rfl rfl ?_
      refine al_in rfl rfl rfl rfl ?_
      refine al_val (ov_pick_t rfl rfl rfl) ?_
      refine al_as rfl rfl ?_
      refine al_nil ?_
      exact aq_join (decide ((IntKind.i64.wrap (En.bAt a0 (0 : Int))) < (224 : Int))) h (fun w a hm hs => norm hm hs [] [] [(0, (str a0)), (4, (int .i64 (IntKind.i64.wrap (En.bAt a0 (0 : Int))))), (17, (bool (decide ((IntKind.i64.wrap (En.bAt a0 (0 : Int))) < (224 : Int)))))] (by decide) ⟨rfl, rfl, rfl, trivial⟩)
     ·replace h := bif_f hb40 h
      refine al_skip ?_
      refine al_skip ?_
      refine al_val (ov_pick_f rfl rfl rfl) ?_
      refine al_as rfl rfl ?_
      refine al_nil ?_
      exact aq_join false h (fun w a hm hs => norm hm hs [] [] [(0, (str a0)), (4, (int .i64 (IntKind.i64.wrap (En.bAt a0 (0 : Int))))), (17, (bool false))] (by decide) ⟨rfl, rfl, rfl, trivial⟩)
def f_lumref_Chars_L5 (kk2 : ((List Int) → Option ((List Int) × Bool))) (fu : Nat) : Nat → (List UInt8) → (List Int) → Option ((List Int) × Bool)
  | 0, _, _ => none
  | k4 + 1, l3s0, l3x4 => (bif (!(l3s0 == ([] : List UInt8))) then (opt (f_lumref_char fu l3s0) fun (r8 : (Int × Int)) => (bif (r8.2 == (0 : Int)) then (some (([] : List Int), false)) else (req (((l3x4.length + ([r8.1]).length) * 8 : Nat) ≤ 140737488355328 ∧ l3x4.length + ([r8.1]).length ≤ 9223372036854775807) (req (0 ≤ r8.2 ∧ r8.2 ≤ (l3s0.length : Int)) (f_lumref_Chars_L5 kk2 fu k4 (l3s0.drop (r8.2).toNat) (l3x4 ++ ([r8.1]))))))) else (kk2 l3x4))
def f_lumref_Chars (fu : Nat) (a0 : (List UInt8)) : Option ((List Int) × Bool) := (lt (fun (j1x4 : (List Int)) => (some (j1x4, true))) fun (kk2 : (List Int) → Option ((List Int) × Bool)) => (f_lumref_Chars_L5 kk2 fu fu a0 ([] : List Int)))
set_option maxRecDepth 100000 in
theorem f_lumref_Chars_ok (fu : Nat) (a0 : (List UInt8)) {r : ((List Int) × Bool)} (h : f_lumref_Chars fu a0 = some r) : FnOk Tryd.prog 92 [(str a0)] [] [] (fun (i : Value) => { val := (Value.tuple #[i, (bool r.2)]), own := [(oRow i 3 (tyInt .i64) r.1)] }) := by
 unfold f_lumref_Chars at h
 refine fn_enter Tryd.func92 rfl Tryd.ntmps92 rfl (fun w0 Z0 => ?_)
 refine aw_sr ?_
 refine al_as rfl rfl ?_
 refine al_as rfl rfl ?_
 refine al_nt ?_
 refine aw_sr ?_
 refine al_as rfl rfl ?_
 refine al_nt ?_
 obtain ⟨kk2, hkk2, h⟩ := lt_some h
 refine aw_seq_join (ι := Value × (List Int)) (fun i => (memOf w0 Z0 [] [(oRow i.1 3 (tyInt .i64) i.2)] [])) (fun i => (tab [(4, i.1)])) (fun i => kk2 i.2 = some r) ?_ ?_
 ·rintro ⟨j1v4, j1x4⟩ h
  have h : kk2 j1x4 = some r := h
  rw [hkk2] at h
  dsimp only at h
  clear hkk2
  refine aw_show (m := (memOf w0 Z0 [] [(oRow j1v4 3 (tyInt .i64) j1x4)] [])) (S := (tab [(4, j1v4)])) ?_
  refine aw_sr ?_
  refine al_mv rfl rfl ?_
  refine al_as rfl rfl ?_
  refine al_as rfl rfl ?_
  refine al_nt ?_
  refine aw_ret ?_
  obtain rfl := Option.some.inj h
  exact fn_ret j1v4 [0] [] rfl rfl rfl rfl (res2 rfl rfl rfl) rfl rfl rfl (by decide)
 ·clear hkk2
  refine aw_block ?_
  refine aw_nilR 3 (tyInt .i64) ?_
  refine aw_state (aw_loop (ι := (List UInt8) × Value × (List Int)) (fun i => (memOf w0 Z0 [] [(oRow i.2.1 3 (tyInt .i64) i.2.2)] [])) (fun i => (tab [(0, (str i.1)), (4, i.2.1)])) (fun q i => f_lumref_Chars_L5 kk2 fu q i.1 i.2.2 = some r) ?_ fu (a0, (Value.slice none 0 0), ([] : List Int)) h) (fun w a hm hs => norm hm hs [0] [] [(0, (str a0)), (4, (Value.slice none 0 0))] (by decide) ⟨rfl, rfl, trivial⟩)
  clear h
  rintro k4 ⟨l3s0, l3v4, l3x4⟩ h
  have h : f_lumref_Chars_L5 kk2 fu k4 l3s0 l3x4 = some r := h
  obtain _ | k4 := k4
  · rw [f_lumref_Chars_L5] at h; cases h
  rw [f_lumref_Chars_L5] at h
  refine aw_show (m := (memOf w0 Z0 [] [(oRow l3v4 3 (tyInt .i64) l3x4)] [])) (S := (tab [(0, (str l3s0)), (4, l3v4)])) ?_
  refine aw_seq ?_
  refine aw_sr ?_
  refine al_mv rfl rfl ?_
  refine al_val (ov_strCmp rfl rfl rfl rfl) ?_
  refine al_nt ?_
  refine aw_cond rfl (fun hb6 => ?_) (fun hb6 => ?_)
  ·replace h := bif_t hb6 h
   refine aw_skip ?_
   refine aq_then ?_
   refine aw_block ?_
   refine aw_sr ?_
   refine al_mv rfl rfl ?_
   obtain ⟨r8, hc7, h⟩ := opt_some h
   refine al_call (vs := [(str l3s0)]) (f_lumref_char_ok fu l3s0 hc7) [] [] [0] pre_nil rfl (by simp) (by decide) (.inl rfl) rfl Tryd.func149 rfl rfl rfl (fun _ => ?_)
   refine al_mv rfl rfl ?_
   refine al_ex rfl rfl rfl ?_
   refine al_ex rfl rfl rfl ?_
   refine al_as rfl rfl ?_
   refine al_as rfl rfl ?_
   refine al_nt ?_
   refine aw_seq ?_
   refine aw_sr ?_
   refine al_mv rfl rfl ?_
   refine al_in rfl rfl rfl rfl ?_
   refine al_nt ?_
   refine aw_cond rfl (fun hb9 => ?_) (fun hb9 => ?_)
   ·replace h := bif_t hb9 h
    refine aw_sr ?_
    refine al_as rfl rfl ?_
    refine al_as rfl rfl ?_
    refine al_nt ?_
    refine aw_ret ?_
    refine aq_then_ret ?_
    refine aq_block_ret ?_
    refine aq_then_ret ?_
    refine aq_block_ret ?_
    refine aq_then_ret ?_
    refine aq_nilR 3 (tyInt .i64) ?_
    obtain rfl := Option.some.inj h
    exact fn_ret (Value.slice none 0 0) [0] [] rfl rfl rfl rfl (res2 rfl rfl rfl) rfl rfl rfl (by decide)
   ·replace h := bif_f hb9 h
    refine aw_skip ?_
    refine aq_tr ?_
    refine al_mv rfl rfl ?_
    refine al_mv rfl rfl ?_
    refine al_buildSlice (τ := (tyInt .i64)) (e := 3) (k := 1) (sz := 0) (by_ := 0) (z := undef) (cs := [(int .i64 r8.1)]) (xs := [r8.1]) rfl (by decide) (fun w a hm hs => ⟨([(int .i64 r8.1)]).toArray, rfl, by simp only [List.map_toArray, List.map_cons, List.map_nil, hs.ev (x := .tmp 17) rfl]; exact run_bs [(int .i64 r8.1)] [(int .i64 r8.1)] Tryd.underlying110 to3 rfl rfl (bs_cons (l := [(int .i64 r8.1)]) (cs := []) (cv_rfl rfl) rfl bs_nil) hm⟩) (fun hm => ⟨_, _, rfl, (fun _ => rfl) hm, rfl⟩) rfl (fun v10 => ?_)
    obtain ⟨hc11, h⟩ := req_some h
    refine al_append 1 hc11.1 hc11.2 rfl (src_own (i := 1) 0 rfl) rfl rfl Tryd.underlying110 to3 rfl rfl rfl (fun v12 => ?_)
    refine al_as rfl rfl ?_
    refine al_nt ?_
    refine aw_region ?_
    refine al_mv rfl rfl ?_
    refine al_mv rfl rfl ?_
    obtain ⟨hc13, h⟩ := req_some h
    refine al_val (ov_strFrom hc13.1 hc13.2 Tryd.underlying9 rfl rfl rfl) ?_
    refine al_as rfl rfl ?_
    refine al_nil ?_
    refine aq_block ?_
    exact aq_again k4 ((l3s0.drop (r8.2).toNat), v12, (l3x4 ++ ([r8.1]))) (Nat.lt_succ_self _) h (fun w a hm hs => norm hm hs [1] [] [(0, (str (l3s0.drop (r8.2).toNat))), (4, v12)] (by decide) ⟨rfl, rfl, trivial⟩)
  ·replace h := bif_f hb6 h
   refine aw_exit ?_
   refine aq_then_exit ?_
   refine aq_then_exit ?_
   refine aq_block_exit ?_
   exact aq_join (l3v4, l3x4) h (fun w a hm hs => norm hm hs [0] [] [(4, l3v4)] (by decide) ⟨rfl, trivial⟩)
def f_lumref_Name_L12 (r2 : ((List Int) × Bool)) (kk8 : (Unit → Option Int)) : Nat → Int → Option Int
  | 0, _ => none
  | k11 + 1, l10i29 => (bif (decide (l10i29 < (r2.1.length : Int))) then (opt (at? r2.1 l10i29) fun (u14 : Int) => (lt (fun (j18b42 : Bool) => (bif j18b42 then (some (8 : Int)) else (f_lumref_Name_L12 r2 kk8 k11 (IntKind.i64.wrap (l10i29 + (1 : Int)))))) fun (kk19 : Bool → Option Int) => (bif (u14 == (47 : Int)) then (kk19 true) else (bif (decide (u14 < (32 : Int))) then (kk19 true) else (kk19 (u14 == (127 : Int))))))) else (kk8 ()))
def f_lumref_Name (fu : Nat) (a0 : (List UInt8)) : Option Int := (opt (f_lumref_Chars fu a0) fun (r2 : ((List Int) × Bool)) => (lt (fun (j4b26 : Bool) => (bif j4b26 then (some (8 : Int)) else (lt (fun (_ : Unit) => (bif (decide ((r2.1.length : Int) > (24 : Int))) then (some (2 : Int)) else (some (0 : Int)))) fun (kk8 : Unit → Option Int) => (f_lumref_Name_L12 r2 kk8 fu (0 : Int))))) fun (kk5 : Bool → Option Int) => (bif (!r2.2) then (kk5 true) else (bif ((r2.1.length : Int) == (0 : Int)) then (kk5 true) else (bif (a0 == ([46] : List UInt8)) then (kk5 true) else (kk5 (a0 == ([46, 46] : List UInt8))))))))
set_option maxRecDepth 100000 in
theorem f_lumref_Name_ok (fu : Nat) (a0 : (List UInt8)) {r : Int} (h : f_lumref_Name fu a0 = some r) : FnOk Tryd.prog 155 [(str a0)] [] [] (fun (i : Unit) => { val := (int .i64 r) }) := by
 unfold f_lumref_Name at h
 refine fn_enter Tryd.func155 rfl Tryd.ntmps155 rfl (fun w0 Z0 => ?_)
 refine aw_sr ?_
 refine al_as rfl rfl ?_
 refine al_nt ?_
 refine aw_sr ?_
 refine al_mv rfl rfl ?_
 obtain ⟨r2, hc1, h⟩ := opt_some h
 refine al_call (vs := [(str a0)]) (f_lumref_Chars_ok fu a0 hc1) [] [] [] pre_nil rfl (by simp) (by decide) (.inl rfl) rfl Tryd.func92 rfl rfl rfl (fun v3 => ?_)
 refine al_mv rfl rfl ?_
 refine al_ex rfl rfl rfl ?_
 refine al_ex rfl rfl rfl ?_
 refine al_as rfl rfl ?_
 refine al_as rfl rfl ?_
 refine al_nt ?_
 refine aw_seq ?_
 obtain ⟨kk5, hkk5, h⟩ := lt_some h
 refine aw_seq_join (ι := Bool) (fun i => (memOf w0 Z0 [] [(oRow v3 3 (tyInt .i64) r2.1)] [])) (fun i => (tab [(3, v3), (26, (bool i))])) (fun i => kk5 i = some r) ?_ ?_
 ·rintro j4b26 h
  have h : kk5 j4b26 = some r := h
  rw [hkk5] at h
  dsimp only at h
  clear hkk5
  refine aw_show (m := (memOf w0 Z0 [] [(oRow v3 3 (tyInt .i64) r2.1)] [])) (S := (tab [(3, v3), (26, (bool j4b26))])) ?_
  refine aw_cond rfl (fun hb6 => ?_) (fun hb6 => ?_)
  ·replace h := bif_t hb6 h
   refine aw_sr ?_
   refine al_as rfl rfl ?_
   refine al_nt ?_
   refine aw_ret ?_
   refine aq_then_ret ?_
   obtain rfl := Option.some.inj h
   exact fn_ret () [] [] rfl rfl rfl rfl (res1 rfl rfl) rfl rfl rfl (by decide)
  ·replace h := bif_f hb6 h
   refine aw_skip ?_
   refine aq_then ?_
   obtain ⟨kk8, hkk8, h⟩ := lt_some h
   refine aw_seq_join (ι := Unit) (fun i => (memOf w0 Z0 [] [(oRow v3 3 (tyInt .i64) r2.1)] [])) (fun i => (tab [(3, v3)])) (fun i => kk8 () = some r) ?_ ?_
   ·rintro _ h
    have h : kk8 () = some r := h
    rw [hkk8] at h
    dsimp only at h
    clear hkk8
    refine aw_show (m := (memOf w0 Z0 [] [(oRow v3 3 (tyInt .i64) r2.1)] [])) (S := (tab [(3, v3)])) ?_
    refine aw_seq ?_
    refine aw_sr ?_
    refine al_mv rfl rfl ?_
    refine al_val (ov_lenR 0 rfl rfl Tryd.underlying110 rfl) ?_
    refine al_in rfl rfl rfl rfl ?_
    refine al_nt ?_
    refine aw_cond rfl (fun hb9 => ?_) (fun hb9 => ?_)
    ·replace h := bif_t hb9 h
     refine aw_sr ?_
     refine al_as rfl rfl ?_
     refine al_nt ?_
     refine aw_ret ?_
     refine aq_then_ret ?_
     obtain rfl := Option.some.inj h
     exact fn_ret () [] [] rfl rfl rfl rfl (res1 rfl rfl) rfl rfl rfl (by decide)
    ·replace h := bif_f hb9 h
     refine aw_skip ?_
     refine aq_tr ?_
     refine al_as rfl rfl ?_
     refine al_nt ?_
     refine aw_ret ?_
     obtain rfl := Option.some.inj h
     exact fn_ret () [] [] rfl rfl rfl rfl (res1 rfl rfl) rfl rfl rfl (by decide)
   ·clear hkk8
    refine aw_sr ?_
    refine al_mv rfl rfl ?_
    refine al_val (ov_lenR 0 rfl rfl Tryd.underlying110 rfl) ?_
    refine al_mv rfl rfl ?_
    refine al_nt ?_
    refine aw_block ?_
    refine aw_state (aw_loop (ι := Int) (fun i => (memOf w0 Z0 [] [(oRow v3 3 (tyInt .i64) r2.1)] [])) (fun i => (tab [(3, v3), (27, v3), (28, (int .i64 (r2.1.length : Int))), (29, (int .i64 i))])) (fun q i => f_lumref_Name_L12 r2 kk8 q i = some r) ?_ fu (0 : Int) h) (fun w a hm hs => norm hm hs [0] [] [(3, v3), (27, v3), (28, (int .i64 (r2.1.length : Int))), (29, (int .i64 (0 : Int)))] (by decide) ⟨rfl, rfl, rfl, rfl, trivial⟩)
    clear h
    rintro k11 l10i29 h
    have h : f_lumref_Name_L12 r2 kk8 k11 l10i29 = some r := h
    obtain _ | k11 := k11
    · rw [f_lumref_Name_L12] at h; cases h
    rw [f_lumref_Name_L12] at h
    refine aw_show (m := (memOf w0 Z0 [] [(oRow v3 3 (tyInt .i64) r2.1)] [])) (S := (tab [(3, v3), (27, v3), (28, (int .i64 (r2.1.length : Int))), (29, (int .i64 l10i29))])) ?_
    refine aw_sr ?_
    refine al_in rfl rfl rfl rfl ?_
    refine al_nt ?_
    refine aw_seq ?_
    refine aw_cond rfl (fun hb13 => ?_) (fun hb13 => ?_)
    ·replace h := bif_t hb13 h
     refine aw_skip ?_
     refine aq_then ?_
     refine aw_seq ?_
     refine aw_block ?_
     refine aw_sr ?_
     obtain ⟨u14, hu15, h⟩ := opt_some h
     refine al_idxR 0 (at_some hu15).1 (at_some hu15).2.1 rfl rfl rfl Tryd.underlying110 sz3 rfl (fun p16 hp17 => ?_)
     refine al_val (ov_loadR (ds := [(int .i64 u14)]) 0 rfl hp17 (at_some hu15).2.2 (fun h => h) rfl Tryd.underlying3 sz3 rfl rfl rfl) ?_
     refine al_as rfl rfl ?_
     refine al_nt ?_
     obtain ⟨kk19, hkk19, h⟩ := lt_some h
     refine aw_seq_join (ι := Bool) (fun i => (memOf w0 Z0 [] [(oRow v3 3 (tyInt .i64) r2.1)] [])) (fun i => (tab [(3, v3), (27, v3), (28, (int .i64 (r2.1.length : Int))), (29, (int .i64 l10i29)), (42, (bool i))])) (fun i => kk19 i = some r) ?_ ?_
     ·rintro j18b42 h
      have h : kk19 j18b42 = some r := h
      rw [hkk19] at h
      dsimp only at h
      clear hkk19
      refine aw_show (m := (memOf w0 Z0 [] [(oRow v3 3 (tyInt .i64) r2.1)] [])) (S := (tab [(3, v3), (27, v3), (28, (int .i64 (r2.1.length : Int))), (29, (int .i64 l10i29)), (42, (bool j18b42))])) ?_
      refine aw_cond rfl (fun hb20 => ?_) (fun hb20 => ?_)
      ·replace h := bif_t hb20 h
       refine aw_sr ?_
       refine al_as rfl rfl ?_
       refine al_nt ?_
       refine aw_ret ?_
       refine aq_block_ret ?_
       refine aq_then_ret ?_
       refine aq_then_ret ?_
       refine aq_block_ret ?_
       refine aq_then_ret ?_
       obtain rfl := Option.some.inj h
       exact fn_ret () [] [] rfl rfl rfl rfl (res1 rfl rfl) rfl rfl rfl (by decide)
      ·replace h := bif_f hb20 h
       refine aw_skip ?_
       refine aq_block ?_
       refine aq_then ?_
       refine aw_region ?_
       refine al_in rfl rfl rfl rfl ?_
       refine al_mv rfl rfl ?_
       refine al_nil ?_
       exact aq_again k11 (IntKind.i64.wrap (l10i29 + (1 : Int))) (Nat.lt_succ_self _) h (fun w a hm hs => norm hm hs [0] [] [(3, v3), (27, v3), (28, (int .i64 (r2.1.length : Int))), (29, (int .i64 (IntKind.i64.wrap (l10i29 + (1 : Int)))))] (by decide) ⟨rfl, rfl, rfl, rfl, trivial⟩)
     ·clear hkk19
      refine aw_region ?_
      refine al_mv rfl rfl ?_
      refine al_in rfl rfl rfl rfl ?_
      refine al_mv rfl rfl ?_
      refine al_caseB 35 rfl (fun hb21 => ?_) (fun hb21 => ?_)
      ·replace h := bif_t hb21 h
       refine al_skip ?_
       refine al_skip ?_
       refine al_val (ov_pick_t rfl rfl rfl) ?_
       refine al_mv rfl rfl ?_
       refine al_skip ?_
       refine al_skip ?_
       refine al_val (ov_pick_t rfl rfl rfl) ?_
       refine al_nil ?_
       exact aq_join true h (fun w a hm hs => norm hm hs [0] [] [(3, v3), (27, v3), (28, (int .i64 (r2.1.length : Int))), (29, (int .i64 l10i29)), (42, (bool true))] (by decide) ⟨rfl, rfl, rfl, rfl, rfl, trivial⟩)
      ·replace h := bif_f hb21 h
       refine al_mv rfl rfl ?_
       refine al_in rfl rfl rfl rfl ?_
       refine al_val (ov_pick_f rfl rfl rfl) ?_
       refine al_mv rfl rfl ?_
       refine al_caseB 39 rfl (fun hb22 => ?_) (fun hb22 => ?_)
       ·replace h := bif_t hb22 h
        refine al_skip ?_
        refine al_skip ?_
        refine al_val (ov_pick_t rfl rfl rfl) ?_
        refine al_nil ?_
        exact aq_join true h (fun w a hm hs => norm hm hs [0] [] [(3, v3), (27, v3), (28, (int .i64 (r2.1.length : Int))), (29, (int .i64 l10i29)), (42, (bool true))] (by decide) ⟨rfl, rfl, rfl, rfl, rfl, trivial⟩)
       ·replace h := bif_f hb22 h
        refine al_mv rfl rfl ?_
        refine al_in rfl rfl rfl rfl ?_
        refine al_val (ov_pick_f rfl rfl rfl) ?_
        refine al_nil ?_
        exact aq_join (u14 == (127 : Int)) h (fun w a hm hs => norm hm hs [0] [] [(3, v3), (27, v3), (28, (int .i64 (r2.1.length : Int))), (29, (int .i64 l10i29)), (42, (bool (u14 == (127 : Int))))] (by decide) ⟨rfl, rfl, rfl, rfl, rfl, trivial⟩)
    ·replace h := bif_f hb13 h
     refine aw_exit ?_
     refine aq_then_exit ?_
     refine aq_then_exit ?_
     refine aq_block_exit ?_
     exact aq_join () h (fun w a hm hs => norm hm hs [0] [] [(3, v3)] (by decide) ⟨rfl, trivial⟩)
 ·clear hkk5
  refine aw_region ?_
  refine al_mv rfl rfl ?_
  refine al_val (ov_not rfl rfl) ?_
  refine al_mv rfl rfl ?_
  refine al_caseB 14 rfl (fun hb23 => ?_) (fun hb23 => ?_)
  ·replace h := bif_t hb23 h
   refine al_skip ?_
   refine al_skip ?_
   refine al_skip ?_
   refine al_val (ov_pick_t rfl rfl rfl) ?_
   refine al_mv rfl rfl ?_
   refine al_skip ?_
   refine al_skip ?_
   refine al_val (ov_pick_t rfl rfl rfl) ?_
   refine al_mv rfl rfl ?_
   refine al_skip ?_
   refine al_skip ?_
   refine al_val (ov_pick_t rfl rfl rfl) ?_
   refine al_nil ?_
   exact aq_join true h (fun w a hm hs => norm hm hs [0] [] [(3, v3), (26, (bool true))] (by decide) ⟨rfl, rfl, trivial⟩)
  ·replace h := bif_f hb23 h
   refine al_mv rfl rfl ?_
   refine al_val (ov_lenR 0 rfl rfl Tryd.underlying110 rfl) ?_
   refine al_in rfl rfl rfl rfl ?_
   refine al_val (ov_pick_f rfl rfl rfl) ?_
   refine al_mv rfl rfl ?_
   refine al_caseB 19 rfl (fun hb24 => ?_) (fun hb24 => ?_)
   ·replace h := bif_t hb24 h
    refine al_skip ?_
    refine al_skip ?_
    refine al_val (ov_pick_t rfl rfl rfl) ?_
    refine al_mv rfl rfl ?_
    refine al_skip ?_
    refine al_skip ?_
    refine al_val (ov_pick_t rfl rfl rfl) ?_
    refine al_nil ?_
    exact aq_join true h (fun w a hm hs => norm hm hs [0] [] [(3, v3), (26, (bool true))] (by decide) ⟨rfl, rfl, trivial⟩)
   ·replace h := bif_f hb24 h
    refine al_mv rfl rfl ?_
    refine al_val (ov_strCmp rfl rfl rfl rfl) ?_
    refine al_val (ov_pick_f rfl rfl rfl) ?_
    refine al_mv rfl rfl ?_
    refine al_caseB 23 rfl (fun hb25 => ?_) (fun hb25 => ?_)
    ·replace h := bif_t hb25 h
     refine al_skip ?_
     refine al_skip ?_
     refine al_val (ov_pick_t rfl rfl rfl) ?_
     refine al_nil ?_
     exact aq_join true h (fun w a hm hs => norm hm hs [0] [] [(3, v3), (26, (bool true))] (by decide) ⟨rfl, rfl, trivial⟩)
    ·replace h := bif_f hb25 h
     refine al_mv rfl rfl ?_
     refine al_val (ov_strCmp rfl rfl rfl rfl) ?_
     refine al_val (ov_pick_f rfl rfl rfl) ?_
     refine al_nil ?_
     exact aq_join (a0 == ([46, 46] : List UInt8)) h (fun w a hm hs => norm hm hs [0] [] [(3, v3), (26, (bool (a0 == ([46, 46] : List UInt8))))] (by decide) ⟨rfl, rfl, trivial⟩)
def f_lumref_nodeErr (fu : Nat) (a0 : S_api_Node) : Option Int := (opt (f_lumref_Name fu a0.Name) fun (r3 : Int) => (bif (r3 != (0 : Int)) then (some r3) else (lt (fun (j5b33 : Bool) => (bif j5b33 then (some (1 : Int)) else (lt (fun (j8b34 : Bool) => (bif j8b34 then (some (5 : Int)) else (lt (fun (j11b43 : Bool) => (bif j11b43 then (some (4 : Int)) else (bif (decide ((a0.Link.length : Int) > (1024 : Int))) then (some (2 : Int)) else (some (0 : Int))))) fun (kk12 : Bool → Option Int) => (lt (fun (j15b43 : Bool) => (bif j15b43 then (kk12 j15b43) else (lt (fun (j18b43 : Bool) => (bif j18b43 then (kk12 j18b43) else (lt (fun (j21b43 : Bool) => (bif j21b43 then (kk12 j21b43) else (bif (a0.Kind == (3 : Int)) then (bif ((a0.Parts.length : Int) != (0 : Int)) then (kk12 true) else (kk12 (a0.Link == ([] : List UInt8)))) else (kk12 false)))) fun (kk22 : Bool → Option Int) => (bif (a0.Kind == (2 : Int)) then (bif ((a0.Parts.length : Int) != (1 : Int)) then (kk22 true) else (kk22 (!(a0.Link == ([] : List UInt8))))) else (kk22 false))))) fun (kk19 : Bool → Option Int) => (bif (decide (a0.Kind > (1 : Int))) then (kk19 (a0.Size != (0 : Int))) else (kk19 false))))) fun (kk16 : Bool → Option Int) => (bif (a0.Kind == (1 : Int)) then (kk16 (!(a0.Link == ([] : List UInt8)))) else (kk16 false)))))) fun (kk9 : Bool → Option Int) => (bif (decide (a0.Kind < (1 : Int))) then (kk9 true) else (kk9 (decide (a0.Kind > (3 : Int)))))))) fun (kk6 : Bool → Option Int) => (bif (decide (a0.Mode < (0 : Int))) then (kk6 true) else (bif (decide (a0.Mode > (511 : Int))) then (kk6 true) else (bif (decide (a0.Size < (0 : Int))) then (kk6 true) else (bif (decide (a0.Size > (4096 : Int))) then (kk6 true) else (kk6 (decide ((a0.Parts.length : Int) > (300 : Int)))))))))))
set_option maxRecDepth 100000 in
set_option maxHeartbeats 2000000 in
theorem f_lumref_nodeErr_ok (fu : Nat) (v0_5 : Value) (a0 : S_api_Node) {r : Int} (h : f_lumref_nodeErr fu a0 = some r) : FnOk Tryd.prog 209 [(ag [(str a0.Name), (int .i64 a0.Kind), (int .i64 a0.Mode), (int .i64 a0.Time), (int .i64 a0.Size), v0_5, (str a0.Link)])] [(fDat (tyList tyA8u8) [v0_5] a0.Parts)] [] (fun (i : Unit) => { val := (int .i64 r) }) := by
 unfold f_lumref_nodeErr at h
 refine fn_enter Tryd.func209 rfl Tryd.ntmps209 rfl (fun w0 Z0 => ?_)
 refine aw_sr ?_
 refine al_box (vs := [(str a0.Name), (int .i64 a0.Kind), (int .i64 a0.Mode), (int .i64 a0.Time), (int .i64 a0.Size), v0_5, (str a0.Link)]) rfl (cv_rfl rfl) rfl (fun g1 => ?_)
 refine al_as rfl rfl ?_
 refine al_nt ?_
 refine aw_seq ?_
 refine aw_sr ?_
 refine al_val (ov_fieldA (p := 0) rfl Tryd.underlying168 rfl sz9 rfl rfl rfl) ?_
 refine al_val (ov_load (i := 0) (v := (str a0.Name)) rfl rfl Tryd.underlying9 sz9 rfl rfl rfl rfl) ?_
 obtain ⟨r3, hc2, h⟩ := opt_some h
 refine al_call (vs := [(str a0.Name)]) (f_lumref_Name_ok fu a0.Name hc2) [] [] [0] pre_nil rfl (by simp) (by decide) (.inl rfl) rfl Tryd.func155 rfl rfl rfl (fun _ => ?_)
 refine al_as rfl rfl ?_
 refine al_nt ?_
 refine aw_sr ?_
 refine al_mv rfl rfl ?_
 refine al_in rfl rfl rfl rfl ?_
 refine al_nt ?_
 refine aw_cond rfl (fun hb4 => ?_) (fun hb4 => ?_)
 ·replace h := bif_t hb4 h
  refine aw_sr ?_
  refine al_mv rfl rfl ?_
  refine al_as rfl rfl ?_
  refine al_nt ?_
  refine aw_ret ?_
  refine aq_then_ret ?_
  obtain rfl := Option.some.inj h
  exact fn_ret () [] [] rfl rfl rfl rfl (res1 rfl rfl) rfl rfl rfl (by decide)
 ·replace h := bif_f hb4 h
  refine aw_skip ?_
  refine aq_then ?_
  refine aw_seq ?_
  obtain ⟨kk6, hkk6, h⟩ := lt_some h
  refine aw_seq_join (ι := Bool) (fun i => (memOf w0 Z0 [] [(oBox g1 168 [(str a0.Name), (int .i64 a0.Kind), (int .i64 a0.Mode), (int .i64 a0.Time), (int .i64 a0.Size), v0_5, (str a0.Link)])] [(fDat (tyList tyA8u8) [v0_5] a0.Parts)])) (fun i => (tab [(1, (ptr g1 0)), (33, (bool i))])) (fun i => kk6 i = some r) ?_ ?_
  ·rintro j5b33 h
   have h : kk6 j5b33 = some r := h
   rw [hkk6] at h
   dsimp only at h
   clear hkk6
   refine aw_show (m := (memOf w0 Z0 [] [(oBox g1 168 [(str a0.Name), (int .i64 a0.Kind), (int .i64 a0.Mode), (int .i64 a0.Time), (int .i64 a0.Size), v0_5, (str a0.Link)])] [(fDat (tyList tyA8u8) [v0_5] a0.Parts)])) (S := (tab [(1, (ptr g1 0)), (33, (bool j5b33))])) ?_
   refine aw_cond rfl (fun hb7 => ?_) (fun hb7 => ?_)
   ·replace h := bif_t hb7 h
    refine aw_sr ?_
    refine al_as rfl rfl ?_
    refine al_nt ?_
    refine aw_ret ?_
    refine aq_then_ret ?_
    obtain rfl := Option.some.inj h
    exact fn_ret () [] [] rfl rfl rfl rfl (res1 rfl rfl) rfl rfl rfl (by decide)
   ·replace h := bif_f hb7 h
    refine aw_skip ?_
    refine aq_then ?_
    refine aw_seq ?_
    refine aw_block ?_
    obtain ⟨kk9, hkk9, h⟩ := lt_some h
    refine aw_seq_join (ι := Bool) (fun i => (memOf w0 Z0 [] [(oBox g1 168 [(str a0.Name), (int .i64 a0.Kind), (int .i64 a0.Mode), (int .i64 a0.Time), (int .i64 a0.Size), v0_5, (str a0.Link)])] [(fDat (tyList tyA8u8) [v0_5] a0.Parts)])) (fun i => (tab [(1, (ptr g1 0)), (34, (bool i))])) (fun i => kk9 i = some r) ?_ ?_
    ·rintro j8b34 h
     have h : kk9 j8b34 = some r := h
     rw [hkk9] at h
     dsimp only at h
     clear hkk9
     refine aw_show (m := (memOf w0 Z0 [] [(oBox g1 168 [(str a0.Name), (int .i64 a0.Kind), (int .i64 a0.Mode), (int .i64 a0.Time), (int .i64 a0.Size), v0_5, (str a0.Link)])] [(fDat (tyList tyA8u8) [v0_5] a0.Parts)])) (S := (tab [(1, (ptr g1 0)), (34, (bool j8b34))])) ?_
     refine aw_cond rfl (fun hb10 => ?_) (fun hb10 => ?_)
     ·replace h := bif_t hb10 h
      refine aw_sr ?_
      refine al_as rfl rfl ?_
      refine al_nt ?_
      refine aw_ret ?_
      refine aq_block_ret ?_
      refine aq_then_ret ?_
      obtain rfl := Option.some.inj h
      exact fn_ret () [] [] rfl rfl rfl rfl (res1 rfl rfl) rfl rfl rfl (by decide)
     ·replace h := bif_f hb10 h
      obtain ⟨kk12, hkk12, h⟩ := lt_some h
      refine aw_seq_join (ι := Bool) (fun i => (memOf w0 Z0 [] [(oBox g1 168 [(str a0.Name), (int .i64 a0.Kind), (int .i64 a0.Mode), (int .i64 a0.Time), (int .i64 a0.Size), v0_5, (str a0.Link)])] [(fDat (tyList tyA8u8) [v0_5] a0.Parts)])) (fun i => (tab [(1, (ptr g1 0)), (43, (bool i))])) (fun i => kk12 i = some r) ?_ ?_
      ·rintro j11b43 h
       have h : kk12 j11b43 = some r := h
       rw [hkk12] at h
       dsimp only at h
       clear hkk12
       refine aw_show (m := (memOf w0 Z0 [] [(oBox g1 168 [(str a0.Name), (int .i64 a0.Kind), (int .i64 a0.Mode), (int .i64 a0.Time), (int .i64 a0.Size), v0_5, (str a0.Link)])] [(fDat (tyList tyA8u8) [v0_5] a0.Parts)])) (S := (tab [(1, (ptr g1 0)), (43, (bool j11b43))])) ?_
       refine aw_cond rfl (fun hb13 => ?_) (fun hb13 => ?_)
       ·replace h := bif_t hb13 h
        refine aw_sr ?_
        refine al_as rfl rfl ?_
        refine al_nt ?_
        refine aw_ret ?_
        refine aq_block_ret ?_
        refine aq_then_ret ?_
        obtain rfl := Option.some.inj h
        exact fn_ret () [] [] rfl rfl rfl rfl (res1 rfl rfl) rfl rfl rfl (by decide)
       ·replace h := bif_f hb13 h
        refine aw_sr ?_
        refine al_val (ov_fieldA (p := 6) rfl Tryd.underlying168 rfl sz9 rfl rfl rfl) ?_
        refine al_val (ov_load (i := 0) (v := (str a0.Link)) rfl rfl Tryd.underlying9 sz9 rfl rfl rfl rfl) ?_
        refine al_val (ov_strLen Tryd.underlying9 rfl rfl) ?_
        refine al_in rfl rfl rfl rfl ?_
        refine al_as rfl rfl ?_
        refine al_nt ?_
        refine aw_cond rfl (fun hb14 => ?_) (fun hb14 => ?_)
        ·replace h := bif_t hb14 h
         refine aw_sr ?_
         refine al_as rfl rfl ?_
         refine al_nt ?_
         refine aw_ret ?_
         refine aq_block_ret ?_
         refine aq_then_ret ?_
         obtain rfl := Option.some.inj h
         exact fn_ret () [] [] rfl rfl rfl rfl (res1 rfl rfl) rfl rfl rfl (by decide)
        ·replace h := bif_f hb14 h
         refine aw_skip ?_
         refine aq_block ?_
         refine aq_tr ?_
         refine al_as rfl rfl ?_
         refine al_nt ?_
         refine aw_ret ?_
         obtain rfl := Option.some.inj h
         exact fn_ret () [] [] rfl rfl rfl rfl (res1 rfl rfl) rfl rfl rfl (by decide)
      ·clear hkk12
       obtain ⟨kk16, hkk16, h⟩ := lt_some h
       refine aw_seq_join (ι := Bool) (fun i => (memOf w0 Z0 [] [(oBox g1 168 [(str a0.Name), (int .i64 a0.Kind), (int .i64 a0.Mode), (int .i64 a0.Time), (int .i64 a0.Size), v0_5, (str a0.Link)])] [(fDat (tyList tyA8u8) [v0_5] a0.Parts)])) (fun i => (tab [(1, (ptr g1 0)), (43, (bool i))])) (fun i => kk16 i = some r) ?_ ?_
       ·rintro j15b43 h
        have h : kk16 j15b43 = some r := h
        rw [hkk16] at h
        dsimp only at h
        clear hkk16
        refine aw_show (m := (memOf w0 Z0 [] [(oBox g1 168 [(str a0.Name), (int .i64 a0.Kind), (int .i64 a0.Mode), (int .i64 a0.Time), (int .i64 a0.Size), v0_5, (str a0.Link)])] [(fDat (tyList tyA8u8) [v0_5] a0.Parts)])) (S := (tab [(1, (ptr g1 0)), (43, (bool j15b43))])) ?_
        refine aw_cond rfl (fun hb17 => ?_) (fun hb17 => ?_)
        ·replace h := bif_t hb17 h
         refine aw_skip ?_
         exact aq_join j15b43 h (fun w a hm hs => norm hm hs [0] [0] [(1, (ptr g1 0)), (43, (bool j15b43))] (by decide) ⟨rfl, rfl, trivial⟩)
        ·replace h := bif_f hb17 h
         obtain ⟨kk19, hkk19, h⟩ := lt_some h
         refine aw_seq_join (ι := Bool) (fun i => (memOf w0 Z0 [] [(oBox g1 168 [(str a0.Name), (int .i64 a0.Kind), (int .i64 a0.Mode), (int .i64 a0.Time), (int .i64 a0.Size), v0_5, (str a0.Link)])] [(fDat (tyList tyA8u8) [v0_5] a0.Parts)])) (fun i => (tab [(1, (ptr g1 0)), (43, (bool i))])) (fun i => kk19 i = some r) ?_ ?_
         ·rintro j18b43 h
          have h : kk19 j18b43 = some r := h
          rw [hkk19] at h
          dsimp only at h
          clear hkk19
          refine aw_show (m := (memOf w0 Z0 [] [(oBox g1 168 [(str a0.Name), (int .i64 a0.Kind), (int .i64 a0.Mode), (int .i64 a0.Time), (int .i64 a0.Size), v0_5, (str a0.Link)])] [(fDat (tyList tyA8u8) [v0_5] a0.Parts)])) (S := (tab [(1, (ptr g1 0)), (43, (bool j18b43))])) ?_
          refine aw_cond rfl (fun hb20 => ?_) (fun hb20 => ?_)
          ·replace h := bif_t hb20 h
           refine aw_skip ?_
           exact aq_join j18b43 h (fun w a hm hs => norm hm hs [0] [0] [(1, (ptr g1 0)), (43, (bool j18b43))] (by decide) ⟨rfl, rfl, trivial⟩)
          ·replace h := bif_f hb20 h
           obtain ⟨kk22, hkk22, h⟩ := lt_some h
           refine aw_seq_join (ι := Bool) (fun i => (memOf w0 Z0 [] [(oBox g1 168 [(str a0.Name), (int .i64 a0.Kind), (int .i64 a0.Mode), (int .i64 a0.Time), (int .i64 a0.Size), v0_5, (str a0.Link)])] [(fDat (tyList tyA8u8) [v0_5] a0.Parts)])) (fun i => (tab [(1, (ptr g1 0)), (43, (bool i))])) (fun i => kk22 i = some r) ?_ ?_
           ·rintro j21b43 h
            have h : kk22 j21b43 = some r := h
            rw [hkk22] at h
            dsimp only at h
            clear hkk22
            refine aw_show (m := (memOf w0 Z0 [] [(oBox g1 168 [(str a0.Name), (int .i64 a0.Kind), (int .i64 a0.Mode), (int .i64 a0.Time), (int .i64 a0.Size), v0_5, (str a0.Link)])] [(fDat (tyList tyA8u8) [v0_5] a0.Parts)])) (S := (tab [(1, (ptr g1 0)), (43, (bool j21b43))])) ?_
            refine aw_cond rfl (fun hb23 => ?_) (fun hb23 => ?_)
            ·replace h := bif_t hb23 h
             refine aw_skip ?_
             exact aq_join j21b43 h (fun w a hm hs => norm hm hs [0] [0] [(1, (ptr g1 0)), (43, (bool j21b43))] (by decide) ⟨rfl, rfl, trivial⟩)
            ·replace h := bif_f hb23 h
             refine aw_region ?_
             refine al_val (ov_fieldA (p := 1) rfl Tryd.underlying168 rfl sz3 rfl rfl rfl) ?_
             refine al_val (ov_load (i := 0) (v := (int .i64 a0.Kind)) rfl rfl Tryd.underlying3 sz3 rfl rfl rfl rfl) ?_
             refine al_in rfl rfl rfl rfl ?_
             refine al_mv rfl rfl ?_
             refine al_caseB 77 rfl (fun hb24 => ?_) (fun hb24 => ?_)
             ·replace h := bif_t hb24 h
              refine al_val (ov_fieldA (p := 5) rfl Tryd.underlying168 rfl sz27 rfl rfl rfl) ?_
              refine al_val (ov_load (i := 0) (v := v0_5) rfl rfl Tryd.underlying27 sz27 rfl rfl rfl rfl) ?_
              refine al_val (ov_lenD 0 rfl rfl Tryd.underlying27 rfl) ?_
              refine al_in rfl rfl rfl rfl ?_
              refine al_mv rfl rfl ?_
              refine al_caseB 82 rfl (fun hb25 => ?_) (fun hb25 => ?_)
              ·replace h := bif_t hb25 h
               refine al_skip ?_
               refine al_skip ?_
               refine al_skip ?_
               refine al_val (ov_pick_t rfl rfl rfl) ?_
               refine al_val (ov_pick_t rfl rfl rfl) ?_
               refine al_as rfl rfl ?_
               refine al_nil ?_
               exact aq_join true h (fun w a hm hs => norm hm hs [0] [0] [(1, (ptr g1 0)), (43, (bool true))] (by decide) ⟨rfl, rfl, trivial⟩)
              ·replace h := bif_f hb25 h
               refine al_val (ov_fieldA (p := 6) rfl Tryd.underlying168 rfl sz9 rfl rfl rfl) ?_
               refine al_val (ov_load (i := 0) (v := (str a0.Link)) rfl rfl Tryd.underlying9 sz9 rfl rfl rfl rfl) ?_
               refine al_val (ov_strCmp rfl rfl rfl rfl) ?_
               refine al_val (ov_pick_f rfl rfl rfl) ?_
               refine al_val (ov_pick_t rfl rfl rfl) ?_
               refine al_as rfl rfl ?_
               refine al_nil ?_
               exact aq_join (a0.Link == ([] : List UInt8)) h (fun w a hm hs => norm hm hs [0] [0] [(1, (ptr g1 0)), (43, (bool (a0.Link == ([] : List UInt8))))] (by decide) ⟨rfl, rfl, trivial⟩)
             ·replace h := bif_f hb24 h
              refine al_skip ?_
              refine al_skip ?_
              refine al_skip ?_
              refine al_skip ?_
              refine al_skip ?_
              refine al_skip ?_
              refine al_skip ?_
              refine al_skip ?_
              refine al_skip ?_
              refine al_val (ov_pick_f rfl rfl rfl) ?_
              refine al_as rfl rfl ?_
              refine al_nil ?_
              exact aq_join false h (fun w a hm hs => norm hm hs [0] [0] [(1, (ptr g1 0)), (43, (bool false))] (by decide) ⟨rfl, rfl, trivial⟩)
           ·clear hkk22
            refine aw_region ?_
            refine al_val (ov_fieldA (p := 1) rfl Tryd.underlying168 rfl sz3 rfl rfl rfl) ?_
            refine al_val (ov_load (i := 0) (v := (int .i64 a0.Kind)) rfl rfl Tryd.underlying3 sz3 rfl rfl rfl rfl) ?_
            refine al_in rfl rfl rfl rfl ?_
            refine al_mv rfl rfl ?_
            refine al_caseB 63 rfl (fun hb26 => ?_) (fun hb26 => ?_)
            ·replace h := bif_t hb26 h
             refine al_val (ov_fieldA (p := 5) rfl Tryd.underlying168 rfl sz27 rfl rfl rfl) ?_
             refine al_val (ov_load (i := 0) (v := v0_5) rfl rfl Tryd.underlying27 sz27 rfl rfl rfl rfl) ?_
             refine al_val (ov_lenD 0 rfl rfl Tryd.underlying27 rfl) ?_
             refine al_in rfl rfl rfl rfl ?_
             refine al_mv rfl rfl ?_
             refine al_caseB 68 rfl (fun hb27 => ?_) (fun hb27 => ?_)
             ·replace h := bif_t hb27 h
              refine al_skip ?_
              refine al_skip ?_
              refine al_skip ?_
              refine al_val (ov_pick_t rfl rfl rfl) ?_
              refine al_val (ov_pick_t rfl rfl rfl) ?_
              refine al_as rfl rfl ?_
              refine al_nil ?_
              exact aq_join true h (fun w a hm hs => norm hm hs [0] [0] [(1, (ptr g1 0)), (43, (bool true))] (by decide) ⟨rfl, rfl, trivial⟩)
             ·replace h := bif_f hb27 h
              refine al_val (ov_fieldA (p := 6) rfl Tryd.underlying168 rfl sz9 rfl rfl rfl) ?_
              refine al_val (ov_load (i := 0) (v := (str a0.Link)) rfl rfl Tryd.underlying9 sz9 rfl rfl rfl rfl) ?_
              refine al_val (ov_strCmp rfl rfl rfl rfl) ?_
              refine al_val (ov_pick_f rfl rfl rfl) ?_
              refine al_val (ov_pick_t rfl rfl rfl) ?_
              refine al_as rfl rfl ?_
              refine al_nil ?_
              exact aq_join (!(a0.Link == ([] : List UInt8))) h (fun w a hm hs => norm hm hs [0] [0] [(1, (ptr g1 0)), (43, (bool (!(a0.Link == ([] : List UInt8)))))] (by decide) ⟨rfl, rfl, trivial⟩)
            ·replace h := bif_f hb26 h
             refine al_skip ?_
             refine al_skip ?_
             refine al_skip ?_
             refine al_skip ?_
             refine al_skip ?_
             refine al_skip ?_
             refine al_skip ?_
             refine al_skip ?_
             refine al_skip ?_
             refine al_val (ov_pick_f rfl rfl rfl) ?_
             refine al_as rfl rfl ?_
             refine al_nil ?_
             exact aq_join false h (fun w a hm hs => norm hm hs [0] [0] [(1, (ptr g1 0)), (43, (bool false))] (by decide) ⟨rfl, rfl, trivial⟩)
         ·clear hkk19
          refine aw_region ?_
          refine al_val (ov_fieldA (p := 1) rfl Tryd.underlying168 rfl sz3 rfl rfl rfl) ?_
          refine al_val (ov_load (i := 0) (v := (int .i64 a0.Kind)) rfl rfl Tryd.underlying3 sz3 rfl rfl rfl rfl) ?_
          refine al_in rfl rfl rfl rfl ?_
          refine al_mv rfl rfl ?_
          refine al_caseB 55 rfl (fun hb28 => ?_) (fun hb28 => ?_)
          ·replace h := bif_t hb28 h
           refine al_val (ov_fieldA (p := 4) rfl Tryd.underlying168 rfl sz3 rfl rfl rfl) ?_
           refine al_val (ov_load (i := 0) (v := (int .i64 a0.Size)) rfl rfl Tryd.underlying3 sz3 rfl rfl rfl rfl) ?_
           refine al_in rfl rfl rfl rfl ?_
           refine al_val (ov_pick_t rfl rfl rfl) ?_
           refine al_as rfl rfl ?_
           refine al_nil ?_
           exact aq_join (a0.Size != (0 : Int)) h (fun w a hm hs => norm hm hs [0] [0] [(1, (ptr g1 0)), (43, (bool (a0.Size != (0 : Int))))] (by decide) ⟨rfl, rfl, trivial⟩)
          ·replace h := bif_f hb28 h
           refine al_skip ?_
           refine al_skip ?_
           refine al_skip ?_
           refine al_val (ov_pick_f rfl rfl rfl) ?_
           refine al_as rfl rfl ?_
           refine al_nil ?_
           exact aq_join false h (fun w a hm hs => norm hm hs [0] [0] [(1, (ptr g1 0)), (43, (bool false))] (by decide) ⟨rfl, rfl, trivial⟩)
       ·clear hkk16
        refine aw_region ?_
        refine al_val (ov_fieldA (p := 1) rfl Tryd.underlying168 rfl sz3 rfl rfl rfl) ?_
        refine al_val (ov_load (i := 0) (v := (int .i64 a0.Kind)) rfl rfl Tryd.underlying3 sz3 rfl rfl rfl rfl) ?_
        refine al_in rfl rfl rfl rfl ?_
        refine al_mv rfl rfl ?_
        refine al_caseB 47 rfl (fun hb29 => ?_) (fun hb29 => ?_)
        ·replace h := bif_t hb29 h
         refine al_val (ov_fieldA (p := 6) rfl Tryd.underlying168 rfl sz9 rfl rfl rfl) ?_
         refine al_val (ov_load (i := 0) (v := (str a0.Link)) rfl rfl Tryd.underlying9 sz9 rfl rfl rfl rfl) ?_
         refine al_val (ov_strCmp rfl rfl rfl rfl) ?_
         refine al_val (ov_pick_t rfl rfl rfl) ?_
         refine al_as rfl rfl ?_
         refine al_nil ?_
         exact aq_join (!(a0.Link == ([] : List UInt8))) h (fun w a hm hs => norm hm hs [0] [0] [(1, (ptr g1 0)), (43, (bool (!(a0.Link == ([] : List UInt8)))))] (by decide) ⟨rfl, rfl, trivial⟩)
        ·replace h := bif_f hb29 h
         refine al_skip ?_
         refine al_skip ?_
         refine al_skip ?_
         refine al_val (ov_pick_f rfl rfl rfl) ?_
         refine al_as rfl rfl ?_
         refine al_nil ?_
         exact aq_join false h (fun w a hm hs => norm hm hs [0] [0] [(1, (ptr g1 0)), (43, (bool false))] (by decide) ⟨rfl, rfl, trivial⟩)
    ·clear hkk9
     refine aw_region ?_
     refine al_val (ov_fieldA (p := 1) rfl Tryd.underlying168 rfl sz3 rfl rfl rfl) ?_
     refine al_val (ov_load (i := 0) (v := (int .i64 a0.Kind)) rfl rfl Tryd.underlying3 sz3 rfl rfl rfl rfl) ?_
     refine al_in rfl rfl rfl rfl ?_
     refine al_mv rfl rfl ?_
     refine al_caseB 38 rfl (fun hb30 => ?_) (fun hb30 => ?_)
     ·replace h := bif_t hb30 h
      refine al_skip ?_
      refine al_skip ?_
      refine al_skip ?_
      refine al_val (ov_pick_t rfl rfl rfl) ?_
      refine al_as rfl rfl ?_
      refine al_nil ?_
      exact aq_join true h (fun w a hm hs => norm hm hs [0] [0] [(1, (ptr g1 0)), (34, (bool true))] (by decide) ⟨rfl, rfl, trivial⟩)
     ·replace h := bif_f hb30 h
      refine al_val (ov_fieldA (p := 1) rfl Tryd.underlying168 rfl sz3 rfl rfl rfl) ?_
      refine al_val (ov_load (i := 0) (v := (int .i64 a0.Kind)) rfl rfl Tryd.underlying3 sz3 rfl rfl rfl rfl) ?_
      refine al_in rfl rfl rfl rfl ?_
      refine al_val (ov_pick_f rfl rfl rfl) ?_
      refine al_as rfl rfl ?_
      refine al_nil ?_
      exact aq_join (decide (a0.Kind > (3 : Int))) h (fun w a hm hs => norm hm hs [0] [0] [(1, (ptr g1 0)), (34, (bool (decide (a0.Kind > (3 : Int)))))] (by decide) ⟨rfl, rfl, trivial⟩)
  ·clear hkk6
   refine aw_region ?_
   refine al_val (ov_fieldA (p := 2) rfl Tryd.underlying168 rfl sz3 rfl rfl rfl) ?_
   refine al_val (ov_load (i := 0) (v := (int .i64 a0.Mode)) rfl rfl Tryd.underlying3 sz3 rfl rfl rfl rfl) ?_
   refine al_in rfl rfl rfl rfl ?_
   refine al_mv rfl rfl ?_
   refine al_caseB 13 rfl (fun hb31 => ?_) (fun hb31 => ?_)
   ·replace h := bif_t hb31 h
    refine al_skip ?_
    refine al_skip ?_
    refine al_skip ?_
    refine al_val (ov_pick_t rfl rfl rfl) ?_
    refine al_mv rfl rfl ?_
    refine al_skip ?_
    refine al_skip ?_
    refine al_skip ?_
    refine al_val (ov_pick_t rfl rfl rfl) ?_
    refine al_mv rfl rfl ?_
    refine al_skip ?_
    refine al_skip ?_
    refine al_skip ?_
    refine al_val (ov_pick_t rfl rfl rfl) ?_
    refine al_mv rfl rfl ?_
    refine al_skip ?_
    refine al_skip ?_
    refine al_skip ?_
    refine al_skip ?_
    refine al_val (ov_pick_t rfl rfl rfl) ?_
    refine al_nil ?_
    exact aq_join true h (fun w a hm hs => norm hm hs [0] [0] [(1, (ptr g1 0)), (33, (bool true))] (by decide) ⟨rfl, rfl, trivial⟩)
   ·replace h := bif_f hb31 h
    refine al_val (ov_fieldA (p := 2) rfl Tryd.underlying168 rfl sz3 rfl rfl rfl) ?_
    refine al_val (ov_load (i := 0) (v := (int .i64 a0.Mode)) rfl rfl Tryd.underlying3 sz3 rfl rfl rfl rfl) ?_
    refine al_in rfl rfl rfl rfl ?_
    refine al_val (ov_pick_f rfl rfl rfl) ?_
    refine al_mv rfl rfl ?_
    refine al_caseB 18 rfl (fun hb32 => ?_) (fun hb32 => ?_)
    ·replace h := bif_t hb32 h
     refine al_skip ?_
     refine al_skip ?_
     refine al_skip ?_
     refine al_val (ov_pick_t rfl rfl rfl) ?_
     refine al_mv rfl rfl ?_
     refine al_skip ?_
     refine al_skip ?_
     refine al_skip ?_
     refine al_val (ov_pick_t rfl rfl rfl) ?_
     refine al_mv rfl rfl ?_
     refine al_skip ?_
     refine al_skip ?_
     refine al_skip ?_
     refine al_skip ?_
     refine al_val (ov_pick_t rfl rfl rfl) ?_
     refine al_nil ?_
     exact aq_join true h (fun w a hm hs => norm hm hs [0] [0] [(1, (ptr g1 0)), (33, (bool true))] (by decide) ⟨rfl, rfl, trivial⟩)
    ·replace h := bif_f hb32 h
     refine al_val (ov_fieldA (p := 4) rfl Tryd.underlying168 rfl sz3 rfl rfl rfl) ?_
     refine al_val (ov_load (i := 0) (v := (int .i64 a0.Size)) rfl rfl Tryd.underlying3 sz3 rfl rfl rfl rfl) ?_
     refine al_in rfl rfl rfl rfl ?_
     refine al_val (ov_pick_f rfl rfl rfl) ?_
     refine al_mv rfl rfl ?_
     refine al_caseB 23 rfl (fun hb33 => ?_) (fun hb33 => ?_)
     ·replace h := bif_t hb33 h
      refine al_skip ?_
      refine al_skip ?_
      refine al_skip ?_
      refine al_val (ov_pick_t rfl rfl rfl) ?_
      refine al_mv rfl rfl ?_
      refine al_skip ?_
      refine al_skip ?_
      refine al_skip ?_
      refine al_skip ?_
      refine al_val (ov_pick_t rfl rfl rfl) ?_
      refine al_nil ?_
      exact aq_join true h (fun w a hm hs => norm hm hs [0] [0] [(1, (ptr g1 0)), (33, (bool true))] (by decide) ⟨rfl, rfl, trivial⟩)
     ·replace h := bif_f hb33 h
      refine al_val (ov_fieldA (p := 4) rfl Tryd.underlying168 rfl sz3 rfl rfl rfl) ?_
      refine al_val (ov_load (i := 0) (v := (int .i64 a0.Size)) rfl rfl Tryd.underlying3 sz3 rfl rfl rfl rfl) ?_
      refine al_in rfl rfl rfl rfl ?_
      refine al_val (ov_pick_f rfl rfl rfl) ?_
      refine al_mv rfl rfl ?_
      refine al_caseB 28 rfl (fun hb34 => ?_) (fun hb34 => ?_)
      ·replace h := bif_t hb34 h
       refine al_skip ?_
       refine al_skip ?_
       refine al_skip ?_
       refine al_skip ?_
       refine al_val (ov_pick_t rfl rfl rfl) ?_
       refine al_nil ?_
       exact aq_join true h (fun w a hm hs => norm hm hs [0] [0] [(1, (ptr g1 0)), (33, (bool true))] (by decide) ⟨rfl, rfl, trivial⟩)
      ·replace h := bif_f hb34 h
       refine al_val (ov_fieldA (p := 5) rfl Tryd.underlying168 rfl sz27 rfl rfl rfl) ?_
       refine al_val (ov_load (i := 0) (v := v0_5) rfl rfl Tryd.underlying27 sz27 rfl rfl rfl rfl) ?_
       refine al_val (ov_lenD 0 rfl rfl Tryd.underlying27 rfl) ?_
       refine al_in rfl rfl rfl rfl ?_
       refine al_val (ov_pick_f rfl rfl rfl) ?_
       refine al_nil ?_
       exact aq_join (decide ((a0.Parts.length : Int) > (300 : Int))) h (fun w a hm hs => norm hm hs [0] [0] [(1, (ptr g1 0)), (33, (bool (decide ((a0.Parts.length : Int) > (300 : Int)))))] (by decide) ⟨rfl, rfl, trivial⟩)
def f_lumref_Nodes_L6 (a0 : (List S_api_Node)) (kk3 : (Unit → Option Int)) (fu : Nat) : Nat → Int → Option Int
  | 0, _ => none
  | k5 + 1, l4i11 => (bif (decide (l4i11 < (a0.length : Int))) then (opt (at? a0 l4i11) fun (u8 : S_api_Node) => (opt (f_lumref_nodeErr fu u8) fun (r15 : Int) => (bif (r15 != (0 : Int)) then (some r15) else (lt (fun (j17b33 : Bool) => (bif j17b33 then (some (4 : Int)) else (f_lumref_Nodes_L6 a0 kk3 fu k5 (IntKind.i64.wrap (l4i11 + (1 : Int)))))) fun (kk18 : Bool → Option Int) => (bif (decide (l4i11 > (0 : Int))) then (opt (at? a0 (IntKind.i64.wrap (l4i11 - (1 : Int)))) fun (u21 : S_api_Node) => (kk18 (!Op.bytesLess u21.Name u8.Name))) else (kk18 false)))))) else (kk3 ()))
def f_lumref_Nodes (fu : Nat) (a0 : (List S_api_Node)) : Option Int := (bif (decide ((a0.length : Int) > (64 : Int))) then (some (2 : Int)) else (lt (fun (_ : Unit) => (some (0 : Int))) fun (kk3 : Unit → Option Int) => (f_lumref_Nodes_L6 a0 kk3 fu fu (0 : Int))))
set_option maxRecDepth 100000 in
theorem f_lumref_Nodes_ok (fu : Nat) (v0_0 : Value) (a0 : (List S_api_Node)) {r : Int} (h : f_lumref_Nodes fu a0 = some r) : FnOk Tryd.prog 170 [v0_0] [(fDat (tyList tyS_api_Node) [v0_0] a0)] [] (fun (i : Unit) => { val := (int .i64 r) }) := by
 unfold f_lumref_Nodes at h
 refine fn_enter Tryd.func170 rfl Tryd.ntmps170 rfl (fun w0 Z0 => ?_)
 refine aw_sr ?_
 refine al_as rfl rfl ?_
 refine al_nt ?_
 refine aw_seq ?_
 refine aw_sr ?_
 refine al_mv rfl rfl ?_
 refine al_val (ov_lenD 0 rfl rfl Tryd.underlying164 rfl) ?_
 refine al_in rfl rfl rfl rfl ?_
 refine al_nt ?_
 refine aw_cond rfl (fun hb1 => ?_) (fun hb1 => ?_)
 ·replace h := bif_t hb1 h
  refine aw_sr ?_
  refine al_as rfl rfl ?_
  refine al_nt ?_
  refine aw_ret ?_
  refine aq_then_ret ?_
  obtain rfl := Option.some.inj h
  exact fn_ret () [] [] rfl rfl rfl rfl (res1 rfl rfl) rfl rfl rfl (by decide)
 ·replace h := bif_f hb1 h
  refine aw_skip ?_
  refine aq_then ?_
  obtain ⟨kk3, hkk3, h⟩ := lt_some h
  refine aw_seq_join (ι := Unit) (fun i => (memOf w0 Z0 [] [] [(fDat (tyList tyS_api_Node) [v0_0] a0)])) (fun i => (tab [])) (fun i => kk3 () = some r) ?_ ?_
  ·rintro _ h
   have h : kk3 () = some r := h
   rw [hkk3] at h
   dsimp only at h
   clear hkk3
   refine aw_show (m := (memOf w0 Z0 [] [] [(fDat (tyList tyS_api_Node) [v0_0] a0)])) (S := (tab [])) ?_
   refine aw_sr ?_
   refine al_as rfl rfl ?_
   refine al_nt ?_
   refine aw_ret ?_
   obtain rfl := Option.some.inj h
   exact fn_ret () [] [] rfl rfl rfl rfl (res1 rfl rfl) rfl rfl rfl (by decide)
  ·clear hkk3
   refine aw_sr ?_
   refine al_mv rfl rfl ?_
   refine al_val (ov_lenD 0 rfl rfl Tryd.underlying164 rfl) ?_
   refine al_mv rfl rfl ?_
   refine al_nt ?_
   refine aw_block ?_
   refine aw_state (aw_loop (ι := Int) (fun i => (memOf w0 Z0 [] [] [(fDat (tyList tyS_api_Node) [v0_0] a0)])) (fun i => (tab [(0, v0_0), (9, v0_0), (10, (int .i64 (a0.length : Int))), (11, (int .i64 i))])) (fun q i => f_lumref_Nodes_L6 a0 kk3 fu q i = some r) ?_ fu (0 : Int) h) (fun w a hm hs => norm hm hs [] [0] [(0, v0_0), (9, v0_0), (10, (int .i64 (a0.length : Int))), (11, (int .i64 (0 : Int)))] (by decide) ⟨rfl, rfl, rfl, rfl, trivial⟩)
   clear h
   rintro k5 l4i11 h
   have h : f_lumref_Nodes_L6 a0 kk3 fu k5 l4i11 = some r := h
   obtain _ | k5 := k5
   · rw [f_lumref_Nodes_L6] at h; cases h
   rw [f_lumref_Nodes_L6] at h
   refine aw_show (m := (memOf w0 Z0 [] [] [(fDat (tyList tyS_api_Node) [v0_0] a0)])) (S := (tab [(0, v0_0), (9, v0_0), (10, (int .i64 (a0.length : Int))), (11, (int .i64 l4i11))])) ?_
   refine aw_sr ?_
   refine al_in rfl rfl rfl rfl ?_
   refine al_nt ?_
   refine aw_seq ?_
   refine aw_cond rfl (fun hb7 => ?_) (fun hb7 => ?_)
   ·replace h := bif_t hb7 h
    refine aw_skip ?_
    refine aq_then ?_
    refine aw_seq ?_
    refine aw_block ?_
    refine aw_sr ?_
    refine al_mv rfl rfl ?_
    obtain ⟨u8, hu9, h⟩ := opt_some h
    refine al_idxD 0 hu9 rfl rfl rfl Tryd.underlying164 sz168 rfl (fun p10 => ?_)
    refine al_loadPA 0 rfl rfl Tryd.underlying168 sz168 rfl rfl (fun cs12 => ?_)
    refine al_use (ι := Value) 0 rfl (fun j => cs12 = [(str u8.Name), (int .i64 u8.Kind), (int .i64 u8.Mode), (int .i64 u8.Time), (int .i64 u8.Size), j, (str u8.Link)]) (fun j => [(fDat (tyList tyA8u8) [j] u8.Parts)]) encnS_api_Node (fun s11 hq => ?_)
    subst hq
    refine al_alloc (zs := [(str ([] : List UInt8)), (int .i64 (0 : Int)), (int .i64 (0 : Int)), (int .i64 (0 : Int)), (int .i64 (0 : Int)), (Value.slice none 0 0), (str ([] : List UInt8))]) (zeroOf_to to168) rfl rfl (fun g13 => ?_)
    refine al_as rfl rfl ?_
    refine al_store (i := 0) (vs := [(str u8.Name), (int .i64 u8.Kind), (int .i64 u8.Mode), (int .i64 u8.Time), (int .i64 u8.Size), s11, (str u8.Link)]) (cs' := [(str u8.Name), (int .i64 u8.Kind), (int .i64 u8.Mode), (int .i64 u8.Time), (int .i64 u8.Size), s11, (str u8.Link)]) rfl rfl rfl sz168 (cv_rfl rfl) rfl (co_val rfl (co_val rfl (co_val rfl (co_val rfl (co_val rfl (co_fz 0 rfl (co_val rfl co_nil))))))) (Nat.le_of_ble_eq_true rfl) rfl rfl ?_
    refine al_nt ?_
    refine aw_seq ?_
    refine aw_sr ?_
    refine al_val (ov_load (i := 0) (v := (ag [(str u8.Name), (int .i64 u8.Kind), (int .i64 u8.Mode), (int .i64 u8.Time), (int .i64 u8.Size), s11, (str u8.Link)])) rfl rfl Tryd.underlying168 sz168 rfl rfl rfl rfl) ?_
    obtain ⟨r15, hc14, h⟩ := opt_some h
    refine al_call (vs := [(ag [(str u8.Name), (int .i64 u8.Kind), (int .i64 u8.Mode), (int .i64 u8.Time), (int .i64 u8.Size), s11, (str u8.Link)])]) (f_lumref_nodeErr_ok fu s11 u8 hc14) [] [] [0] (pre_fz 0 rfl pre_nil) rfl (by simp) (by decide) (.inl rfl) rfl Tryd.func209 rfl rfl rfl (fun _ => ?_)
    refine al_as rfl rfl ?_
    refine al_nt ?_
    refine aw_sr ?_
    refine al_mv rfl rfl ?_
    refine al_in rfl rfl rfl rfl ?_
    refine al_nt ?_
    refine aw_cond rfl (fun hb16 => ?_) (fun hb16 => ?_)
    ·replace h := bif_t hb16 h
     refine aw_sr ?_
     refine al_mv rfl rfl ?_
     refine al_as rfl rfl ?_
     refine al_nt ?_
     refine aw_ret ?_
     refine aq_then_ret ?_
     refine aq_block_ret ?_
     refine aq_then_ret ?_
     refine aq_then_ret ?_
     refine aq_block_ret ?_
     refine aq_then_ret ?_
     obtain rfl := Option.some.inj h
     exact fn_ret () [] [] rfl rfl rfl rfl (res1 rfl rfl) rfl rfl rfl (by decide)
    ·replace h := bif_f hb16 h
     refine aw_skip ?_
     refine aq_then ?_
     obtain ⟨kk18, hkk18, h⟩ := lt_some h
     refine aw_seq_join (ι := Bool) (fun i => (memOf w0 Z0 [] [] [(fDat (tyList tyS_api_Node) [v0_0] a0), (fDat (tyList tyA8u8) [s11] u8.Parts), (fDat tyS_api_Node [(str u8.Name), (int .i64 u8.Kind), (int .i64 u8.Mode), (int .i64 u8.Time), (int .i64 u8.Size), s11, (str u8.Link)] u8), (fPtr tyS_api_Node p10 u8)])) (fun i => (tab [(0, v0_0), (9, v0_0), (10, (int .i64 (a0.length : Int))), (11, (int .i64 l4i11)), (33, (bool i))])) (fun i => kk18 i = some r) ?_ ?_
     ·rintro j17b33 h
      have h : kk18 j17b33 = some r := h
      rw [hkk18] at h
      dsimp only at h
      clear hkk18
      refine aw_show (m := (memOf w0 Z0 [] [] [(fDat (tyList tyS_api_Node) [v0_0] a0), (fDat (tyList tyA8u8) [s11] u8.Parts), (fDat tyS_api_Node [(str u8.Name), (int .i64 u8.Kind), (int .i64 u8.Mode), (int .i64 u8.Time), (int .i64 u8.Size), s11, (str u8.Link)] u8), (fPtr tyS_api_Node p10 u8)])) (S := (tab [(0, v0_0), (9, v0_0), (10, (int .i64 (a0.length : Int))), (11, (int .i64 l4i11)), (33, (bool j17b33))])) ?_
      refine aw_cond rfl (fun hb19 => ?_) (fun hb19 => ?_)
      ·replace h := bif_t hb19 h
       refine aw_sr ?_
       refine al_as rfl rfl ?_
       refine al_nt ?_
       refine aw_ret ?_
       refine aq_block_ret ?_
       refine aq_then_ret ?_
       refine aq_then_ret ?_
       refine aq_block_ret ?_
       refine aq_then_ret ?_
       obtain rfl := Option.some.inj h
       exact fn_ret () [] [] rfl rfl rfl rfl (res1 rfl rfl) rfl rfl rfl (by decide)
      ·replace h := bif_f hb19 h
       refine aw_skip ?_
       refine aq_block ?_
       refine aq_then ?_
       refine aw_region ?_
       refine al_in rfl rfl rfl rfl ?_
       refine al_mv rfl rfl ?_
       refine al_nil ?_
       exact aq_again k5 (IntKind.i64.wrap (l4i11 + (1 : Int))) (Nat.lt_succ_self _) h (fun w a hm hs => norm hm hs [] [0] [(0, v0_0), (9, v0_0), (10, (int .i64 (a0.length : Int))), (11, (int .i64 (IntKind.i64.wrap (l4i11 + (1 : Int)))))] (by decide) ⟨rfl, rfl, rfl, rfl, trivial⟩)
     ·clear hkk18
      rcases Bool.eq_false_or_eq_true (decide (l4i11 > (0 : Int))) with hb20 | hb20
      ·replace h := bif_t hb20 h
       obtain ⟨u21, hu22, h⟩ := opt_some h
       refine aw_region_draw 12 [(21, (fun u => fEq u (int .i64 l4i11))), (22, (fun u => fEq u (bool true))), (23, (fun u => fEq u (bool true))), (24, (fun u => fEq u v0_0)), (25, (fun u => fEq u (int .i64 l4i11))), (26, (fun u => fEq u (int .i64 (IntKind.i64.wrap (l4i11 - (1 : Int)))))), (27, (fun p23 => (fPtr tyS_api_Node p23 u21))), (28, (fun p24 => (fPtr tyStr p24 u21.Name))), (29, (fun u => fEq u (str u21.Name))), (30, (fun u => fEq u (ptr g13 0))), (31, (fun u => fEq u (str u8.Name))), (32, (fun u => fEq u (bool (!Op.bytesLess u21.Name u8.Name))))] (tab [(0, v0_0), (3, (int .i64 l4i11)), (4, (ptr g13 0)), (9, v0_0), (10, (int .i64 (a0.length : Int))), (11, (int .i64 l4i11))]) mixed (by kernel_rfl) rfl rfl rfl (fun a hs => hs.tab _ (allT_mem ⟨rfl, rfl, rfl, rfl, rfl, rfl, trivial⟩)) ⟨⟨rfl, ld_val (ov_move rfl rfl)⟩, ⟨rfl, ld_eq (j := 0) rfl rfl (ld_val (ov_cast (by first | rw [hb20] | rfl) (ov_int rfl rfl rfl rfl)))⟩, ⟨rfl, ld_eq (j := 1) rfl rfl (ld_val (ov_cast (by first | rw [hb20] | rfl) (ov_move rfl rfl)))⟩, ⟨rfl, ld_eq (j := 2) rfl rfl (ld_val (ov_move rfl rfl))⟩, ⟨rfl, ld_eq (j := 2) rfl rfl (ld_val (ov_move rfl rfl))⟩, ⟨rfl, ld_eq (j := 2) rfl rfl (ld_eq (j := 4) rfl rfl (ld_val (ov_int rfl rfl rfl rfl)))⟩, ⟨rfl, ld_eq (j := 2) rfl rfl (ld_eq (j := 3) rfl rfl (ld_eq (j := 5) rfl rfl (ld_of (of_idxD 3 hu22 rfl rfl rfl Tryd.underlying164 sz168 rfl))))⟩, ⟨rfl, ld_eq (j := 2) rfl rfl (ld_fact (j := 6) rfl rfl (fun p23 => ld_of (of_fieldD (pr := fun (y : S_api_Node) => y.Name) 0 rfl subS_api_Node_0 rfl Tryd.underlying168 rfl sz9 rfl rfl)))⟩, ⟨rfl, ld_eq (j := 2) rfl rfl (ld_fact (j := 7) rfl rfl (fun p24 => ld_val (ov_loadP (ds := [(str u21.Name)]) 0 rfl (fun h => h) rfl Tryd.underlying9 sz9 rfl rfl rfl)))⟩, ⟨rfl, ld_eq (j := 2) rfl rfl (ld_val (ov_fieldA (p := 0) rfl Tryd.underlying168 rfl sz9 rfl rfl rfl))⟩, ⟨rfl, ld_eq (j := 2) rfl rfl (ld_eq (j := 9) rfl rfl (ld_val (ov_load (i := 0) (v := (str u8.Name)) rfl rfl Tryd.underlying9 sz9 rfl rfl rfl rfl)))⟩, ⟨rfl, ld_eq (j := 2) rfl rfl (ld_eq (j := 8) rfl rfl (ld_eq (j := 10) rfl rfl (ld_val (ov_strCmp rfl rfl rfl rfl))))⟩, trivial⟩ ?_
       refine tl_eq 2 rfl ?_
       refine tl_eq 11 rfl ?_
       refine tl_done ?_
       refine al_val (ov_pick_t rfl rfl rfl) ?_
       refine al_nil ?_
       exact aq_join (!Op.bytesLess u21.Name u8.Name) h (fun w a hm hs => norm hm hs [] [3, 0, 1, 2] [(0, v0_0), (9, v0_0), (10, (int .i64 (a0.length : Int))), (11, (int .i64 l4i11)), (33, (bool (!Op.bytesLess u21.Name u8.Name)))] (by decide) ⟨rfl, rfl, rfl, rfl, rfl, trivial⟩)
      ·replace h := bif_f hb20 h
       refine aw_region_draw 12 [(21, (fun u => fEq u (int .i64 l4i11))), (22, (fun u => fEq u (bool false))), (23, (fun u => fEq u (bool false))), (24, (fun u => fEq u undef)), (25, (fun u => fEq u undef)), (26, (fun u => fEq u undef)), (27, (fun u => fEq u undef)), (28, (fun u => fEq u undef)), (29, (fun u => fEq u undef)), (30, (fun u => fEq u undef)), (31, (fun u => fEq u undef)), (32, (fun u => fEq u undef))] (tab [(0, v0_0), (3, (int .i64 l4i11)), (4, (ptr g13 0)), (9, v0_0), (10, (int .i64 (a0.length : Int))), (11, (int .i64 l4i11))]) mixed (by kernel_rfl) rfl rfl rfl (fun a hs => hs.tab _ (allT_mem ⟨rfl, rfl, rfl, rfl, rfl, rfl, trivial⟩)) ⟨⟨rfl, ld_val (ov_move rfl rfl)⟩, ⟨rfl, ld_eq (j := 0) rfl rfl (ld_val (ov_cast (by first | rw [hb20] | rfl) (ov_int rfl rfl rfl rfl)))⟩, ⟨rfl, ld_eq (j := 1) rfl rfl (ld_val (ov_cast (by first | rw [hb20] | rfl) (ov_move rfl rfl)))⟩, ⟨rfl, ld_eq (j := 2) rfl rfl (ld_skip)⟩, ⟨rfl, ld_eq (j := 2) rfl rfl (ld_skip)⟩, ⟨rfl, ld_eq (j := 2) rfl rfl (ld_skip)⟩, ⟨rfl, ld_eq (j := 2) rfl rfl (ld_skip)⟩, ⟨rfl, ld_eq (j := 2) rfl rfl (ld_skip)⟩, ⟨rfl, ld_eq (j := 2) rfl rfl (ld_skip)⟩, ⟨rfl, ld_eq (j := 2) rfl rfl (ld_skip)⟩, ⟨rfl, ld_eq (j := 2) rfl rfl (ld_skip)⟩, ⟨rfl, ld_eq (j := 2) rfl rfl (ld_skip)⟩, trivial⟩ ?_
       refine tl_eq 2 rfl ?_
       refine tl_eq 11 rfl ?_
       refine tl_done ?_
       refine al_val (ov_pick_f rfl rfl rfl) ?_
       refine al_nil ?_
       exact aq_join false h (fun w a hm hs => norm hm hs [] [3, 0, 1, 2] [(0, v0_0), (9, v0_0), (10, (int .i64 (a0.length : Int))), (11, (int .i64 l4i11)), (33, (bool false))] (by decide) ⟨rfl, rfl, rfl, rfl, rfl, trivial⟩)
   ·replace h := bif_f hb7 h
    refine aw_exit ?_
    refine aq_then_exit ?_
    refine aq_then_exit ?_
    refine aq_block_exit ?_
    exact aq_join () h (fun w a hm hs => norm hm hs [] [0] [] (by decide) trivial)
def f_lumref_TreeRead_L13 (r3 : (Int × (List UInt8) × Int)) (kk6 : ((List UInt8) → (List S_api_Node) → Option ((List S_api_Node) × Int))) (fu : Nat) : Nat → (List UInt8) → (List S_api_Node) → Int → Option ((List S_api_Node) × Int)
  | 0, _, _, _ => none
  | k12 + 1, l11s0, l11x6, l11i22 => (bif (decide (l11i22 < r3.1)) then (opt (f_lumref_nodeRead fu l11s0) fun (r17 : (S_api_Node × (List UInt8) × Int)) => (bif (r17.2.2 != (0 : Int)) then (some (([] : List S_api_Node), r17.2.2)) else (req (((l11x6.length + ([(S_api_Node.mk r17.1.Name r17.1.Kind r17.1.Mode r17.1.Time r17.1.Size r17.1.Parts r17.1.Link)]).length) * 88 : Nat) ≤ 140737488355328 ∧ l11x6.length + ([(S_api_Node.mk r17.1.Name r17.1.Kind r17.1.Mode r17.1.Time r17.1.Size r17.1.Parts r17.1.Link)]).length ≤ 9223372036854775807) (f_lumref_TreeRead_L13 r3 kk6 fu k12 r17.2.1 (l11x6 ++ ([(S_api_Node.mk r17.1.Name r17.1.Kind r17.1.Mode r17.1.Time r17.1.Size r17.1.Parts r17.1.Link)])) (IntKind.i64.wrap (l11i22 + (1 : Int))))))) else (kk6 l11s0 l11x6))
def f_lumref_TreeRead (fu : Nat) (a0 : (List UInt8)) : Option ((List S_api_Node) × Int) := (bif (decide ((a0.length : Int) > (4096 : Int))) then (some (([] : List S_api_Node), (2 : Int))) else (opt (f_lumref_numberAt fu a0 (64 : Int)) fun (r3 : (Int × (List UInt8) × Int)) => (bif (r3.2.2 != (0 : Int)) then (some (([] : List S_api_Node), r3.2.2)) else (lt (fun (j5s0 : (List UInt8)) (j5x6 : (List S_api_Node)) => (bif (!(j5s0 == ([] : List UInt8))) then (some (([] : List S_api_Node), (4 : Int))) else (opt (f_lumref_Nodes fu j5x6) fun (r9 : Int) => (bif (r9 != (0 : Int)) then (some (([] : List S_api_Node), r9)) else (some (j5x6, (0 : Int))))))) fun (kk6 : (List UInt8) → (List S_api_Node) → Option ((List S_api_Node) × Int)) => (f_lumref_TreeRead_L13 r3 kk6 fu fu r3.2.1 ([] : List S_api_Node) (0 : Int))))))
set_option maxRecDepth 100000 in
theorem f_lumref_TreeRead_ok (fu : Nat) (a0 : (List UInt8)) {r : ((List S_api_Node) × Int)} (h : f_lumref_TreeRead fu a0 = some r) : FnOk Tryd.prog 110 [(str a0)] [] [] (fun (i : Value) => { val := (Value.tuple #[i, (int .i64 r.2)]), own := [(oRow i 168 tyS_api_Node r.1)] }) := by
 unfold f_lumref_TreeRead at h
 refine fn_enter Tryd.func110 rfl Tryd.ntmps110 rfl (fun w0 Z0 => ?_)
 refine aw_sr ?_
 refine al_as rfl rfl ?_
 refine al_as rfl rfl ?_
 refine al_nt ?_
 refine aw_seq ?_
 refine aw_sr ?_
 refine al_mv rfl rfl ?_
 refine al_val (ov_strLen Tryd.underlying9 rfl rfl) ?_
 refine al_in rfl rfl rfl rfl ?_
 refine al_nt ?_
 refine aw_cond rfl (fun hb1 => ?_) (fun hb1 => ?_)
 ·replace h := bif_t hb1 h
  refine aw_sr ?_
  refine al_as rfl rfl ?_
  refine al_as rfl rfl ?_
  refine al_nt ?_
  refine aw_ret ?_
  refine aq_then_ret ?_
  refine aq_nilR 168 tyS_api_Node ?_
  obtain rfl := Option.some.inj h
  exact fn_ret (Value.slice none 0 0) [0] [] rfl rfl rfl rfl (res2 rfl rfl rfl) rfl rfl rfl (by decide)
 ·replace h := bif_f hb1 h
  refine aw_skip ?_
  refine aq_tr ?_
  refine al_mv rfl rfl ?_
  obtain ⟨r3, hc2, h⟩ := opt_some h
  refine al_call (vs := [(str a0), (int .u64 (64 : Int))]) (f_lumref_numberAt_ok fu a0 (64 : Int) hc2) [] [] [] pre_nil rfl (by simp) (by decide) (.inl rfl) rfl Tryd.func168 rfl rfl rfl (fun _ => ?_)
  refine al_mv rfl rfl ?_
  refine al_ex rfl rfl rfl ?_
  refine al_ex rfl rfl rfl ?_
  refine al_ex rfl rfl rfl ?_
  refine al_as rfl rfl ?_
  refine al_as rfl rfl ?_
  refine al_as rfl rfl ?_
  refine al_nt ?_
  refine aw_seq ?_
  refine aw_sr ?_
  refine al_mv rfl rfl ?_
  refine al_in rfl rfl rfl rfl ?_
  refine al_nt ?_
  refine aw_cond rfl (fun hb4 => ?_) (fun hb4 => ?_)
  ·replace h := bif_t hb4 h
   refine aw_sr ?_
   refine al_mv rfl rfl ?_
   refine al_as rfl rfl ?_
   refine al_as rfl rfl ?_
   refine al_nt ?_
   refine aw_ret ?_
   refine aq_then_ret ?_
   refine aq_nilR 168 tyS_api_Node ?_
   obtain rfl := Option.some.inj h
   exact fn_ret (Value.slice none 0 0) [0] [] rfl rfl rfl rfl (res2 rfl rfl rfl) rfl rfl rfl (by decide)
  ·replace h := bif_f hb4 h
   refine aw_skip ?_
   refine aq_tr ?_
   refine al_as rfl rfl ?_
   refine al_nt ?_
   obtain ⟨kk6, hkk6, h⟩ := lt_some h
   refine aw_seq_join (ι := (List UInt8) × Value × (List S_api_Node)) (fun i => (memOf w0 Z0 [] [(oRow i.2.1 168 tyS_api_Node i.2.2)] [])) (fun i => (tab [(0, (str i.1)), (6, i.2.1)])) (fun i => kk6 i.1 i.2.2 = some r) ?_ ?_
   ·rintro ⟨j5s0, j5v6, j5x6⟩ h
    have h : kk6 j5s0 j5x6 = some r := h
    rw [hkk6] at h
    dsimp only at h
    clear hkk6
    refine aw_show (m := (memOf w0 Z0 [] [(oRow j5v6 168 tyS_api_Node j5x6)] [])) (S := (tab [(0, (str j5s0)), (6, j5v6)])) ?_
    refine aw_seq ?_
    refine aw_sr ?_
    refine al_mv rfl rfl ?_
    refine al_val (ov_strCmp rfl rfl rfl rfl) ?_
    refine al_nt ?_
    refine aw_cond rfl (fun hb7 => ?_) (fun hb7 => ?_)
    ·replace h := bif_t hb7 h
     refine aw_sr ?_
     refine al_as rfl rfl ?_
     refine al_as rfl rfl ?_
     refine al_nt ?_
     refine aw_ret ?_
     refine aq_then_ret ?_
     refine aq_nilR 168 tyS_api_Node ?_
     obtain rfl := Option.some.inj h
     exact fn_ret (Value.slice none 0 0) [0] [] rfl rfl rfl rfl (res2 rfl rfl rfl) rfl rfl rfl (by decide)
    ·replace h := bif_f hb7 h
     refine aw_skip ?_
     refine aq_then ?_
     refine aw_seq ?_
     refine aw_sr ?_
     refine al_mv rfl rfl ?_
     obtain ⟨r9, hc8, h⟩ := opt_some h
     refine al_call (vs := [j5v6]) (f_lumref_Nodes_ok fu j5v6 j5x6 hc8) [0] [] [0] (pre_own 0 rfl rfl pre_nil) rfl (by simp) (by decide) (.inr flat_res0) rfl Tryd.func170 rfl rfl rfl (fun _ => ?_)
     refine al_as rfl rfl ?_
     refine al_nt ?_
     refine aw_sr ?_
     refine al_mv rfl rfl ?_
     refine al_in rfl rfl rfl rfl ?_
     refine al_nt ?_
     refine aw_cond rfl (fun hb10 => ?_) (fun hb10 => ?_)
     ·replace h := bif_t hb10 h
      refine aw_sr ?_
      refine al_mv rfl rfl ?_
      refine al_as rfl rfl ?_
      refine al_as rfl rfl ?_
      refine al_nt ?_
      refine aw_ret ?_
      refine aq_then_ret ?_
      refine aq_nilR 168 tyS_api_Node ?_
      obtain rfl := Option.some.inj h
      exact fn_ret (Value.slice none 0 0) [0] [] rfl rfl rfl rfl (res2 rfl rfl rfl) rfl rfl rfl (by decide)
     ·replace h := bif_f hb10 h
      refine aw_skip ?_
      refine aq_tr ?_
      refine al_mv rfl rfl ?_
      refine al_as rfl rfl ?_
      refine al_as rfl rfl ?_
      refine al_nt ?_
      refine aw_ret ?_
      obtain rfl := Option.some.inj h
      exact fn_ret j5v6 [0] [] rfl rfl rfl rfl (res2 rfl rfl rfl) rfl rfl rfl (by decide)
   ·clear hkk6
    refine aw_sr ?_
    refine al_mv rfl rfl ?_
    refine al_mv rfl rfl ?_
    refine al_nt ?_
    refine aw_block ?_
    refine aw_nilR 168 tyS_api_Node ?_
    refine aw_state (aw_loop (ι := (List UInt8) × Value × (List S_api_Node) × Int) (fun i => (memOf w0 Z0 [] [(oRow i.2.1 168 tyS_api_Node i.2.2.1)] [])) (fun i => (tab [(0, (str i.1)), (6, i.2.1), (21, (int .i64 r3.1)), (22, (int .i64 i.2.2.2))])) (fun q i => f_lumref_TreeRead_L13 r3 kk6 fu q i.1 i.2.2.1 i.2.2.2 = some r) ?_ fu (r3.2.1, (Value.slice none 0 0), ([] : List S_api_Node), (0 : Int)) h) (fun w a hm hs => norm hm hs [0] [] [(0, (str r3.2.1)), (6, (Value.slice none 0 0)), (21, (int .i64 r3.1)), (22, (int .i64 (0 : Int)))] (by decide) ⟨rfl, rfl, rfl, rfl, trivial⟩)
    clear h
    rintro k12 ⟨l11s0, l11v6, l11x6, l11i22⟩ h
    have h : f_lumref_TreeRead_L13 r3 kk6 fu k12 l11s0 l11x6 l11i22 = some r := h
    obtain _ | k12 := k12
    · rw [f_lumref_TreeRead_L13] at h; cases h
    rw [f_lumref_TreeRead_L13] at h
    refine aw_show (m := (memOf w0 Z0 [] [(oRow l11v6 168 tyS_api_Node l11x6)] [])) (S := (tab [(0, (str l11s0)), (6, l11v6), (21, (int .i64 r3.1)), (22, (int .i64 l11i22))])) ?_
    refine aw_sr ?_
    refine al_in rfl rfl rfl rfl ?_
    refine al_nt ?_
    refine aw_seq ?_
    refine aw_cond rfl (fun hb14 => ?_) (fun hb14 => ?_)
    ·replace h := bif_t hb14 h
     refine aw_skip ?_
     refine aq_then ?_
     refine aw_seq ?_
     refine aw_block ?_
     refine aw_sr ?_
     refine al_alloc (zs := [(str ([] : List UInt8)), (int .i64 (0 : Int)), (int .i64 (0 : Int)), (int .i64 (0 : Int)), (int .i64 (0 : Int)), (Value.slice none 0 0), (str ([] : List UInt8))]) (zeroOf_to to168) rfl rfl (fun g15 => ?_)
     refine al_nt ?_
     refine aw_seq ?_
     refine aw_sr ?_
     refine al_mv rfl rfl ?_
     obtain ⟨r17, hc16, h⟩ := opt_some h
     refine al_call (vs := [(str l11s0)]) (f_lumref_nodeRead_ok fu l11s0 hc16) [] [] [0, 1] pre_nil rfl (by simp) (by decide) (.inl rfl) rfl Tryd.func169 rfl rfl rfl (fun v18 => ?_)
     refine al_mv rfl rfl ?_
     refine al_ex rfl rfl rfl ?_
     refine al_ex rfl rfl rfl ?_
     refine al_ex rfl rfl rfl ?_
     refine al_store (i := 0) (vs := [(str r17.1.Name), (int .i64 r17.1.Kind), (int .i64 r17.1.Mode), (int .i64 r17.1.Time), (int .i64 r17.1.Size), v18, (str r17.1.Link)]) (cs' := [(str r17.1.Name), (int .i64 r17.1.Kind), (int .i64 r17.1.Mode), (int .i64 r17.1.Time), (int .i64 r17.1.Size), v18, (str r17.1.Link)]) rfl rfl rfl sz168 (cv_rfl rfl) rfl (co_val rfl (co_val rfl (co_val rfl (co_val rfl (co_val rfl (co_fz 0 rfl (co_val rfl co_nil))))))) (Nat.le_of_ble_eq_true rfl) rfl rfl ?_
     refine al_as rfl rfl ?_
     refine al_as rfl rfl ?_
     refine al_nt ?_
     refine aw_sr ?_
     refine al_mv rfl rfl ?_
     refine al_in rfl rfl rfl rfl ?_
     refine al_nt ?_
     refine aw_cond rfl (fun hb19 => ?_) (fun hb19 => ?_)
     ·replace h := bif_t hb19 h
      refine aw_sr ?_
      refine al_mv rfl rfl ?_
      refine al_as rfl rfl ?_
      refine al_as rfl rfl ?_
      refine al_nt ?_
      refine aw_ret ?_
      refine aq_then_ret ?_
      refine aq_block_ret ?_
      refine aq_then_ret ?_
      refine aq_then_ret ?_
      refine aq_block_ret ?_
      refine aq_then_ret ?_
      refine aq_nilR 168 tyS_api_Node ?_
      obtain rfl := Option.some.inj h
      exact fn_ret (Value.slice none 0 0) [0] [] rfl rfl rfl rfl (res2 rfl rfl rfl) rfl rfl rfl (by decide)
     ·replace h := bif_f hb19 h
      refine aw_skip ?_
      refine aq_then ?_
      refine aw_region ?_
      refine al_mv rfl rfl ?_
      refine al_val (ov_load (i := 0) (v := (ag [(str r17.1.Name), (int .i64 r17.1.Kind), (int .i64 r17.1.Mode), (int .i64 r17.1.Time), (int .i64 r17.1.Size), v18, (str r17.1.Link)])) rfl rfl Tryd.underlying168 sz168 rfl rfl rfl rfl) ?_
      refine al_buildSlice (τ := tyS_api_Node) (e := 168) (k := 1) (sz := 0) (by_ := 0) (z := undef) (cs := [(str r17.1.Name), (int .i64 r17.1.Kind), (int .i64 r17.1.Mode), (int .i64 r17.1.Time), (int .i64 r17.1.Size), v18, (str r17.1.Link)]) (xs := [(S_api_Node.mk r17.1.Name r17.1.Kind r17.1.Mode r17.1.Time r17.1.Size r17.1.Parts r17.1.Link)]) rfl (by decide) (fun w a hm hs => ⟨([(str r17.1.Name), (int .i64 r17.1.Kind), (int .i64 r17.1.Mode), (int .i64 r17.1.Time), (int .i64 r17.1.Size), v18, (str r17.1.Link)]).toArray, rfl, by simp only [List.map_toArray, List.map_cons, List.map_nil, hs.ev (x := .tmp 34) rfl]; exact run_bs [(ag [(str r17.1.Name), (int .i64 r17.1.Kind), (int .i64 r17.1.Mode), (int .i64 r17.1.Time), (int .i64 r17.1.Size), v18, (str r17.1.Link)])] [(str r17.1.Name), (int .i64 r17.1.Kind), (int .i64 r17.1.Mode), (int .i64 r17.1.Time), (int .i64 r17.1.Size), v18, (str r17.1.Link)] Tryd.underlying164 to168 rfl rfl (bs_cons (l := [(str r17.1.Name), (int .i64 r17.1.Kind), (int .i64 r17.1.Mode), (int .i64 r17.1.Time), (int .i64 r17.1.Size), v18, (str r17.1.Link)]) (cs := []) (cv_rfl rfl) rfl bs_nil) hm⟩) (fun hm => ⟨_, _, rfl, (fun hm => mknS_api_Node rfl (fz_at (i := 0) hm rfl)) hm, rfl⟩) rfl (fun v20 => ?_)
      obtain ⟨hc21, h⟩ := req_some h
      refine al_append 2 hc21.1 hc21.2 rfl (src_own (i := 2) 0 rfl) rfl rfl Tryd.underlying164 to168 rfl rfl rfl (fun v22 => ?_)
      refine al_as rfl rfl ?_
      refine al_nil ?_
      refine aq_block ?_
      refine aq_then ?_
      refine aw_region ?_
      refine al_in rfl rfl rfl rfl ?_
      refine al_mv rfl rfl ?_
      refine al_nil ?_
      exact aq_again k12 (r17.2.1, v22, (l11x6 ++ ([(S_api_Node.mk r17.1.Name r17.1.Kind r17.1.Mode r17.1.Time r17.1.Size r17.1.Parts r17.1.Link)])), (IntKind.i64.wrap (l11i22 + (1 : Int)))) (Nat.lt_succ_self _) h (fun w a hm hs => norm hm hs [2] [] [(0, (str r17.2.1)), (6, v22), (21, (int .i64 r3.1)), (22, (int .i64 (IntKind.i64.wrap (l11i22 + (1 : Int)))))] (by decide) ⟨rfl, rfl, rfl, rfl, trivial⟩)
    ·replace h := bif_f hb14 h
     refine aw_exit ?_
     refine aq_then_exit ?_
     refine aq_then_exit ?_
     refine aq_block_exit ?_
     exact aq_join (l11s0, l11v6, l11x6) h (fun w a hm hs => norm hm hs [0] [] [(0, (str l11s0)), (6, l11v6)] (by decide) ⟨rfl, rfl, trivial⟩)
def f_slices_Clone___string_string_ (fu : Nat) (a0 : (List (List UInt8))) : Option (List (List UInt8)) := (amb (a0.isEmpty) (some ([] : List (List UInt8))) (req (((([] : List (List UInt8)).length + a0.length) * 16 : Nat) ≤ 140737488355328 ∧ ([] : List (List UInt8)).length + a0.length ≤ 9223372036854775807) (some (([] : List (List UInt8)) ++ a0))))
set_option maxRecDepth 100000 in
theorem f_slices_Clone___string_string__ok (fu : Nat) (v0_0 : Value) (a0 : (List (List UInt8))) {r : (List (List UInt8))} (h : f_slices_Clone___string_string_ fu a0 = some r) : FnOk Tryd.prog 111 [v0_0] [(fDat (tyList tyStr) [v0_0] a0)] [] (fun (i : Value) => { val := i, own := [(oRow i 9 tyStr r)] }) := by
 unfold f_slices_Clone___string_string_ at h
 refine fn_enter Tryd.func111 rfl Tryd.ntmps111 rfl (fun w0 Z0 => ?_)
 refine aw_sr ?_
 refine al_as rfl rfl ?_
 refine al_nt ?_
 refine aw_seq ?_
 refine aw_sr ?_
 refine al_mv rfl rfl ?_
 refine al_isNilD 0 rfl rfl rfl Tryd.underlying22 rfl (fun nb1 hn2 => ?_)
 refine al_nt ?_
 refine aw_cond rfl (fun hb3 => ?_) (fun hb3 => ?_)
 ·replace h := (amb_some h).2 (isEmpty_of (hn2 hb3))
  refine aw_sr ?_
  refine al_as rfl rfl ?_
  refine al_nt ?_
  refine aw_ret ?_
  refine aq_then_ret ?_
  refine aq_nilR 9 tyStr ?_
  obtain rfl := Option.some.inj h
  exact fn_ret (Value.slice none 0 0) [0] [] rfl rfl rfl rfl (res1 rfl rfl) rfl rfl rfl (by decide)
 ·replace h := (amb_some h).1
  refine aw_skip ?_
  refine aq_tr ?_
  refine al_buildSlice (τ := tyStr) (e := 9) (k := 0) (sz := 0) (by_ := 0) (z := undef) (cs := []) (xs := ([] : List (List UInt8))) rfl (by decide) (fun w a hm hs => ⟨([]).toArray, rfl, by simp only [List.map_toArray, List.map_cons, List.map_nil]; exact run_bs [] [] Tryd.underlying22 to9 rfl rfl bs_nil hm⟩) (fun hm => rfl) rfl (fun v4 => ?_)
  refine al_mv rfl rfl ?_
  obtain ⟨hc5, h⟩ := req_some h
  refine al_append 0 hc5.1 hc5.2 rfl (src_dat (i := 0) 0 rfl) rfl rfl Tryd.underlying22 to9 rfl rfl rfl (fun v6 => ?_)
  refine al_as rfl rfl ?_
  refine al_nt ?_
  refine aw_ret ?_
  obtain rfl := Option.some.inj h
  exact fn_ret v6 [0] [] rfl rfl rfl rfl (res1 rfl rfl) rfl rfl rfl (by decide)
def f_lumref_reapFile_L7 (a0 : (List S_api_Blob)) (a1 : (List A8u8)) (a2 : S_api_Node) (kk3 : ((List UInt8) → Option ((List UInt8) × Int))) (fu : Nat) : Nat → (List UInt8) → Int → Option ((List UInt8) × Int)
  | 0, _, _ => none
  | k6 + 1, l5s8, l5i16 => (bif (decide (l5i16 < (a2.Parts.length : Int))) then (opt (at? a2.Parts l5i16) fun (u9 : A8u8) => (opt (f_lumref_blobOf fu a0 a1 u9 (1 : Int)) fun (r14 : ((List UInt8) × Int)) => (bif (r14.2 != (0 : Int)) then (some (([] : List UInt8), r14.2)) else (req (l5s8.length + r14.1.length ≤ 9223372036854775807) (bif (decide (((l5s8 ++ r14.1).length : Int) > a2.Size)) then (some (([] : List UInt8), (4 : Int))) else (f_lumref_reapFile_L7 a0 a1 a2 kk3 fu k6 (l5s8 ++ r14.1) (IntKind.i64.wrap (l5i16 + (1 : Int))))))))) else (kk3 l5s8))
def f_lumref_reapFile (fu : Nat) (a0 : (List S_api_Blob)) (a1 : (List A8u8)) (a2 : S_api_Node) : Option ((List UInt8) × Int) := (lt (fun (j2s8 : (List UInt8)) => (bif ((j2s8.length : Int) != a2.Size) then (some (([] : List UInt8), (4 : Int))) else (some (j2s8, (0 : Int))))) fun (kk3 : (List UInt8) → Option ((List UInt8) × Int)) => (f_lumref_reapFile_L7 a0 a1 a2 kk3 fu fu ([] : List UInt8) (0 : Int)))
set_option maxRecDepth 100000 in
theorem f_lumref_reapFile_ok (fu : Nat) (v0_0 : Value) (a0 : (List S_api_Blob)) (v1_0 : Value) (a1 : (List A8u8)) (v2_5 : Value) (a2 : S_api_Node) {r : ((List UInt8) × Int)} (h : f_lumref_reapFile fu a0 a1 a2 = some r) : FnOk Tryd.prog 113 [v0_0, v1_0, (ag [(str a2.Name), (int .i64 a2.Kind), (int .i64 a2.Mode), (int .i64 a2.Time), (int .i64 a2.Size), v2_5, (str a2.Link)])] [(fDat (tyList tyS_api_Blob) [v0_0] a0), (fDat (tyList tyA8u8) [v1_0] a1), (fDat (tyList tyA8u8) [v2_5] a2.Parts)] [] (fun (i : Unit) => { val := (Value.tuple #[(str r.1), (int .i64 r.2)]) }) := by
 unfold f_lumref_reapFile at h
 refine fn_enter Tryd.func113 rfl Tryd.ntmps113 rfl (fun w0 Z0 => ?_)
 refine aw_sr ?_
 refine al_box (vs := [(str a2.Name), (int .i64 a2.Kind), (int .i64 a2.Mode), (int .i64 a2.Time), (int .i64 a2.Size), v2_5, (str a2.Link)]) rfl (cv_rfl rfl) rfl (fun g1 => ?_)
 refine al_as rfl rfl ?_
 refine al_as rfl rfl ?_
 refine al_nt ?_
 refine aw_sr ?_
 refine al_as rfl rfl ?_
 refine al_nt ?_
 obtain ⟨kk3, hkk3, h⟩ := lt_some h
 refine aw_seq_join (ι := (List UInt8)) (fun i => (memOf w0 Z0 [] [(oBox g1 168 [(str a2.Name), (int .i64 a2.Kind), (int .i64 a2.Mode), (int .i64 a2.Time), (int .i64 a2.Size), v2_5, (str a2.Link)])] [(fDat (tyList tyA8u8) [v2_5] a2.Parts), (fDat (tyList tyS_api_Blob) [v0_0] a0), (fDat (tyList tyA8u8) [v1_0] a1)])) (fun i => (tab [(5, (ptr g1 0)), (8, (str i))])) (fun i => kk3 i = some r) ?_ ?_
 ·rintro j2s8 h
  have h : kk3 j2s8 = some r := h
  rw [hkk3] at h
  dsimp only at h
  clear hkk3
  refine aw_show (m := (memOf w0 Z0 [] [(oBox g1 168 [(str a2.Name), (int .i64 a2.Kind), (int .i64 a2.Mode), (int .i64 a2.Time), (int .i64 a2.Size), v2_5, (str a2.Link)])] [(fDat (tyList tyA8u8) [v2_5] a2.Parts), (fDat (tyList tyS_api_Blob) [v0_0] a0), (fDat (tyList tyA8u8) [v1_0] a1)])) (S := (tab [(5, (ptr g1 0)), (8, (str j2s8))])) ?_
  refine aw_seq ?_
  refine aw_sr ?_
  refine al_mv rfl rfl ?_
  refine al_val (ov_strLen Tryd.underlying9 rfl rfl) ?_
  refine al_val (ov_fieldA (p := 4) rfl Tryd.underlying168 rfl sz3 rfl rfl rfl) ?_
  refine al_val (ov_load (i := 0) (v := (int .i64 a2.Size)) rfl rfl Tryd.underlying3 sz3 rfl rfl rfl rfl) ?_
  refine al_in rfl rfl rfl rfl ?_
  refine al_nt ?_
  refine aw_cond rfl (fun hb4 => ?_) (fun hb4 => ?_)
  ·replace h := bif_t hb4 h
   refine aw_sr ?_
   refine al_as rfl rfl ?_
   refine al_as rfl rfl ?_
   refine al_nt ?_
   refine aw_ret ?_
   refine aq_then_ret ?_
   obtain rfl := Option.some.inj h
   exact fn_ret () [] [] rfl rfl rfl rfl (res2 rfl rfl rfl) rfl rfl rfl (by decide)
  ·replace h := bif_f hb4 h
   refine aw_skip ?_
   refine aq_tr ?_
   refine al_mv rfl rfl ?_
   refine al_as rfl rfl ?_
   refine al_as rfl rfl ?_
   refine al_nt ?_
   refine aw_ret ?_
   obtain rfl := Option.some.inj h
   exact fn_ret () [] [] rfl rfl rfl rfl (res2 rfl rfl rfl) rfl rfl rfl (by decide)
 ·clear hkk3
  refine aw_sr ?_
  refine al_val (ov_fieldA (p := 5) rfl Tryd.underlying168 rfl sz27 rfl rfl rfl) ?_
  refine al_val (ov_load (i := 0) (v := v2_5) rfl rfl Tryd.underlying27 sz27 rfl rfl rfl rfl) ?_
  refine al_val (ov_lenD 2 rfl rfl Tryd.underlying27 rfl) ?_
  refine al_mv rfl rfl ?_
  refine al_nt ?_
  refine aw_block ?_
  refine aw_state (aw_loop (ι := (List UInt8) × Int) (fun i => (memOf w0 Z0 [] [(oBox g1 168 [(str a2.Name), (int .i64 a2.Kind), (int .i64 a2.Mode), (int .i64 a2.Time), (int .i64 a2.Size), v2_5, (str a2.Link)])] [(fDat (tyList tyS_api_Blob) [v0_0] a0), (fDat (tyList tyA8u8) [v1_0] a1), (fDat (tyList tyA8u8) [v2_5] a2.Parts)])) (fun i => (tab [(0, v0_0), (1, v1_0), (5, (ptr g1 0)), (8, (str i.1)), (14, v2_5), (15, (int .i64 (a2.Parts.length : Int))), (16, (int .i64 i.2))])) (fun q i => f_lumref_reapFile_L7 a0 a1 a2 kk3 fu q i.1 i.2 = some r) ?_ fu (([] : List UInt8), (0 : Int)) h) (fun w a hm hs => norm hm hs [0] [0, 1, 2] [(0, v0_0), (1, v1_0), (5, (ptr g1 0)), (8, (str ([] : List UInt8))), (14, v2_5), (15, (int .i64 (a2.Parts.length : Int))), (16, (int .i64 (0 : Int)))] (by decide) ⟨rfl, rfl, rfl, rfl, rfl, rfl, rfl, trivial⟩)
  clear h
  rintro k6 ⟨l5s8, l5i16⟩ h
  have h : f_lumref_reapFile_L7 a0 a1 a2 kk3 fu k6 l5s8 l5i16 = some r := h
  obtain _ | k6 := k6
  · rw [f_lumref_reapFile_L7] at h; cases h
  rw [f_lumref_reapFile_L7] at h
  refine aw_show (m := (memOf w0 Z0 [] [(oBox g1 168 [(str a2.Name), (int .i64 a2.Kind), (int .i64 a2.Mode), (int .i64 a2.Time), (int .i64 a2.Size), v2_5, (str a2.Link)])] [(fDat (tyList tyS_api_Blob) [v0_0] a0), (fDat (tyList tyA8u8) [v1_0] a1), (fDat (tyList tyA8u8) [v2_5] a2.Parts)])) (S := (tab [(0, v0_0), (1, v1_0), (5, (ptr g1 0)), (8, (str l5s8)), (14, v2_5), (15, (int .i64 (a2.Parts.length : Int))), (16, (int .i64 l5i16))])) ?_
  refine aw_sr ?_
  refine al_in rfl rfl rfl rfl ?_
  refine al_nt ?_
  refine aw_seq ?_
  refine aw_cond rfl (fun hb8 => ?_) (fun hb8 => ?_)
  ·replace h := bif_t hb8 h
   refine aw_skip ?_
   refine aq_then ?_
   refine aw_seq ?_
   refine aw_block ?_
   refine aw_sr ?_
   obtain ⟨u9, hu10, h⟩ := opt_some h
   refine al_idxD 2 hu10 rfl rfl rfl Tryd.underlying27 sz47 rfl (fun p11 => ?_)
   refine al_val (ov_loadP (ds := (cA8u8 u9)) 0 rfl encA8u8 rfl Tryd.underlying47 sz47 rfl rfl rfl) ?_
   refine al_alloc (zs := (cA8u8 (A8u8.mk (0 : UInt8) (0 : UInt8) (0 : UInt8) (0 : UInt8) (0 : UInt8) (0 : UInt8) (0 : UInt8) (0 : UInt8)))) (zeroOf_to to47) rfl rfl (fun g12 => ?_)
   refine al_store (i := 0) (vs := (cA8u8 u9)) (cs' := (cA8u8 u9)) rfl rfl rfl sz47 (cv_rfl rfl) rfl (co_all (oneA8u8 u9)) (Nat.le_of_ble_eq_true rfl) rfl rfl ?_
   refine al_nt ?_
   refine aw_sr ?_
   refine al_mv rfl rfl ?_
   refine al_mv rfl rfl ?_
   refine al_val (ov_load (i := 0) (v := (ag (cA8u8 u9))) rfl rfl Tryd.underlying47 sz47 rfl rfl rfl rfl) ?_
   obtain ⟨r14, hc13, h⟩ := opt_some h
   refine al_call (vs := [v0_0, v1_0, (ag (cA8u8 u9)), (int .i64 (1 : Int))]) (f_lumref_blobOf_ok fu v0_0 a0 v1_0 a1 u9 (1 : Int) hc13) [] [] [0, 1] (pre_fz 1 rfl (pre_fz 2 rfl pre_nil)) rfl (by simp) (by decide) (.inl rfl) rfl Tryd.func109 rfl rfl rfl (fun _ => ?_)
   refine al_mv rfl rfl ?_
   refine al_ex rfl rfl rfl ?_
   refine al_ex rfl rfl rfl ?_
   refine al_as rfl rfl ?_
   refine al_as rfl rfl ?_
   refine al_nt ?_
   refine aw_seq ?_
   refine aw_sr ?_
   refine al_mv rfl rfl ?_
   refine al_in rfl rfl rfl rfl ?_
   refine al_nt ?_
   refine aw_cond rfl (fun hb15 => ?_) (fun hb15 => ?_)
   ·replace h := bif_t hb15 h
    refine aw_sr ?_
    refine al_mv rfl rfl ?_
    refine al_as rfl rfl ?_
    refine al_as rfl rfl ?_
    refine al_nt ?_
    refine aw_ret ?_
    refine aq_then_ret ?_
    refine aq_block_ret ?_
    refine aq_then_ret ?_
    refine aq_then_ret ?_
    refine aq_block_ret ?_
    refine aq_then_ret ?_
    obtain rfl := Option.some.inj h
    exact fn_ret () [] [] rfl rfl rfl rfl (res2 rfl rfl rfl) rfl rfl rfl (by decide)
   ·replace h := bif_f hb15 h
    refine aw_skip ?_
    refine aq_tr ?_
    refine al_mv rfl rfl ?_
    refine al_mv rfl rfl ?_
    obtain ⟨hc16, h⟩ := req_some h
    refine al_val (ov_strAdd hc16 rfl rfl rfl) ?_
    refine al_as rfl rfl ?_
    refine al_nt ?_
    refine aw_sr ?_
    refine al_mv rfl rfl ?_
    refine al_val (ov_strLen Tryd.underlying9 rfl rfl) ?_
    refine al_val (ov_fieldA (p := 4) rfl Tryd.underlying168 rfl sz3 rfl rfl rfl) ?_
    refine al_val (ov_load (i := 1) (v := (int .i64 a2.Size)) rfl rfl Tryd.underlying3 sz3 rfl rfl rfl rfl) ?_
    refine al_in rfl rfl rfl rfl ?_
    refine al_nt ?_
    refine aw_cond rfl (fun hb17 => ?_) (fun hb17 => ?_)
    ·replace h := bif_t hb17 h
     refine aw_sr ?_
     refine al_as rfl rfl ?_
     refine al_as rfl rfl ?_
     refine al_nt ?_
     refine aw_ret ?_
     refine aq_block_ret ?_
     refine aq_then_ret ?_
     refine aq_then_ret ?_
     refine aq_block_ret ?_
     refine aq_then_ret ?_
     obtain rfl := Option.some.inj h
     exact fn_ret () [] [] rfl rfl rfl rfl (res2 rfl rfl rfl) rfl rfl rfl (by decide)
    ·replace h := bif_f hb17 h
     refine aw_skip ?_
     refine aq_block ?_
     refine aq_then ?_
     refine aw_region ?_
     refine al_in rfl rfl rfl rfl ?_
     refine al_mv rfl rfl ?_
     refine al_nil ?_
     exact aq_again k6 ((l5s8 ++ r14.1), (IntKind.i64.wrap (l5i16 + (1 : Int)))) (Nat.lt_succ_self _) h (fun w a hm hs => norm hm hs [1] [1, 2, 3] [(0, v0_0), (1, v1_0), (5, (ptr g1 0)), (8, (str (l5s8 ++ r14.1))), (14, v2_5), (15, (int .i64 (a2.Parts.length : Int))), (16, (int .i64 (IntKind.i64.wrap (l5i16 + (1 : Int)))))] (by decide) ⟨rfl, rfl, rfl, rfl, rfl, rfl, rfl, trivial⟩)
  ·replace h := bif_f hb8 h
   refine aw_exit ?_
   refine aq_then_exit ?_
   refine aq_then_exit ?_
   refine aq_block_exit ?_
   exact aq_join l5s8 h (fun w a hm hs => norm hm hs [0] [2, 0, 1] [(5, (ptr g1 0)), (8, (str l5s8))] (by decide) ⟨rfl, rfl, trivial⟩)
-- STUCK lumberroom/lumref.reapDir: world.go:335: call: append to data [open: a region that draws: no head: world.go:336 [open: world.go:342: call: append to data]]
def f_lumref_reapDir_own_L13 (self : (List S_api_Blob) → (List A8u8) → A8u8 → (List (List UInt8)) → (List S_api_Item) → Option ((List S_api_Item) × Int)) (a0 : (List S_api_Blob)) (a1 : (List A8u8)) (a3 : (List (List UInt8))) (r6 : ((List S_api_Node) × Int)) (kk10 : ((List S_api_Item) → Option ((List S_api_Item) × Int))) (fu : Nat) : Nat → (List S_api_Item) → Int → Option ((List S_api_Item) × Int)
  | 0, _, _ => none
  | k12 + 1, l11x4, l11i39 => (bif (decide (l11i39 < (r6.1.length : Int))) then (lt (fun (j15x4 : (List S_api_Item)) => (f_lumref_reapDir_own_L13 (self) a0 a1 a3 r6 kk10 fu k12 j15x4 (IntKind.i64.wrap (l11i39 + (1 : Int))))) fun (kk16 : (List S_api_Item) → Option ((List S_api_Item) × Int)) => (opt (at? r6.1 l11i39) fun (u17 : S_api_Node) => (bif (decide ((a3.length : Int) ≥ (8 : Int))) then (some (([] : List S_api_Item), (14 : Int))) else (bif (decide ((l11x4.length : Int) ≥ (100 : Int))) then (some (([] : List S_api_Item), (2 : Int))) else (opt (f_slices_Clone___string_string_ fu a3) fun (r28 : (List (List UInt8))) => (req (((r28.length + ([u17.Name]).length) * 16 : Nat) ≤ 140737488355328 ∧ r28.length + ([u17.Name]).length ≤ 9223372036854775807) (opt (f_strings_Join fu (r28 ++ ([u17.Name])) ([47] : List UInt8)) fun (r34 : (List UInt8)) => (req (([47] : List UInt8).length + r34.length ≤ 9223372036854775807) (lt (fun (j36s18_4 : (List UInt8)) => (req (((l11x4.length + ([(S_api_Item.mk (([47] : List UInt8) ++ r34) u17.Kind u17.Mode u17.Time j36s18_4)]).length) * 56 : Nat) ≤ 140737488355328 ∧ l11x4.length + ([(S_api_Item.mk (([47] : List UInt8) ++ r34) u17.Kind u17.Mode u17.Time j36s18_4)]).length ≤ 9223372036854775807) (bif (u17.Kind == (2 : Int)) then (opt (at? u17.Parts (0 : Int)) fun (u42 : A8u8) => (opt (self a0 a1 u42 (r28 ++ ([u17.Name])) (l11x4 ++ ([(S_api_Item.mk (([47] : List UInt8) ++ r34) u17.Kind u17.Mode u17.Time j36s18_4)]))) fun (r46 : ((List S_api_Item) × Int)) => (bif (r46.2 != (0 : Int)) then (some (([] : List S_api_Item), r46.2)) else (kk16 r46.1)))) else (kk16 (l11x4 ++ ([(S_api_Item.mk (([47] : List UInt8) ++ r34) u17.Kind u17.Mode u17.Time j36s18_4)])))))) fun (kk37 : (List UInt8) → Option ((List S_api_Item) × Int)) => (bif (u17.Kind == (1 : Int)) then (opt (f_lumref_reapFile fu a0 a1 u17) fun (r51 : ((List UInt8) × Int)) => (bif (r51.2 != (0 : Int)) then (some (([] : List S_api_Item), r51.2)) else (kk37 r51.1))) else (kk37 u17.Link))))))))))) else (kk10 l11x4))
def f_lumref_reapDir_own : Nat → (List S_api_Blob) → (List A8u8) → A8u8 → (List (List UInt8)) → (List S_api_Item) → Option ((List S_api_Item) × Int)
  | 0, _, _, _, _, _ => none
  | fu + 1, a0, a1, a2, a3, a4 => (opt (f_lumref_blobOf fu a0 a1 a2 (2 : Int)) fun (r3 : ((List UInt8) × Int)) => (bif (r3.2 != (0 : Int)) then (some (([] : List S_api_Item), r3.2)) else (opt (f_lumref_TreeRead fu r3.1) fun (r6 : ((List S_api_Node) × Int)) => (bif (r6.2 != (0 : Int)) then (some (([] : List S_api_Item), r6.2)) else (lt (fun (j9x4 : (List S_api_Item)) => (some (j9x4, (0 : Int)))) fun (kk10 : (List S_api_Item) → Option ((List S_api_Item) × Int)) => (f_lumref_reapDir_own_L13 (f_lumref_reapDir_own fu) a0 a1 a3 r6 kk10 fu fu a4 (0 : Int)))))))
set_option maxRecDepth 100000 in
set_option maxHeartbeats 2000000 in
theorem f_lumref_reapDir_own_ok (fu : Nat) (v0_0 : Value) (a0 : (List S_api_Blob)) (v1_0 : Value) (a1 : (List A8u8)) (a2 : A8u8) (v3_0 : Value) (a3 : (List (List UInt8))) (v4_0 : Value) (a4 : (List S_api_Item)) {r : ((List S_api_Item) × Int)} (h : f_lumref_reapDir_own fu a0 a1 a2 a3 a4 = some r) : FnOk Tryd.prog 59 [v0_0, v1_0, (ag (cA8u8 a2)), v3_0, v4_0] [(fDat (tyList tyS_api_Blob) [v0_0] a0), (fDat (tyList tyA8u8) [v1_0] a1), (fDat (tyList tyStr) [v3_0] a3)] [(oRow v4_0 42 tyS_api_Item a4)] (fun (i : Value) => { val := (Value.tuple #[i, (int .i64 r.2)]), own := [(oRow i 42 tyS_api_Item r.1)] }) := by
 cases fu with
 | zero => rw [f_lumref_reapDir_own] at h; cases h
 | succ fu =>
  rw [f_lumref_reapDir_own] at h
  refine fn_enter Tryd.func59 rfl Tryd.ntmps59 rfl (fun w0 Z0 => ?_)
  refine aw_sr ?_
  refine al_box (vs := (cA8u8 a2)) rfl (cv_rfl rfl) rfl (fun g1 => ?_)
  refine al_as rfl rfl ?_
  refine al_as rfl rfl ?_
  refine al_nt ?_
  refine aw_sr ?_
  refine al_mv rfl rfl ?_
  refine al_mv rfl rfl ?_
  refine al_val (ov_load (i := 0) (v := (ag (cA8u8 a2))) rfl rfl Tryd.underlying47 sz47 rfl rfl rfl rfl) ?_
  obtain ⟨r3, hc2, h⟩ := opt_some h
  refine al_call (vs := [v0_0, v1_0, (ag (cA8u8 a2)), (int .i64 (2 : Int))]) (f_lumref_blobOf_ok fu v0_0 a0 v1_0 a1 a2 (2 : Int) hc2) [] [] [0, 1] (pre_fz 0 rfl (pre_fz 1 rfl pre_nil)) rfl (by simp) (by decide) (.inl rfl) rfl Tryd.func109 rfl rfl rfl (fun _ => ?_)
  refine al_mv rfl rfl ?_
  refine al_ex rfl rfl rfl ?_
  refine al_ex rfl rfl rfl ?_
  refine al_as rfl rfl ?_
  refine al_as rfl rfl ?_
  refine al_nt ?_
  refine aw_seq ?_
  refine aw_sr ?_
  refine al_mv rfl rfl ?_
  refine al_in rfl rfl rfl rfl ?_
  refine al_nt ?_
  refine aw_cond rfl (fun hb4 => ?_) (fun hb4 => ?_)
  ·replace h := bif_t hb4 h
   refine aw_sr ?_
   refine al_mv rfl rfl ?_
   refine al_as rfl rfl ?_
   refine al_as rfl rfl ?_
   refine al_nt ?_
   refine aw_ret ?_
   refine aq_then_ret ?_
   refine aq_nilR 42 tyS_api_Item ?_
   obtain rfl := Option.some.inj h
   exact fn_ret (Value.slice none 0 0) [0] [] rfl rfl rfl rfl (res2 rfl rfl rfl) rfl rfl rfl (by decide)
  ·replace h := bif_f hb4 h
   refine aw_skip ?_
   refine aq_tr ?_
   refine al_mv rfl rfl ?_
   obtain ⟨r6, hc5, h⟩ := opt_some h
   refine al_call (vs := [(str r3.1)]) (f_lumref_TreeRead_ok fu r3.1 hc5) [] [] [0, 1] pre_nil rfl (by simp) (by decide) (.inl rfl) rfl Tryd.func110 rfl rfl rfl (fun v7 => ?_)
   refine al_mv rfl rfl ?_
   refine al_ex rfl rfl rfl ?_
   refine al_ex rfl rfl rfl ?_
   refine al_as rfl rfl ?_
   refine al_as rfl rfl ?_
   refine al_nt ?_
   refine aw_seq ?_
   refine aw_sr ?_
   refine al_mv rfl rfl ?_
   refine al_in rfl rfl rfl rfl ?_
   refine al_nt ?_
   refine aw_cond rfl (fun hb8 => ?_) (fun hb8 => ?_)
   ·replace h := bif_t hb8 h
    refine aw_sr ?_
    refine al_mv rfl rfl ?_
    refine al_as rfl rfl ?_
    refine al_as rfl rfl ?_
    refine al_nt ?_
    refine aw_ret ?_
    refine aq_then_ret ?_
    refine aq_nilR 42 tyS_api_Item ?_
    obtain rfl := Option.some.inj h
    exact fn_ret (Value.slice none 0 0) [0] [] rfl rfl rfl rfl (res2 rfl rfl rfl) rfl rfl rfl (by decide)
   ·replace h := bif_f hb8 h
    refine aw_skip ?_
    refine aq_then ?_
    obtain ⟨kk10, hkk10, h⟩ := lt_some h
    refine aw_seq_join (ι := Value × (List S_api_Item)) (fun i => (memOf w0 Z0 [(oRow v4_0 42 tyS_api_Item a4)] [(oRow i.1 42 tyS_api_Item i.2)] [(fDat (tyList tyS_api_Blob) [v0_0] a0), (fDat (tyList tyA8u8) [v1_0] a1), (fDat (tyList tyStr) [v3_0] a3)])) (fun i => (tab [(4, i.1)])) (fun i => kk10 i.2 = some r) ?_ ?_
    ·rintro ⟨j9v4, j9x4⟩ h
     have h : kk10 j9x4 = some r := h
     rw [hkk10] at h
     dsimp only at h
     clear hkk10
     refine aw_show (m := (memOf w0 Z0 [(oRow v4_0 42 tyS_api_Item a4)] [(oRow j9v4 42 tyS_api_Item j9x4)] [(fDat (tyList tyS_api_Blob) [v0_0] a0), (fDat (tyList tyA8u8) [v1_0] a1), (fDat (tyList tyStr) [v3_0] a3)])) (S := (tab [(4, j9v4)])) ?_
     refine aw_sr ?_
     refine al_mv rfl rfl ?_
     refine al_as rfl rfl ?_
     refine al_as rfl rfl ?_
     refine al_nt ?_
     refine aw_ret ?_
     obtain rfl := Option.some.inj h
     exact fn_ret j9v4 [0] [] rfl rfl rfl rfl (res2 rfl rfl rfl) rfl rfl rfl (by decide)
    ·clear hkk10
     refine aw_sr ?_
     refine al_mv rfl rfl ?_
     refine al_val (ov_lenR 0 rfl rfl Tryd.underlying164 rfl) ?_
     refine al_mv rfl rfl ?_
     refine al_nt ?_
     refine aw_block ?_
     refine aw_state (aw_loop (ι := Value × (List S_api_Item) × Int) (fun i => (memOf w0 Z0 [(oRow v4_0 42 tyS_api_Item a4)] [(oRow i.1 42 tyS_api_Item i.2.1), (oRow v7 168 tyS_api_Node r6.1)] [(fDat (tyList tyS_api_Blob) [v0_0] a0), (fDat (tyList tyA8u8) [v1_0] a1), (fDat (tyList tyStr) [v3_0] a3)])) (fun i => (tab [(0, v0_0), (1, v1_0), (3, v3_0), (4, i.1), (37, v7), (38, (int .i64 (r6.1.length : Int))), (39, (int .i64 i.2.2))])) (fun q i => f_lumref_reapDir_own_L13 (f_lumref_reapDir_own fu) a0 a1 a3 r6 kk10 fu q i.2.1 i.2.2 = some r) ?_ fu (v4_0, a4, (0 : Int)) h) (fun w a hm hs => norm hm hs [2, 0] [0, 1, 2] [(0, v0_0), (1, v1_0), (3, v3_0), (4, v4_0), (37, v7), (38, (int .i64 (r6.1.length : Int))), (39, (int .i64 (0 : Int)))] (by decide) ⟨rfl, rfl, rfl, rfl, rfl, rfl, rfl, trivial⟩)
     clear h
     rintro k12 ⟨l11v4, l11x4, l11i39⟩ h
     have h : f_lumref_reapDir_own_L13 (f_lumref_reapDir_own fu) a0 a1 a3 r6 kk10 fu k12 l11x4 l11i39 = some r := h
     obtain _ | k12 := k12
     · rw [f_lumref_reapDir_own_L13] at h; cases h
     rw [f_lumref_reapDir_own_L13] at h
     refine aw_show (m := (memOf w0 Z0 [(oRow v4_0 42 tyS_api_Item a4)] [(oRow l11v4 42 tyS_api_Item l11x4), (oRow v7 168 tyS_api_Node r6.1)] [(fDat (tyList tyS_api_Blob) [v0_0] a0), (fDat (tyList tyA8u8) [v1_0] a1), (fDat (tyList tyStr) [v3_0] a3)])) (S := (tab [(0, v0_0), (1, v1_0), (3, v3_0), (4, l11v4), (37, v7), (38, (int .i64 (r6.1.length : Int))), (39, (int .i64 l11i39))])) ?_
     refine aw_sr ?_
     refine al_in rfl rfl rfl rfl ?_
     refine al_nt ?_
     refine aw_seq ?_
     refine aw_cond rfl (fun hb14 => ?_) (fun hb14 => ?_)
     ·replace h := bif_t hb14 h
      refine aw_skip ?_
      refine aq_then ?_
      obtain ⟨kk16, hkk16, h⟩ := lt_some h
      refine aw_seq_join (ι := Value × (List S_api_Item)) (fun i => (memOf w0 Z0 [(oRow v4_0 42 tyS_api_Item a4)] [(oRow i.1 42 tyS_api_Item i.2), (oRow v7 168 tyS_api_Node r6.1)] [(fDat (tyList tyS_api_Blob) [v0_0] a0), (fDat (tyList tyA8u8) [v1_0] a1), (fDat (tyList tyStr) [v3_0] a3)])) (fun i => (tab [(0, v0_0), (1, v1_0), (3, v3_0), (4, i.1), (37, v7), (38, (int .i64 (r6.1.length : Int))), (39, (int .i64 l11i39))])) (fun i => kk16 i.2 = some r) ?_ ?_
      ·rintro ⟨j15v4, j15x4⟩ h
       have h : kk16 j15x4 = some r := h
       rw [hkk16] at h
       dsimp only at h
       clear hkk16
       refine aw_show (m := (memOf w0 Z0 [(oRow v4_0 42 tyS_api_Item a4)] [(oRow j15v4 42 tyS_api_Item j15x4), (oRow v7 168 tyS_api_Node r6.1)] [(fDat (tyList tyS_api_Blob) [v0_0] a0), (fDat (tyList tyA8u8) [v1_0] a1), (fDat (tyList tyStr) [v3_0] a3)])) (S := (tab [(0, v0_0), (1, v1_0), (3, v3_0), (4, j15v4), (37, v7), (38, (int .i64 (r6.1.length : Int))), (39, (int .i64 l11i39))])) ?_
       refine aw_region ?_
       refine al_in rfl rfl rfl rfl ?_
       refine al_mv rfl rfl ?_
       refine al_nil ?_
       exact aq_again k12 (j15v4, j15x4, (IntKind.i64.wrap (l11i39 + (1 : Int)))) (Nat.lt_succ_self _) h (fun w a hm hs => norm hm hs [0, 1] [0, 1, 2] [(0, v0_0), (1, v1_0), (3, v3_0), (4, j15v4), (37, v7), (38, (int .i64 (r6.1.length : Int))), (39, (int .i64 (IntKind.i64.wrap (l11i39 + (1 : Int)))))] (by decide) ⟨rfl, rfl, rfl, rfl, rfl, rfl, rfl, trivial⟩)
      ·clear hkk16
       refine aw_block ?_
       refine aw_sr ?_
       obtain ⟨u17, hu18, h⟩ := opt_some h
       refine al_idxR 1 (at_some hu18).1 (at_some hu18).2.1 rfl rfl rfl Tryd.underlying164 sz168 rfl (fun p19 hp20 => ?_)
       refine al_loadRA 1 rfl hp20 (at_some hu18).2.2 rfl Tryd.underlying168 sz168 rfl rfl (fun cs22 => ?_)
       refine al_use (ι := Value) 0 rfl (fun j => cs22 = [(str u17.Name), (int .i64 u17.Kind), (int .i64 u17.Mode), (int .i64 u17.Time), (int .i64 u17.Size), j, (str u17.Link)]) (fun j => [(fDat (tyList tyA8u8) [j] u17.Parts)]) encnS_api_Node (fun s21 hq => ?_)
       subst hq
       refine al_alloc (zs := [(str ([] : List UInt8)), (int .i64 (0 : Int)), (int .i64 (0 : Int)), (int .i64 (0 : Int)), (int .i64 (0 : Int)), (Value.slice none 0 0), (str ([] : List UInt8))]) (zeroOf_to to168) rfl rfl (fun g23 => ?_)
       refine al_store (i := 0) (vs := [(str u17.Name), (int .i64 u17.Kind), (int .i64 u17.Mode), (int .i64 u17.Time), (int .i64 u17.Size), s21, (str u17.Link)]) (cs' := [(str u17.Name), (int .i64 u17.Kind), (int .i64 u17.Mode), (int .i64 u17.Time), (int .i64 u17.Size), s21, (str u17.Link)]) rfl rfl rfl sz168 (cv_rfl rfl) rfl (co_val rfl (co_val rfl (co_val rfl (co_val rfl (co_val rfl (co_fz 0 rfl (co_val rfl co_nil))))))) (Nat.le_of_ble_eq_true rfl) rfl rfl ?_
       refine al_nt ?_
       refine aw_seq ?_
       refine aw_sr ?_
       refine al_mv rfl rfl ?_
       refine al_val (ov_lenD 4 rfl rfl Tryd.underlying22 rfl) ?_
       refine al_in rfl rfl rfl rfl ?_
       refine al_nt ?_
       refine aw_cond rfl (fun hb24 => ?_) (fun hb24 => ?_)
       ·replace h := bif_t hb24 h
        refine aw_sr ?_
        refine al_as rfl rfl ?_
        refine al_as rfl rfl ?_
        refine al_nt ?_
        refine aw_ret ?_
        refine aq_then_ret ?_
        refine aq_block_ret ?_
        refine aq_then_ret ?_
        refine aq_then_ret ?_
        refine aq_block_ret ?_
        refine aq_then_ret ?_
        refine aq_nilR 42 tyS_api_Item ?_
        obtain rfl := Option.some.inj h
        exact fn_ret (Value.slice none 0 0) [0] [] rfl rfl rfl rfl (res2 rfl rfl rfl) rfl rfl rfl (by decide)
       ·replace h := bif_f hb24 h
        refine aw_skip ?_
        refine aq_then ?_
        refine aw_seq ?_
        refine aw_sr ?_
        refine al_mv rfl rfl ?_
        refine al_val (ov_lenR 1 rfl rfl Tryd.underlying36 rfl) ?_
        refine al_in rfl rfl rfl rfl ?_
        refine al_nt ?_
        refine aw_cond rfl (fun hb25 => ?_) (fun hb25 => ?_)
        ·replace h := bif_t hb25 h
         refine aw_sr ?_
         refine al_as rfl rfl ?_
         refine al_as rfl rfl ?_
         refine al_nt ?_
         refine aw_ret ?_
         refine aq_then_ret ?_
         refine aq_block_ret ?_
         refine aq_then_ret ?_
         refine aq_then_ret ?_
         refine aq_block_ret ?_
         refine aq_then_ret ?_
         refine aq_nilR 42 tyS_api_Item ?_
         obtain rfl := Option.some.inj h
         exact fn_ret (Value.slice none 0 0) [0] [] rfl rfl rfl rfl (res2 rfl rfl rfl) rfl rfl rfl (by decide)
        ·replace h := bif_f hb25 h
         refine aw_skip ?_
         refine aq_then ?_
         refine aw_seq ?_
         refine aw_region_open [⟨0, 49, Unit, fun _ => { val := v3_0 }⟩, ⟨2, 51, Unit, fun _ => { val := (ptr g23 0) }⟩, ⟨3, 52, Unit, fun _ => { val := (str u17.Name) }⟩, ⟨4, 53, Value, fun (i : Value) => { val := i, own := [(oRow i 9 tyStr [u17.Name])] }⟩] (tab [(0, v0_0), (1, v1_0), (3, v3_0), (4, l11v4), (16, (ptr g23 0)), (37, v7), (38, (int .i64 (r6.1.length : Int))), (39, (int .i64 l11i39))]) mixed (fun a hs => hs.tab _ (allT_mem ⟨rfl, rfl, rfl, rfl, rfl, rfl, rfl, rfl, trivial⟩)) ?_
         refine ta_show (m := (memOf w0 Z0 [(oRow v4_0 42 tyS_api_Item a4)] [(oBox g23 168 [(str u17.Name), (int .i64 u17.Kind), (int .i64 u17.Mode), (int .i64 u17.Time), (int .i64 u17.Size), s21, (str u17.Link)]), (oRow l11v4 42 tyS_api_Item l11x4), (oRow v7 168 tyS_api_Node r6.1)] [(fDat (tyList tyA8u8) [s21] u17.Parts), (fDat tyS_api_Node [(str u17.Name), (int .i64 u17.Kind), (int .i64 u17.Mode), (int .i64 u17.Time), (int .i64 u17.Size), s21, (str u17.Link)] u17), (fDat (tyList tyS_api_Blob) [v0_0] a0), (fDat (tyList tyA8u8) [v1_0] a1), (fDat (tyList tyStr) [v3_0] a3)])) (S := (tab [(0, v0_0), (1, v1_0), (3, v3_0), (4, l11v4), (16, (ptr g23 0)), (37, v7), (38, (int .i64 (r6.1.length : Int))), (39, (int .i64 l11i39))])) ?_
         refine ta_step 1 _ [0, 2, 3, 4] [49, 51, 52, 53] [0] [] [⟨0, 49, Unit, fun _ => { val := v3_0 }⟩] [⟨2, 51, Unit, fun _ => { val := (ptr g23 0) }⟩, ⟨3, 52, Unit, fun _ => { val := (str u17.Name) }⟩, ⟨4, 53, Value, fun (i : Value) => { val := i, own := [(oRow i 9 tyStr [u17.Name])] }⟩] rfl rfl rfl (by kernel_rfl) rfl rfl rfl ⟨⟨_, rfl, [], rfl, by
 intro X_ Y_ F_ K_ hK_
 refine al_show (m := Mem.plus (memOf w0 Z0 [(oRow v4_0 42 tyS_api_Item a4)] [(oBox g23 168 [(str u17.Name), (int .i64 u17.Kind), (int .i64 u17.Mode), (int .i64 u17.Time), (int .i64 u17.Size), s21, (str u17.Link)]), (oRow l11v4 42 tyS_api_Item l11x4), (oRow v7 168 tyS_api_Node r6.1)] [(fDat (tyList tyA8u8) [s21] u17.Parts), (fDat tyS_api_Node [(str u17.Name), (int .i64 u17.Kind), (int .i64 u17.Mode), (int .i64 u17.Time), (int .i64 u17.Size), s21, (str u17.Link)] u17), (fDat (tyList tyS_api_Blob) [v0_0] a0), (fDat (tyList tyA8u8) [v1_0] a1), (fDat (tyList tyStr) [v3_0] a3)]) X_ Y_) (S := over (tab [(0, v0_0), (1, v1_0), (3, v3_0), (4, l11v4), (16, (ptr g23 0)), (37, v7), (38, (int .i64 (r6.1.length : Int))), (39, (int .i64 l11i39))]) F_) ?_
 refine al_mv rfl rfl ?_
 refine al_nil ?_
 exact fr_fin hK_ ()⟩, ⟨_, rfl, [], rfl, by
 intro X_ Y_ F_ K_ hK_
 refine al_show (m := Mem.plus (memOf w0 Z0 [(oRow v4_0 42 tyS_api_Item a4)] [(oBox g23 168 [(str u17.Name), (int .i64 u17.Kind), (int .i64 u17.Mode), (int .i64 u17.Time), (int .i64 u17.Size), s21, (str u17.Link)]), (oRow l11v4 42 tyS_api_Item l11x4), (oRow v7 168 tyS_api_Node r6.1)] [(fDat (tyList tyA8u8) [s21] u17.Parts), (fDat tyS_api_Node [(str u17.Name), (int .i64 u17.Kind), (int .i64 u17.Mode), (int .i64 u17.Time), (int .i64 u17.Size), s21, (str u17.Link)] u17), (fDat (tyList tyS_api_Blob) [v0_0] a0), (fDat (tyList tyA8u8) [v1_0] a1), (fDat (tyList tyStr) [v3_0] a3)]) X_ Y_) (S := over (tab [(0, v0_0), (1, v1_0), (3, v3_0), (4, l11v4), (16, (ptr g23 0)), (37, v7), (38, (int .i64 (r6.1.length : Int))), (39, (int .i64 l11i39))]) F_) ?_
 refine al_val (ov_fieldA (p := 0) rfl Tryd.underlying168 rfl sz9 rfl rfl rfl) ?_
 refine al_nil ?_
 exact fr_fin hK_ ()⟩, ⟨_, rfl, [1], rfl, by
 intro _
 intro X_ Y_ F_ K_ hK_
 refine al_show (m := Mem.plus (memOf w0 Z0 [(oRow v4_0 42 tyS_api_Item a4)] [(oBox g23 168 [(str u17.Name), (int .i64 u17.Kind), (int .i64 u17.Mode), (int .i64 u17.Time), (int .i64 u17.Size), s21, (str u17.Link)]), (oRow l11v4 42 tyS_api_Item l11x4), (oRow v7 168 tyS_api_Node r6.1)] [(fDat (tyList tyA8u8) [s21] u17.Parts), (fDat tyS_api_Node [(str u17.Name), (int .i64 u17.Kind), (int .i64 u17.Mode), (int .i64 u17.Time), (int .i64 u17.Size), s21, (str u17.Link)] u17), (fDat (tyList tyS_api_Blob) [v0_0] a0), (fDat (tyList tyA8u8) [v1_0] a1), (fDat (tyList tyStr) [v3_0] a3)]) X_ Y_) (S := over (put (tab [(0, v0_0), (1, v1_0), (3, v3_0), (4, l11v4), (16, (ptr g23 0)), (37, v7), (38, (int .i64 (r6.1.length : Int))), (39, (int .i64 l11i39))]) 51 (ptr g23 0)) F_) ?_
 refine al_val (ov_load (i := 0) (v := (str u17.Name)) rfl rfl Tryd.underlying9 sz9 rfl rfl rfl rfl) ?_
 refine al_nil ?_
 exact fr_fin hK_ ()⟩, ⟨_, rfl, [2], rfl, by
 intro _
 intro X_ Y_ F_ K_ hK_
 refine al_show (m := Mem.plus (memOf w0 Z0 [(oRow v4_0 42 tyS_api_Item a4)] [(oBox g23 168 [(str u17.Name), (int .i64 u17.Kind), (int .i64 u17.Mode), (int .i64 u17.Time), (int .i64 u17.Size), s21, (str u17.Link)]), (oRow l11v4 42 tyS_api_Item l11x4), (oRow v7 168 tyS_api_Node r6.1)] [(fDat (tyList tyA8u8) [s21] u17.Parts), (fDat tyS_api_Node [(str u17.Name), (int .i64 u17.Kind), (int .i64 u17.Mode), (int .i64 u17.Time), (int .i64 u17.Size), s21, (str u17.Link)] u17), (fDat (tyList tyS_api_Blob) [v0_0] a0), (fDat (tyList tyA8u8) [v1_0] a1), (fDat (tyList tyStr) [v3_0] a3)]) X_ Y_) (S := over (put (tab [(0, v0_0), (1, v1_0), (3, v3_0), (4, l11v4), (16, (ptr g23 0)), (37, v7), (38, (int .i64 (r6.1.length : Int))), (39, (int .i64 l11i39))]) 52 (str u17.Name)) F_) ?_
 refine al_buildSlice (τ := tyStr) (e := 9) (k := 1) (sz := 0) (by_ := 0) (z := undef) (cs := [(str u17.Name)]) (xs := [u17.Name]) rfl (by decide) (fun w a hm hs => ⟨([(str u17.Name)]).toArray, rfl, by simp only [List.map_toArray, List.map_cons, List.map_nil, hs.ev (x := .tmp 52) rfl]; exact run_bs [(str u17.Name)] [(str u17.Name)] Tryd.underlying22 to9 rfl rfl (bs_cons (l := [(str u17.Name)]) (cs := []) (cv_rfl rfl) rfl bs_nil) hm⟩) (fun hm => ⟨_, _, rfl, (fun _ => rfl) hm, rfl⟩) rfl (fun v26 => ?_)
 refine al_nil ?_
 exact fr_fin hK_ v26⟩, trivial⟩ ?_
         intro _
         intro X_ Y_ F_ K_ hK_
         refine al_show (m := Mem.plus (memOf w0 Z0 [(oRow v4_0 42 tyS_api_Item a4)] [(oBox g23 168 [(str u17.Name), (int .i64 u17.Kind), (int .i64 u17.Mode), (int .i64 u17.Time), (int .i64 u17.Size), s21, (str u17.Link)]), (oRow l11v4 42 tyS_api_Item l11x4), (oRow v7 168 tyS_api_Node r6.1)] [(fDat (tyList tyA8u8) [s21] u17.Parts), (fDat tyS_api_Node [(str u17.Name), (int .i64 u17.Kind), (int .i64 u17.Mode), (int .i64 u17.Time), (int .i64 u17.Size), s21, (str u17.Link)] u17), (fDat (tyList tyS_api_Blob) [v0_0] a0), (fDat (tyList tyA8u8) [v1_0] a1), (fDat (tyList tyStr) [v3_0] a3)]) X_ Y_) (S := over (put (tab [(0, v0_0), (1, v1_0), (3, v3_0), (4, l11v4), (16, (ptr g23 0)), (37, v7), (38, (int .i64 (r6.1.length : Int))), (39, (int .i64 l11i39))]) 49 v3_0) F_) ?_
         obtain ⟨r28, hc27, h⟩ := opt_some h
         refine al_callX (vs := [v3_0]) (f_slices_Clone___string_string__ok fu v3_0 a3 hc27) [] [] [0, 1, 2] (pre_fz 4 rfl pre_nil) rfl (by simp) (by decide) rfl (.inl rfl) rfl Tryd.func111 rfl rfl rfl (fun v29 => ?_)
         refine al_nil ?_
         refine aq_show (m := Mem.plus (memOf w0 Z0 [(oRow v4_0 42 tyS_api_Item a4)] [(oRow v29 9 tyStr r28), (oBox g23 168 [(str u17.Name), (int .i64 u17.Kind), (int .i64 u17.Mode), (int .i64 u17.Time), (int .i64 u17.Size), s21, (str u17.Link)]), (oRow l11v4 42 tyS_api_Item l11x4), (oRow v7 168 tyS_api_Node r6.1)] [(fDat (tyList tyA8u8) [s21] u17.Parts), (fDat tyS_api_Node [(str u17.Name), (int .i64 u17.Kind), (int .i64 u17.Mode), (int .i64 u17.Time), (int .i64 u17.Size), s21, (str u17.Link)] u17), (fDat (tyList tyS_api_Blob) [v0_0] a0), (fDat (tyList tyA8u8) [v1_0] a1), (fDat (tyList tyStr) [v3_0] a3)]) X_ Y_) ?_
         refine aq_next hK_ [0, 1, 2, 3] [0, 1, 2, 3, 4] [(0, v0_0), (1, v1_0), (3, v3_0), (4, l11v4), (16, (ptr g23 0)), (37, v7), (38, (int .i64 (r6.1.length : Int))), (39, (int .i64 l11i39)), (50, v29)] [51, 52, 53] [] rfl rfl (by decide) rfl ⟨rfl, rfl, rfl, rfl, rfl, rfl, rfl, rfl, rfl, trivial⟩ ⟨rfl, rfl, rfl, trivial⟩ ?_
         clear hK_ K_ F_ X_ Y_
         refine ta_show (m := (memOf w0 Z0 [(oRow v4_0 42 tyS_api_Item a4)] [(oRow v29 9 tyStr r28), (oBox g23 168 [(str u17.Name), (int .i64 u17.Kind), (int .i64 u17.Mode), (int .i64 u17.Time), (int .i64 u17.Size), s21, (str u17.Link)]), (oRow l11v4 42 tyS_api_Item l11x4), (oRow v7 168 tyS_api_Node r6.1)] [(fDat (tyList tyA8u8) [s21] u17.Parts), (fDat tyS_api_Node [(str u17.Name), (int .i64 u17.Kind), (int .i64 u17.Mode), (int .i64 u17.Time), (int .i64 u17.Size), s21, (str u17.Link)] u17), (fDat (tyList tyS_api_Blob) [v0_0] a0), (fDat (tyList tyA8u8) [v1_0] a1), (fDat (tyList tyStr) [v3_0] a3)])) (S := (tab [(0, v0_0), (1, v1_0), (3, v3_0), (4, l11v4), (16, (ptr g23 0)), (37, v7), (38, (int .i64 (r6.1.length : Int))), (39, (int .i64 l11i39)), (50, v29)])) ?_
         refine ta_step 5 _ [2, 3, 4] [51, 52, 53] [2, 3, 4] [] [⟨2, 51, Unit, fun _ => { val := (ptr g23 0) }⟩, ⟨3, 52, Unit, fun _ => { val := (str u17.Name) }⟩, ⟨4, 53, Value, fun (i : Value) => { val := i, own := [(oRow i 9 tyStr [u17.Name])] }⟩] [] rfl rfl rfl (by kernel_rfl) rfl rfl rfl ⟨⟨_, rfl, [], rfl, by
 intro X_ Y_ F_ K_ hK_
 refine al_show (m := Mem.plus (memOf w0 Z0 [(oRow v4_0 42 tyS_api_Item a4)] [(oRow v29 9 tyStr r28), (oBox g23 168 [(str u17.Name), (int .i64 u17.Kind), (int .i64 u17.Mode), (int .i64 u17.Time), (int .i64 u17.Size), s21, (str u17.Link)]), (oRow l11v4 42 tyS_api_Item l11x4), (oRow v7 168 tyS_api_Node r6.1)] [(fDat (tyList tyA8u8) [s21] u17.Parts), (fDat tyS_api_Node [(str u17.Name), (int .i64 u17.Kind), (int .i64 u17.Mode), (int .i64 u17.Time), (int .i64 u17.Size), s21, (str u17.Link)] u17), (fDat (tyList tyS_api_Blob) [v0_0] a0), (fDat (tyList tyA8u8) [v1_0] a1), (fDat (tyList tyStr) [v3_0] a3)]) X_ Y_) (S := over (tab [(0, v0_0), (1, v1_0), (3, v3_0), (4, l11v4), (16, (ptr g23 0)), (37, v7), (38, (int .i64 (r6.1.length : Int))), (39, (int .i64 l11i39)), (50, v29)]) F_) ?_
 refine al_val (ov_fieldA (p := 0) rfl Tryd.underlying168 rfl sz9 rfl rfl rfl) ?_
 refine al_nil ?_
 exact fr_fin hK_ ()⟩, ⟨_, rfl, [0], rfl, by
 intro _
 intro X_ Y_ F_ K_ hK_
 refine al_show (m := Mem.plus (memOf w0 Z0 [(oRow v4_0 42 tyS_api_Item a4)] [(oRow v29 9 tyStr r28), (oBox g23 168 [(str u17.Name), (int .i64 u17.Kind), (int .i64 u17.Mode), (int .i64 u17.Time), (int .i64 u17.Size), s21, (str u17.Link)]), (oRow l11v4 42 tyS_api_Item l11x4), (oRow v7 168 tyS_api_Node r6.1)] [(fDat (tyList tyA8u8) [s21] u17.Parts), (fDat tyS_api_Node [(str u17.Name), (int .i64 u17.Kind), (int .i64 u17.Mode), (int .i64 u17.Time), (int .i64 u17.Size), s21, (str u17.Link)] u17), (fDat (tyList tyS_api_Blob) [v0_0] a0), (fDat (tyList tyA8u8) [v1_0] a1), (fDat (tyList tyStr) [v3_0] a3)]) X_ Y_) (S := over (put (tab [(0, v0_0), (1, v1_0), (3, v3_0), (4, l11v4), (16, (ptr g23 0)), (37, v7), (38, (int .i64 (r6.1.length : Int))), (39, (int .i64 l11i39)), (50, v29)]) 51 (ptr g23 0)) F_) ?_
 refine al_val (ov_load (i := 1) (v := (str u17.Name)) rfl rfl Tryd.underlying9 sz9 rfl rfl rfl rfl) ?_
 refine al_nil ?_
 exact fr_fin hK_ ()⟩, ⟨_, rfl, [1], rfl, by
 intro _
 intro X_ Y_ F_ K_ hK_
 refine al_show (m := Mem.plus (memOf w0 Z0 [(oRow v4_0 42 tyS_api_Item a4)] [(oRow v29 9 tyStr r28), (oBox g23 168 [(str u17.Name), (int .i64 u17.Kind), (int .i64 u17.Mode), (int .i64 u17.Time), (int .i64 u17.Size), s21, (str u17.Link)]), (oRow l11v4 42 tyS_api_Item l11x4), (oRow v7 168 tyS_api_Node r6.1)] [(fDat (tyList tyA8u8) [s21] u17.Parts), (fDat tyS_api_Node [(str u17.Name), (int .i64 u17.Kind), (int .i64 u17.Mode), (int .i64 u17.Time), (int .i64 u17.Size), s21, (str u17.Link)] u17), (fDat (tyList tyS_api_Blob) [v0_0] a0), (fDat (tyList tyA8u8) [v1_0] a1), (fDat (tyList tyStr) [v3_0] a3)]) X_ Y_) (S := over (put (tab [(0, v0_0), (1, v1_0), (3, v3_0), (4, l11v4), (16, (ptr g23 0)), (37, v7), (38, (int .i64 (r6.1.length : Int))), (39, (int .i64 l11i39)), (50, v29)]) 52 (str u17.Name)) F_) ?_
 refine al_buildSlice (τ := tyStr) (e := 9) (k := 1) (sz := 0) (by_ := 0) (z := undef) (cs := [(str u17.Name)]) (xs := [u17.Name]) rfl (by decide) (fun w a hm hs => ⟨([(str u17.Name)]).toArray, rfl, by simp only [List.map_toArray, List.map_cons, List.map_nil, hs.ev (x := .tmp 52) rfl]; exact run_bs [(str u17.Name)] [(str u17.Name)] Tryd.underlying22 to9 rfl rfl (bs_cons (l := [(str u17.Name)]) (cs := []) (cv_rfl rfl) rfl bs_nil) hm⟩) (fun hm => ⟨_, _, rfl, (fun _ => rfl) hm, rfl⟩) rfl (fun v26 => ?_)
 refine al_nil ?_
 exact fr_fin hK_ v26⟩, trivial⟩ ?_
         intro _
         intro _
         intro v26
         intro X_ Y_ F_ K_ hK_
         refine al_show (m := Mem.plus (memOf w0 Z0 [(oRow v4_0 42 tyS_api_Item a4)] [(oRow v26 9 tyStr [u17.Name]), (oRow v29 9 tyStr r28), (oBox g23 168 [(str u17.Name), (int .i64 u17.Kind), (int .i64 u17.Mode), (int .i64 u17.Time), (int .i64 u17.Size), s21, (str u17.Link)]), (oRow l11v4 42 tyS_api_Item l11x4), (oRow v7 168 tyS_api_Node r6.1)] [(fDat (tyList tyA8u8) [s21] u17.Parts), (fDat tyS_api_Node [(str u17.Name), (int .i64 u17.Kind), (int .i64 u17.Mode), (int .i64 u17.Time), (int .i64 u17.Size), s21, (str u17.Link)] u17), (fDat (tyList tyS_api_Blob) [v0_0] a0), (fDat (tyList tyA8u8) [v1_0] a1), (fDat (tyList tyStr) [v3_0] a3)]) X_ Y_) (S := over (put (put (put (tab [(0, v0_0), (1, v1_0), (3, v3_0), (4, l11v4), (16, (ptr g23 0)), (37, v7), (38, (int .i64 (r6.1.length : Int))), (39, (int .i64 l11i39)), (50, v29)]) 51 (ptr g23 0)) 52 (str u17.Name)) 53 v26) F_) ?_
         obtain ⟨hc30, h⟩ := req_some h
         refine al_append 1 hc30.1 hc30.2 rfl (src_own (i := 1) 0 rfl) rfl rfl Tryd.underlying22 to9 rfl rfl rfl (fun v31 => ?_)
         refine al_nil ?_
         refine aq_show (m := Mem.plus (memOf w0 Z0 [(oRow v4_0 42 tyS_api_Item a4)] [(oRow v26 9 tyStr [u17.Name]), (oRow v31 9 tyStr (r28 ++ ([u17.Name]))), (oBox g23 168 [(str u17.Name), (int .i64 u17.Kind), (int .i64 u17.Mode), (int .i64 u17.Time), (int .i64 u17.Size), s21, (str u17.Link)]), (oRow l11v4 42 tyS_api_Item l11x4), (oRow v7 168 tyS_api_Node r6.1)] [(fDat (tyList tyA8u8) [s21] u17.Parts), (fDat tyS_api_Node [(str u17.Name), (int .i64 u17.Kind), (int .i64 u17.Mode), (int .i64 u17.Time), (int .i64 u17.Size), s21, (str u17.Link)] u17), (fDat (tyList tyS_api_Blob) [v0_0] a0), (fDat (tyList tyA8u8) [v1_0] a1), (fDat (tyList tyStr) [v3_0] a3)]) X_ Y_) ?_
         refine aq_next hK_ [0, 1, 2, 3, 4] [0, 1, 2, 3, 4] [(0, v0_0), (1, v1_0), (3, v3_0), (4, l11v4), (16, (ptr g23 0)), (37, v7), (38, (int .i64 (r6.1.length : Int))), (39, (int .i64 l11i39)), (54, v31)] [] [] rfl rfl (by decide) rfl ⟨rfl, rfl, rfl, rfl, rfl, rfl, rfl, rfl, rfl, trivial⟩ trivial ?_
         clear hK_ K_ F_ X_ Y_
         refine ta_show (m := (memOf w0 Z0 [(oRow v4_0 42 tyS_api_Item a4)] [(oRow v26 9 tyStr [u17.Name]), (oRow v31 9 tyStr (r28 ++ ([u17.Name]))), (oBox g23 168 [(str u17.Name), (int .i64 u17.Kind), (int .i64 u17.Mode), (int .i64 u17.Time), (int .i64 u17.Size), s21, (str u17.Link)]), (oRow l11v4 42 tyS_api_Item l11x4), (oRow v7 168 tyS_api_Node r6.1)] [(fDat (tyList tyA8u8) [s21] u17.Parts), (fDat tyS_api_Node [(str u17.Name), (int .i64 u17.Kind), (int .i64 u17.Mode), (int .i64 u17.Time), (int .i64 u17.Size), s21, (str u17.Link)] u17), (fDat (tyList tyS_api_Blob) [v0_0] a0), (fDat (tyList tyA8u8) [v1_0] a1), (fDat (tyList tyStr) [v3_0] a3)])) (S := (tab [(0, v0_0), (1, v1_0), (3, v3_0), (4, l11v4), (16, (ptr g23 0)), (37, v7), (38, (int .i64 (r6.1.length : Int))), (39, (int .i64 l11i39)), (54, v31)])) ?_
         refine ta_step 6 _ [] [] [] [] [] [] rfl rfl rfl (by kernel_rfl) rfl rfl rfl trivial ?_
         intro X_ Y_ F_ K_ hK_
         refine al_show (m := Mem.plus (memOf w0 Z0 [(oRow v4_0 42 tyS_api_Item a4)] [(oRow v26 9 tyStr [u17.Name]), (oRow v31 9 tyStr (r28 ++ ([u17.Name]))), (oBox g23 168 [(str u17.Name), (int .i64 u17.Kind), (int .i64 u17.Mode), (int .i64 u17.Time), (int .i64 u17.Size), s21, (str u17.Link)]), (oRow l11v4 42 tyS_api_Item l11x4), (oRow v7 168 tyS_api_Node r6.1)] [(fDat (tyList tyA8u8) [s21] u17.Parts), (fDat tyS_api_Node [(str u17.Name), (int .i64 u17.Kind), (int .i64 u17.Mode), (int .i64 u17.Time), (int .i64 u17.Size), s21, (str u17.Link)] u17), (fDat (tyList tyS_api_Blob) [v0_0] a0), (fDat (tyList tyA8u8) [v1_0] a1), (fDat (tyList tyStr) [v3_0] a3)]) X_ Y_) (S := over (tab [(0, v0_0), (1, v1_0), (3, v3_0), (4, l11v4), (16, (ptr g23 0)), (37, v7), (38, (int .i64 (r6.1.length : Int))), (39, (int .i64 l11i39)), (54, v31)]) F_) ?_
         refine al_as rfl rfl ?_
         refine al_nil ?_
         refine aq_show (m := Mem.plus (memOf w0 Z0 [(oRow v4_0 42 tyS_api_Item a4)] [(oRow v26 9 tyStr [u17.Name]), (oRow v31 9 tyStr (r28 ++ ([u17.Name]))), (oBox g23 168 [(str u17.Name), (int .i64 u17.Kind), (int .i64 u17.Mode), (int .i64 u17.Time), (int .i64 u17.Size), s21, (str u17.Link)]), (oRow l11v4 42 tyS_api_Item l11x4), (oRow v7 168 tyS_api_Node r6.1)] [(fDat (tyList tyA8u8) [s21] u17.Parts), (fDat tyS_api_Node [(str u17.Name), (int .i64 u17.Kind), (int .i64 u17.Mode), (int .i64 u17.Time), (int .i64 u17.Size), s21, (str u17.Link)] u17), (fDat (tyList tyS_api_Blob) [v0_0] a0), (fDat (tyList tyA8u8) [v1_0] a1), (fDat (tyList tyStr) [v3_0] a3)]) X_ Y_) ?_
         refine aq_next hK_ [0, 1, 2, 3, 4] [0, 1, 2, 3, 4] [(0, v0_0), (1, v1_0), (3, v3_0), (4, l11v4), (16, (ptr g23 0)), (17, v31), (37, v7), (38, (int .i64 (r6.1.length : Int))), (39, (int .i64 l11i39))] [] [] rfl rfl (by decide) rfl ⟨rfl, rfl, rfl, rfl, rfl, rfl, rfl, rfl, rfl, trivial⟩ trivial ?_
         clear hK_ K_ F_ X_ Y_
         refine ta_show (m := (memOf w0 Z0 [(oRow v4_0 42 tyS_api_Item a4)] [(oRow v26 9 tyStr [u17.Name]), (oRow v31 9 tyStr (r28 ++ ([u17.Name]))), (oBox g23 168 [(str u17.Name), (int .i64 u17.Kind), (int .i64 u17.Mode), (int .i64 u17.Time), (int .i64 u17.Size), s21, (str u17.Link)]), (oRow l11v4 42 tyS_api_Item l11x4), (oRow v7 168 tyS_api_Node r6.1)] [(fDat (tyList tyA8u8) [s21] u17.Parts), (fDat tyS_api_Node [(str u17.Name), (int .i64 u17.Kind), (int .i64 u17.Mode), (int .i64 u17.Time), (int .i64 u17.Size), s21, (str u17.Link)] u17), (fDat (tyList tyS_api_Blob) [v0_0] a0), (fDat (tyList tyA8u8) [v1_0] a1), (fDat (tyList tyStr) [v3_0] a3)])) (S := (tab [(0, v0_0), (1, v1_0), (3, v3_0), (4, l11v4), (16, (ptr g23 0)), (17, v31), (37, v7), (38, (int .i64 (r6.1.length : Int))), (39, (int .i64 l11i39))])) ?_
         refine ta_end [] [] rfl rfl (by kernel_rfl) rfl trivial ?_
         refine aq_show (m := (memOf w0 Z0 [(oRow v4_0 42 tyS_api_Item a4)] [(oRow v26 9 tyStr [u17.Name]), (oRow v31 9 tyStr (r28 ++ ([u17.Name]))), (oBox g23 168 [(str u17.Name), (int .i64 u17.Kind), (int .i64 u17.Mode), (int .i64 u17.Time), (int .i64 u17.Size), s21, (str u17.Link)]), (oRow l11v4 42 tyS_api_Item l11x4), (oRow v7 168 tyS_api_Node r6.1)] [(fDat (tyList tyA8u8) [s21] u17.Parts), (fDat tyS_api_Node [(str u17.Name), (int .i64 u17.Kind), (int .i64 u17.Mode), (int .i64 u17.Time), (int .i64 u17.Size), s21, (str u17.Link)] u17), (fDat (tyList tyS_api_Blob) [v0_0] a0), (fDat (tyList tyA8u8) [v1_0] a1), (fDat (tyList tyStr) [v3_0] a3)])) (S := (tab [(0, v0_0), (1, v1_0), (3, v3_0), (4, l11v4), (16, (ptr g23 0)), (17, v31), (37, v7), (38, (int .i64 (r6.1.length : Int))), (39, (int .i64 l11i39))])) ?_
         refine aq_then ?_
         refine aw_seq ?_
         refine aw_region_open [⟨0, 55, Unit, fun _ => { val := v31 }⟩, ⟨3, 58, Unit, fun _ => { val := (ptr g23 1) }⟩, ⟨4, 59, Unit, fun _ => { val := (int .i64 u17.Kind) }⟩, ⟨5, 60, Unit, fun _ => { val := (ptr g23 2) }⟩, ⟨6, 61, Unit, fun _ => { val := (int .i64 u17.Mode) }⟩, ⟨7, 62, Unit, fun _ => { val := (ptr g23 3) }⟩, ⟨8, 63, Unit, fun _ => { val := (int .i64 u17.Time) }⟩, ⟨9, 64, Unit, fun _ => { val := (ptr g23 6) }⟩, ⟨10, 65, Unit, fun _ => { val := (str u17.Link) }⟩, ⟨12, 18, Nat, fun (i : Nat) => { val := (ptr i 0), own := [(oBox i 42 [(str ([] : List UInt8)), (int .i64 (0 : Int)), (int .i64 (0 : Int)), (int .i64 (0 : Int)), (str ([] : List UInt8))])] }⟩] (tab [(0, v0_0), (1, v1_0), (3, v3_0), (4, l11v4), (16, (ptr g23 0)), (17, v31), (37, v7), (38, (int .i64 (r6.1.length : Int))), (39, (int .i64 l11i39))]) mixed (fun a hs => hs.tab _ (allT_mem ⟨rfl, rfl, rfl, rfl, rfl, rfl, rfl, rfl, rfl, trivial⟩)) ?_
         refine ta_show (m := (memOf w0 Z0 [(oRow v4_0 42 tyS_api_Item a4)] [(oRow v26 9 tyStr [u17.Name]), (oRow v31 9 tyStr (r28 ++ ([u17.Name]))), (oBox g23 168 [(str u17.Name), (int .i64 u17.Kind), (int .i64 u17.Mode), (int .i64 u17.Time), (int .i64 u17.Size), s21, (str u17.Link)]), (oRow l11v4 42 tyS_api_Item l11x4), (oRow v7 168 tyS_api_Node r6.1)] [(fDat (tyList tyA8u8) [s21] u17.Parts), (fDat tyS_api_Node [(str u17.Name), (int .i64 u17.Kind), (int .i64 u17.Mode), (int .i64 u17.Time), (int .i64 u17.Size), s21, (str u17.Link)] u17), (fDat (tyList tyS_api_Blob) [v0_0] a0), (fDat (tyList tyA8u8) [v1_0] a1), (fDat (tyList tyStr) [v3_0] a3)])) (S := (tab [(0, v0_0), (1, v1_0), (3, v3_0), (4, l11v4), (16, (ptr g23 0)), (17, v31), (37, v7), (38, (int .i64 (r6.1.length : Int))), (39, (int .i64 l11i39))])) ?_
         refine ta_step 1 _ [0, 3, 4, 5, 6, 7, 8, 9, 10, 12] [55, 58, 59, 60, 61, 62, 63, 64, 65, 18] [0] [2, 11] [⟨0, 55, Unit, fun _ => { val := v31 }⟩] [⟨3, 58, Unit, fun _ => { val := (ptr g23 1) }⟩, ⟨4, 59, Unit, fun _ => { val := (int .i64 u17.Kind) }⟩, ⟨5, 60, Unit, fun _ => { val := (ptr g23 2) }⟩, ⟨6, 61, Unit, fun _ => { val := (int .i64 u17.Mode) }⟩, ⟨7, 62, Unit, fun _ => { val := (ptr g23 3) }⟩, ⟨8, 63, Unit, fun _ => { val := (int .i64 u17.Time) }⟩, ⟨9, 64, Unit, fun _ => { val := (ptr g23 6) }⟩, ⟨10, 65, Unit, fun _ => { val := (str u17.Link) }⟩, ⟨12, 18, Nat, fun (i : Nat) => { val := (ptr i 0), own := [(oBox i 42 [(str ([] : List UInt8)), (int .i64 (0 : Int)), (int .i64 (0 : Int)), (int .i64 (0 : Int)), (str ([] : List UInt8))])] }⟩] rfl rfl rfl (by kernel_rfl) rfl rfl rfl ⟨⟨_, rfl, [], rfl, by
 intro X_ Y_ F_ K_ hK_
 refine al_show (m := Mem.plus (memOf w0 Z0 [(oRow v4_0 42 tyS_api_Item a4)] [(oRow v26 9 tyStr [u17.Name]), (oRow v31 9 tyStr (r28 ++ ([u17.Name]))), (oBox g23 168 [(str u17.Name), (int .i64 u17.Kind), (int .i64 u17.Mode), (int .i64 u17.Time), (int .i64 u17.Size), s21, (str u17.Link)]), (oRow l11v4 42 tyS_api_Item l11x4), (oRow v7 168 tyS_api_Node r6.1)] [(fDat (tyList tyA8u8) [s21] u17.Parts), (fDat tyS_api_Node [(str u17.Name), (int .i64 u17.Kind), (int .i64 u17.Mode), (int .i64 u17.Time), (int .i64 u17.Size), s21, (str u17.Link)] u17), (fDat (tyList tyS_api_Blob) [v0_0] a0), (fDat (tyList tyA8u8) [v1_0] a1), (fDat (tyList tyStr) [v3_0] a3)]) X_ Y_) (S := over (tab [(0, v0_0), (1, v1_0), (3, v3_0), (4, l11v4), (16, (ptr g23 0)), (17, v31), (37, v7), (38, (int .i64 (r6.1.length : Int))), (39, (int .i64 l11i39))]) F_) ?_
 refine al_mv rfl rfl ?_
 refine al_nil ?_
 exact fr_fin hK_ ()⟩, ⟨_, rfl, [], rfl, by
 intro X_ Y_ F_ K_ hK_
 refine al_show (m := Mem.plus (memOf w0 Z0 [(oRow v4_0 42 tyS_api_Item a4)] [(oRow v26 9 tyStr [u17.Name]), (oRow v31 9 tyStr (r28 ++ ([u17.Name]))), (oBox g23 168 [(str u17.Name), (int .i64 u17.Kind), (int .i64 u17.Mode), (int .i64 u17.Time), (int .i64 u17.Size), s21, (str u17.Link)]), (oRow l11v4 42 tyS_api_Item l11x4), (oRow v7 168 tyS_api_Node r6.1)] [(fDat (tyList tyA8u8) [s21] u17.Parts), (fDat tyS_api_Node [(str u17.Name), (int .i64 u17.Kind), (int .i64 u17.Mode), (int .i64 u17.Time), (int .i64 u17.Size), s21, (str u17.Link)] u17), (fDat (tyList tyS_api_Blob) [v0_0] a0), (fDat (tyList tyA8u8) [v1_0] a1), (fDat (tyList tyStr) [v3_0] a3)]) X_ Y_) (S := over (tab [(0, v0_0), (1, v1_0), (3, v3_0), (4, l11v4), (16, (ptr g23 0)), (17, v31), (37, v7), (38, (int .i64 (r6.1.length : Int))), (39, (int .i64 l11i39))]) F_) ?_
 refine al_val (ov_fieldA (p := 1) rfl Tryd.underlying168 rfl sz3 rfl rfl rfl) ?_
 refine al_nil ?_
 exact fr_fin hK_ ()⟩, ⟨_, rfl, [1], rfl, by
 intro _
 intro X_ Y_ F_ K_ hK_
 refine al_show (m := Mem.plus (memOf w0 Z0 [(oRow v4_0 42 tyS_api_Item a4)] [(oRow v26 9 tyStr [u17.Name]), (oRow v31 9 tyStr (r28 ++ ([u17.Name]))), (oBox g23 168 [(str u17.Name), (int .i64 u17.Kind), (int .i64 u17.Mode), (int .i64 u17.Time), (int .i64 u17.Size), s21, (str u17.Link)]), (oRow l11v4 42 tyS_api_Item l11x4), (oRow v7 168 tyS_api_Node r6.1)] [(fDat (tyList tyA8u8) [s21] u17.Parts), (fDat tyS_api_Node [(str u17.Name), (int .i64 u17.Kind), (int .i64 u17.Mode), (int .i64 u17.Time), (int .i64 u17.Size), s21, (str u17.Link)] u17), (fDat (tyList tyS_api_Blob) [v0_0] a0), (fDat (tyList tyA8u8) [v1_0] a1), (fDat (tyList tyStr) [v3_0] a3)]) X_ Y_) (S := over (put (tab [(0, v0_0), (1, v1_0), (3, v3_0), (4, l11v4), (16, (ptr g23 0)), (17, v31), (37, v7), (38, (int .i64 (r6.1.length : Int))), (39, (int .i64 l11i39))]) 58 (ptr g23 1)) F_) ?_
 refine al_val (ov_load (i := 2) (v := (int .i64 u17.Kind)) rfl rfl Tryd.underlying3 sz3 rfl rfl rfl rfl) ?_
 refine al_nil ?_
 exact fr_fin hK_ ()⟩, ⟨_, rfl, [], rfl, by
 intro X_ Y_ F_ K_ hK_
 refine al_show (m := Mem.plus (memOf w0 Z0 [(oRow v4_0 42 tyS_api_Item a4)] [(oRow v26 9 tyStr [u17.Name]), (oRow v31 9 tyStr (r28 ++ ([u17.Name]))), (oBox g23 168 [(str u17.Name), (int .i64 u17.Kind), (int .i64 u17.Mode), (int .i64 u17.Time), (int .i64 u17.Size), s21, (str u17.Link)]), (oRow l11v4 42 tyS_api_Item l11x4), (oRow v7 168 tyS_api_Node r6.1)] [(fDat (tyList tyA8u8) [s21] u17.Parts), (fDat tyS_api_Node [(str u17.Name), (int .i64 u17.Kind), (int .i64 u17.Mode), (int .i64 u17.Time), (int .i64 u17.Size), s21, (str u17.Link)] u17), (fDat (tyList tyS_api_Blob) [v0_0] a0), (fDat (tyList tyA8u8) [v1_0] a1), (fDat (tyList tyStr) [v3_0] a3)]) X_ Y_) (S := over (tab [(0, v0_0), (1, v1_0), (3, v3_0), (4, l11v4), (16, (ptr g23 0)), (17, v31), (37, v7), (38, (int .i64 (r6.1.length : Int))), (39, (int .i64 l11i39))]) F_) ?_
 refine al_val (ov_fieldA (p := 2) rfl Tryd.underlying168 rfl sz3 rfl rfl rfl) ?_
 refine al_nil ?_
 exact fr_fin hK_ ()⟩, ⟨_, rfl, [3], rfl, by
 intro _
 intro X_ Y_ F_ K_ hK_
 refine al_show (m := Mem.plus (memOf w0 Z0 [(oRow v4_0 42 tyS_api_Item a4)] [(oRow v26 9 tyStr [u17.Name]), (oRow v31 9 tyStr (r28 ++ ([u17.Name]))), (oBox g23 168 [(str u17.Name), (int .i64 u17.Kind), (int .i64 u17.Mode), (int .i64 u17.Time), (int .i64 u17.Size), s21, (str u17.Link)]), (oRow l11v4 42 tyS_api_Item l11x4), (oRow v7 168 tyS_api_Node r6.1)] [(fDat (tyList tyA8u8) [s21] u17.Parts), (fDat tyS_api_Node [(str u17.Name), (int .i64 u17.Kind), (int .i64 u17.Mode), (int .i64 u17.Time), (int .i64 u17.Size), s21, (str u17.Link)] u17), (fDat (tyList tyS_api_Blob) [v0_0] a0), (fDat (tyList tyA8u8) [v1_0] a1), (fDat (tyList tyStr) [v3_0] a3)]) X_ Y_) (S := over (put (tab [(0, v0_0), (1, v1_0), (3, v3_0), (4, l11v4), (16, (ptr g23 0)), (17, v31), (37, v7), (38, (int .i64 (r6.1.length : Int))), (39, (int .i64 l11i39))]) 60 (ptr g23 2)) F_) ?_
 refine al_val (ov_load (i := 2) (v := (int .i64 u17.Mode)) rfl rfl Tryd.underlying3 sz3 rfl rfl rfl rfl) ?_
 refine al_nil ?_
 exact fr_fin hK_ ()⟩, ⟨_, rfl, [], rfl, by
 intro X_ Y_ F_ K_ hK_
 refine al_show (m := Mem.plus (memOf w0 Z0 [(oRow v4_0 42 tyS_api_Item a4)] [(oRow v26 9 tyStr [u17.Name]), (oRow v31 9 tyStr (r28 ++ ([u17.Name]))), (oBox g23 168 [(str u17.Name), (int .i64 u17.Kind), (int .i64 u17.Mode), (int .i64 u17.Time), (int .i64 u17.Size), s21, (str u17.Link)]), (oRow l11v4 42 tyS_api_Item l11x4), (oRow v7 168 tyS_api_Node r6.1)] [(fDat (tyList tyA8u8) [s21] u17.Parts), (fDat tyS_api_Node [(str u17.Name), (int .i64 u17.Kind), (int .i64 u17.Mode), (int .i64 u17.Time), (int .i64 u17.Size), s21, (str u17.Link)] u17), (fDat (tyList tyS_api_Blob) [v0_0] a0), (fDat (tyList tyA8u8) [v1_0] a1), (fDat (tyList tyStr) [v3_0] a3)]) X_ Y_) (S := over (tab [(0, v0_0), (1, v1_0), (3, v3_0), (4, l11v4), (16, (ptr g23 0)), (17, v31), (37, v7), (38, (int .i64 (r6.1.length : Int))), (39, (int .i64 l11i39))]) F_) ?_
 refine al_val (ov_fieldA (p := 3) rfl Tryd.underlying168 rfl sz3 rfl rfl rfl) ?_
 refine al_nil ?_
 exact fr_fin hK_ ()⟩, ⟨_, rfl, [5], rfl, by
 intro _
 intro X_ Y_ F_ K_ hK_
 refine al_show (m := Mem.plus (memOf w0 Z0 [(oRow v4_0 42 tyS_api_Item a4)] [(oRow v26 9 tyStr [u17.Name]), (oRow v31 9 tyStr (r28 ++ ([u17.Name]))), (oBox g23 168 [(str u17.Name), (int .i64 u17.Kind), (int .i64 u17.Mode), (int .i64 u17.Time), (int .i64 u17.Size), s21, (str u17.Link)]), (oRow l11v4 42 tyS_api_Item l11x4), (oRow v7 168 tyS_api_Node r6.1)] [(fDat (tyList tyA8u8) [s21] u17.Parts), (fDat tyS_api_Node [(str u17.Name), (int .i64 u17.Kind), (int .i64 u17.Mode), (int .i64 u17.Time), (int .i64 u17.Size), s21, (str u17.Link)] u17), (fDat (tyList tyS_api_Blob) [v0_0] a0), (fDat (tyList tyA8u8) [v1_0] a1), (fDat (tyList tyStr) [v3_0] a3)]) X_ Y_) (S := over (put (tab [(0, v0_0), (1, v1_0), (3, v3_0), (4, l11v4), (16, (ptr g23 0)), (17, v31), (37, v7), (38, (int .i64 (r6.1.length : Int))), (39, (int .i64 l11i39))]) 62 (ptr g23 3)) F_) ?_
 refine al_val (ov_load (i := 2) (v := (int .i64 u17.Time)) rfl rfl Tryd.underlying3 sz3 rfl rfl rfl rfl) ?_
 refine al_nil ?_
 exact fr_fin hK_ ()⟩, ⟨_, rfl, [], rfl, by
 intro X_ Y_ F_ K_ hK_
 refine al_show (m := Mem.plus (memOf w0 Z0 [(oRow v4_0 42 tyS_api_Item a4)] [(oRow v26 9 tyStr [u17.Name]), (oRow v31 9 tyStr (r28 ++ ([u17.Name]))), (oBox g23 168 [(str u17.Name), (int .i64 u17.Kind), (int .i64 u17.Mode), (int .i64 u17.Time), (int .i64 u17.Size), s21, (str u17.Link)]), (oRow l11v4 42 tyS_api_Item l11x4), (oRow v7 168 tyS_api_Node r6.1)] [(fDat (tyList tyA8u8) [s21] u17.Parts), (fDat tyS_api_Node [(str u17.Name), (int .i64 u17.Kind), (int .i64 u17.Mode), (int .i64 u17.Time), (int .i64 u17.Size), s21, (str u17.Link)] u17), (fDat (tyList tyS_api_Blob) [v0_0] a0), (fDat (tyList tyA8u8) [v1_0] a1), (fDat (tyList tyStr) [v3_0] a3)]) X_ Y_) (S := over (tab [(0, v0_0), (1, v1_0), (3, v3_0), (4, l11v4), (16, (ptr g23 0)), (17, v31), (37, v7), (38, (int .i64 (r6.1.length : Int))), (39, (int .i64 l11i39))]) F_) ?_
 refine al_val (ov_fieldA (p := 6) rfl Tryd.underlying168 rfl sz9 rfl rfl rfl) ?_
 refine al_nil ?_
 exact fr_fin hK_ ()⟩, ⟨_, rfl, [7], rfl, by
 intro _
 intro X_ Y_ F_ K_ hK_
 refine al_show (m := Mem.plus (memOf w0 Z0 [(oRow v4_0 42 tyS_api_Item a4)] [(oRow v26 9 tyStr [u17.Name]), (oRow v31 9 tyStr (r28 ++ ([u17.Name]))), (oBox g23 168 [(str u17.Name), (int .i64 u17.Kind), (int .i64 u17.Mode), (int .i64 u17.Time), (int .i64 u17.Size), s21, (str u17.Link)]), (oRow l11v4 42 tyS_api_Item l11x4), (oRow v7 168 tyS_api_Node r6.1)] [(fDat (tyList tyA8u8) [s21] u17.Parts), (fDat tyS_api_Node [(str u17.Name), (int .i64 u17.Kind), (int .i64 u17.Mode), (int .i64 u17.Time), (int .i64 u17.Size), s21, (str u17.Link)] u17), (fDat (tyList tyS_api_Blob) [v0_0] a0), (fDat (tyList tyA8u8) [v1_0] a1), (fDat (tyList tyStr) [v3_0] a3)]) X_ Y_) (S := over (put (tab [(0, v0_0), (1, v1_0), (3, v3_0), (4, l11v4), (16, (ptr g23 0)), (17, v31), (37, v7), (38, (int .i64 (r6.1.length : Int))), (39, (int .i64 l11i39))]) 64 (ptr g23 6)) F_) ?_
 refine al_val (ov_load (i := 2) (v := (str u17.Link)) rfl rfl Tryd.underlying9 sz9 rfl rfl rfl rfl) ?_
 refine al_nil ?_
 exact fr_fin hK_ ()⟩, ⟨_, rfl, [], rfl, by
 intro X_ Y_ F_ K_ hK_
 refine al_show (m := Mem.plus (memOf w0 Z0 [(oRow v4_0 42 tyS_api_Item a4)] [(oRow v26 9 tyStr [u17.Name]), (oRow v31 9 tyStr (r28 ++ ([u17.Name]))), (oBox g23 168 [(str u17.Name), (int .i64 u17.Kind), (int .i64 u17.Mode), (int .i64 u17.Time), (int .i64 u17.Size), s21, (str u17.Link)]), (oRow l11v4 42 tyS_api_Item l11x4), (oRow v7 168 tyS_api_Node r6.1)] [(fDat (tyList tyA8u8) [s21] u17.Parts), (fDat tyS_api_Node [(str u17.Name), (int .i64 u17.Kind), (int .i64 u17.Mode), (int .i64 u17.Time), (int .i64 u17.Size), s21, (str u17.Link)] u17), (fDat (tyList tyS_api_Blob) [v0_0] a0), (fDat (tyList tyA8u8) [v1_0] a1), (fDat (tyList tyStr) [v3_0] a3)]) X_ Y_) (S := over (tab [(0, v0_0), (1, v1_0), (3, v3_0), (4, l11v4), (16, (ptr g23 0)), (17, v31), (37, v7), (38, (int .i64 (r6.1.length : Int))), (39, (int .i64 l11i39))]) F_) ?_
 refine al_alloc (zs := [(str ([] : List UInt8)), (int .i64 (0 : Int)), (int .i64 (0 : Int)), (int .i64 (0 : Int)), (str ([] : List UInt8))]) (zeroOf_to to42) rfl rfl (fun g32 => ?_)
 refine al_nil ?_
 exact fr_fin hK_ g32⟩, trivial⟩ ?_
         intro _
         intro X_ Y_ F_ K_ hK_
         refine al_show (m := Mem.plus (memOf w0 Z0 [(oRow v4_0 42 tyS_api_Item a4)] [(oRow v26 9 tyStr [u17.Name]), (oRow v31 9 tyStr (r28 ++ ([u17.Name]))), (oBox g23 168 [(str u17.Name), (int .i64 u17.Kind), (int .i64 u17.Mode), (int .i64 u17.Time), (int .i64 u17.Size), s21, (str u17.Link)]), (oRow l11v4 42 tyS_api_Item l11x4), (oRow v7 168 tyS_api_Node r6.1)] [(fDat (tyList tyA8u8) [s21] u17.Parts), (fDat tyS_api_Node [(str u17.Name), (int .i64 u17.Kind), (int .i64 u17.Mode), (int .i64 u17.Time), (int .i64 u17.Size), s21, (str u17.Link)] u17), (fDat (tyList tyS_api_Blob) [v0_0] a0), (fDat (tyList tyA8u8) [v1_0] a1), (fDat (tyList tyStr) [v3_0] a3)]) X_ Y_) (S := over (put (tab [(0, v0_0), (1, v1_0), (3, v3_0), (4, l11v4), (16, (ptr g23 0)), (17, v31), (37, v7), (38, (int .i64 (r6.1.length : Int))), (39, (int .i64 l11i39))]) 55 v31) F_) ?_
         obtain ⟨r34, hc33, h⟩ := opt_some h
         refine al_callX (vs := [v31, (str ([47] : List UInt8))]) (f_strings_Join_ok fu v31 (r28 ++ ([u17.Name])) ([47] : List UInt8) hc33) [1] [] [0, 1, 2, 3, 4] (pre_own 1 rfl rfl pre_nil) rfl (by simp) (by decide) rfl (.inr flat_res0) rfl Tryd.func112 rfl rfl rfl (fun _ => ?_)
         refine al_nil ?_
         obtain ⟨hc35, h⟩ := req_some h
         refine aq_show (m := Mem.plus (memOf w0 Z0 [(oRow v4_0 42 tyS_api_Item a4)] [(oRow v26 9 tyStr [u17.Name]), (oRow v31 9 tyStr (r28 ++ ([u17.Name]))), (oBox g23 168 [(str u17.Name), (int .i64 u17.Kind), (int .i64 u17.Mode), (int .i64 u17.Time), (int .i64 u17.Size), s21, (str u17.Link)]), (oRow l11v4 42 tyS_api_Item l11x4), (oRow v7 168 tyS_api_Node r6.1)] [(fDat (tyList tyA8u8) [s21] u17.Parts), (fDat tyS_api_Node [(str u17.Name), (int .i64 u17.Kind), (int .i64 u17.Mode), (int .i64 u17.Time), (int .i64 u17.Size), s21, (str u17.Link)] u17), (fDat (tyList tyS_api_Blob) [v0_0] a0), (fDat (tyList tyA8u8) [v1_0] a1), (fDat (tyList tyStr) [v3_0] a3)]) X_ Y_) ?_
         refine aq_next hK_ [0, 1, 2, 3, 4] [0, 1, 2, 3, 4] [(0, v0_0), (1, v1_0), (3, v3_0), (4, l11v4), (16, (ptr g23 0)), (17, v31), (37, v7), (38, (int .i64 (r6.1.length : Int))), (39, (int .i64 l11i39)), (56, (str r34))] [58, 59, 60, 61, 62, 63, 64, 65, 18] [⟨2, 57, Unit, fun _ => { val := (str (([47] : List UInt8) ++ r34)) }⟩, ⟨11, 66, Unit, fun _ => { val := (ag [(str (([47] : List UInt8) ++ r34)), (int .i64 u17.Kind), (int .i64 u17.Mode), (int .i64 u17.Time), (str u17.Link)]) }⟩] rfl rfl (by decide) rfl ⟨rfl, rfl, rfl, rfl, rfl, rfl, rfl, rfl, rfl, rfl, trivial⟩ ⟨rfl, rfl, rfl, rfl, rfl, rfl, rfl, rfl, rfl, trivial⟩ ?_
         clear hK_ K_ F_ X_ Y_
         refine ta_show (m := (memOf w0 Z0 [(oRow v4_0 42 tyS_api_Item a4)] [(oRow v26 9 tyStr [u17.Name]), (oRow v31 9 tyStr (r28 ++ ([u17.Name]))), (oBox g23 168 [(str u17.Name), (int .i64 u17.Kind), (int .i64 u17.Mode), (int .i64 u17.Time), (int .i64 u17.Size), s21, (str u17.Link)]), (oRow l11v4 42 tyS_api_Item l11x4), (oRow v7 168 tyS_api_Node r6.1)] [(fDat (tyList tyA8u8) [s21] u17.Parts), (fDat tyS_api_Node [(str u17.Name), (int .i64 u17.Kind), (int .i64 u17.Mode), (int .i64 u17.Time), (int .i64 u17.Size), s21, (str u17.Link)] u17), (fDat (tyList tyS_api_Blob) [v0_0] a0), (fDat (tyList tyA8u8) [v1_0] a1), (fDat (tyList tyStr) [v3_0] a3)])) (S := (tab [(0, v0_0), (1, v1_0), (3, v3_0), (4, l11v4), (16, (ptr g23 0)), (17, v31), (37, v7), (38, (int .i64 (r6.1.length : Int))), (39, (int .i64 l11i39)), (56, (str r34))])) ?_
         refine ta_step 13 _ [3, 4, 5, 6, 7, 8, 9, 10, 12, 2, 11] [58, 59, 60, 61, 62, 63, 64, 65, 18, 57, 66] [3, 4, 5, 6, 7, 8, 9, 10, 12, 2, 11] [] [⟨3, 58, Unit, fun _ => { val := (ptr g23 1) }⟩, ⟨4, 59, Unit, fun _ => { val := (int .i64 u17.Kind) }⟩, ⟨5, 60, Unit, fun _ => { val := (ptr g23 2) }⟩, ⟨6, 61, Unit, fun _ => { val := (int .i64 u17.Mode) }⟩, ⟨7, 62, Unit, fun _ => { val := (ptr g23 3) }⟩, ⟨8, 63, Unit, fun _ => { val := (int .i64 u17.Time) }⟩, ⟨9, 64, Unit, fun _ => { val := (ptr g23 6) }⟩, ⟨10, 65, Unit, fun _ => { val := (str u17.Link) }⟩, ⟨12, 18, Nat, fun (i : Nat) => { val := (ptr i 0), own := [(oBox i 42 [(str ([] : List UInt8)), (int .i64 (0 : Int)), (int .i64 (0 : Int)), (int .i64 (0 : Int)), (str ([] : List UInt8))])] }⟩, ⟨2, 57, Unit, fun _ => { val := (str (([47] : List UInt8) ++ r34)) }⟩, ⟨11, 66, Unit, fun _ => { val := (ag [(str (([47] : List UInt8) ++ r34)), (int .i64 u17.Kind), (int .i64 u17.Mode), (int .i64 u17.Time), (str u17.Link)]) }⟩] [] rfl rfl rfl (by kernel_rfl) rfl rfl rfl ⟨⟨_, rfl, [], rfl, by
 intro X_ Y_ F_ K_ hK_
 refine al_show (m := Mem.plus (memOf w0 Z0 [(oRow v4_0 42 tyS_api_Item a4)] [(oRow v26 9 tyStr [u17.Name]), (oRow v31 9 tyStr (r28 ++ ([u17.Name]))), (oBox g23 168 [(str u17.Name), (int .i64 u17.Kind), (int .i64 u17.Mode), (int .i64 u17.Time), (int .i64 u17.Size), s21, (str u17.Link)]), (oRow l11v4 42 tyS_api_Item l11x4), (oRow v7 168 tyS_api_Node r6.1)] [(fDat (tyList tyA8u8) [s21] u17.Parts), (fDat tyS_api_Node [(str u17.Name), (int .i64 u17.Kind), (int .i64 u17.Mode), (int .i64 u17.Time), (int .i64 u17.Size), s21, (str u17.Link)] u17), (fDat (tyList tyS_api_Blob) [v0_0] a0), (fDat (tyList tyA8u8) [v1_0] a1), (fDat (tyList tyStr) [v3_0] a3)]) X_ Y_) (S := over (tab [(0, v0_0), (1, v1_0), (3, v3_0), (4, l11v4), (16, (ptr g23 0)), (17, v31), (37, v7), (38, (int .i64 (r6.1.length : Int))), (39, (int .i64 l11i39)), (56, (str r34))]) F_) ?_
 refine al_val (ov_fieldA (p := 1) rfl Tryd.underlying168 rfl sz3 rfl rfl rfl) ?_
 refine al_nil ?_
 exact fr_fin hK_ ()⟩, ⟨_, rfl, [0], rfl, by
 intro _
 intro X_ Y_ F_ K_ hK_
 refine al_show (m := Mem.plus (memOf w0 Z0 [(oRow v4_0 42 tyS_api_Item a4)] [(oRow v26 9 tyStr [u17.Name]), (oRow v31 9 tyStr (r28 ++ ([u17.Name]))), (oBox g23 168 [(str u17.Name), (int .i64 u17.Kind), (int .i64 u17.Mode), (int .i64 u17.Time), (int .i64 u17.Size), s21, (str u17.Link)]), (oRow l11v4 42 tyS_api_Item l11x4), (oRow v7 168 tyS_api_Node r6.1)] [(fDat (tyList tyA8u8) [s21] u17.Parts), (fDat tyS_api_Node [(str u17.Name), (int .i64 u17.Kind), (int .i64 u17.Mode), (int .i64 u17.Time), (int .i64 u17.Size), s21, (str u17.Link)] u17), (fDat (tyList tyS_api_Blob) [v0_0] a0), (fDat (tyList tyA8u8) [v1_0] a1), (fDat (tyList tyStr) [v3_0] a3)]) X_ Y_) (S := over (put (tab [(0, v0_0), (1, v1_0), (3, v3_0), (4, l11v4), (16, (ptr g23 0)), (17, v31), (37, v7), (38, (int .i64 (r6.1.length : Int))), (39, (int .i64 l11i39)), (56, (str r34))]) 58 (ptr g23 1)) F_) ?_
 refine al_val (ov_load (i := 2) (v := (int .i64 u17.Kind)) rfl rfl Tryd.underlying3 sz3 rfl rfl rfl rfl) ?_
 refine al_nil ?_
 exact fr_fin hK_ ()⟩, ⟨_, rfl, [], rfl, by
 intro X_ Y_ F_ K_ hK_
 refine al_show (m := Mem.plus (memOf w0 Z0 [(oRow v4_0 42 tyS_api_Item a4)] [(oRow v26 9 tyStr [u17.Name]), (oRow v31 9 tyStr (r28 ++ ([u17.Name]))), (oBox g23 168 [(str u17.Name), (int .i64 u17.Kind), (int .i64 u17.Mode), (int .i64 u17.Time), (int .i64 u17.Size), s21, (str u17.Link)]), (oRow l11v4 42 tyS_api_Item l11x4), (oRow v7 168 tyS_api_Node r6.1)] [(fDat (tyList tyA8u8) [s21] u17.Parts), (fDat tyS_api_Node [(str u17.Name), (int .i64 u17.Kind), (int .i64 u17.Mode), (int .i64 u17.Time), (int .i64 u17.Size), s21, (str u17.Link)] u17), (fDat (tyList tyS_api_Blob) [v0_0] a0), (fDat (tyList tyA8u8) [v1_0] a1), (fDat (tyList tyStr) [v3_0] a3)]) X_ Y_) (S := over (tab [(0, v0_0), (1, v1_0), (3, v3_0), (4, l11v4), (16, (ptr g23 0)), (17, v31), (37, v7), (38, (int .i64 (r6.1.length : Int))), (39, (int .i64 l11i39)), (56, (str r34))]) F_) ?_
 refine al_val (ov_fieldA (p := 2) rfl Tryd.underlying168 rfl sz3 rfl rfl rfl) ?_
 refine al_nil ?_
 exact fr_fin hK_ ()⟩, ⟨_, rfl, [2], rfl, by
 intro _
 intro X_ Y_ F_ K_ hK_
 refine al_show (m := Mem.plus (memOf w0 Z0 [(oRow v4_0 42 tyS_api_Item a4)] [(oRow v26 9 tyStr [u17.Name]), (oRow v31 9 tyStr (r28 ++ ([u17.Name]))), (oBox g23 168 [(str u17.Name), (int .i64 u17.Kind), (int .i64 u17.Mode), (int .i64 u17.Time), (int .i64 u17.Size), s21, (str u17.Link)]), (oRow l11v4 42 tyS_api_Item l11x4), (oRow v7 168 tyS_api_Node r6.1)] [(fDat (tyList tyA8u8) [s21] u17.Parts), (fDat tyS_api_Node [(str u17.Name), (int .i64 u17.Kind), (int .i64 u17.Mode), (int .i64 u17.Time), (int .i64 u17.Size), s21, (str u17.Link)] u17), (fDat (tyList tyS_api_Blob) [v0_0] a0), (fDat (tyList tyA8u8) [v1_0] a1), (fDat (tyList tyStr) [v3_0] a3)]) X_ Y_) (S := over (put (tab [(0, v0_0), (1, v1_0), (3, v3_0), (4, l11v4), (16, (ptr g23 0)), (17, v31), (37, v7), (38, (int .i64 (r6.1.length : Int))), (39, (int .i64 l11i39)), (56, (str r34))]) 60 (ptr g23 2)) F_) ?_
 refine al_val (ov_load (i := 2) (v := (int .i64 u17.Mode)) rfl rfl Tryd.underlying3 sz3 rfl rfl rfl rfl) ?_
 refine al_nil ?_
 exact fr_fin hK_ ()⟩, ⟨_, rfl, [], rfl, by
 intro X_ Y_ F_ K_ hK_
 refine al_show (m := Mem.plus (memOf w0 Z0 [(oRow v4_0 42 tyS_api_Item a4)] [(oRow v26 9 tyStr [u17.Name]), (oRow v31 9 tyStr (r28 ++ ([u17.Name]))), (oBox g23 168 [(str u17.Name), (int .i64 u17.Kind), (int .i64 u17.Mode), (int .i64 u17.Time), (int .i64 u17.Size), s21, (str u17.Link)]), (oRow l11v4 42 tyS_api_Item l11x4), (oRow v7 168 tyS_api_Node r6.1)] [(fDat (tyList tyA8u8) [s21] u17.Parts), (fDat tyS_api_Node [(str u17.Name), (int .i64 u17.Kind), (int .i64 u17.Mode), (int .i64 u17.Time), (int .i64 u17.Size), s21, (str u17.Link)] u17), (fDat (tyList tyS_api_Blob) [v0_0] a0), (fDat (tyList tyA8u8) [v1_0] a1), (fDat (tyList tyStr) [v3_0] a3)]) X_ Y_) (S := over (tab [(0, v0_0), (1, v1_0), (3, v3_0), (4, l11v4), (16, (ptr g23 0)), (17, v31), (37, v7), (38, (int .i64 (r6.1.length : Int))), (39, (int .i64 l11i39)), (56, (str r34))]) F_) ?_
 refine al_val (ov_fieldA (p := 3) rfl Tryd.underlying168 rfl sz3 rfl rfl rfl) ?_
 refine al_nil ?_
 exact fr_fin hK_ ()⟩, ⟨_, rfl, [4], rfl, by
 intro _
 intro X_ Y_ F_ K_ hK_
 refine al_show (m := Mem.plus (memOf w0 Z0 [(oRow v4_0 42 tyS_api_Item a4)] [(oRow v26 9 tyStr [u17.Name]), (oRow v31 9 tyStr (r28 ++ ([u17.Name]))), (oBox g23 168 [(str u17.Name), (int .i64 u17.Kind), (int .i64 u17.Mode), (int .i64 u17.Time), (int .i64 u17.Size), s21, (str u17.Link)]), (oRow l11v4 42 tyS_api_Item l11x4), (oRow v7 168 tyS_api_Node r6.1)] [(fDat (tyList tyA8u8) [s21] u17.Parts), (fDat tyS_api_Node [(str u17.Name), (int .i64 u17.Kind), (int .i64 u17.Mode), (int .i64 u17.Time), (int .i64 u17.Size), s21, (str u17.Link)] u17), (fDat (tyList tyS_api_Blob) [v0_0] a0), (fDat (tyList tyA8u8) [v1_0] a1), (fDat (tyList tyStr) [v3_0] a3)]) X_ Y_) (S := over (put (tab [(0, v0_0), (1, v1_0), (3, v3_0), (4, l11v4), (16, (ptr g23 0)), (17, v31), (37, v7), (38, (int .i64 (r6.1.length : Int))), (39, (int .i64 l11i39)), (56, (str r34))]) 62 (ptr g23 3)) F_) ?_
 refine al_val (ov_load (i := 2) (v := (int .i64 u17.Time)) rfl rfl Tryd.underlying3 sz3 rfl rfl rfl rfl) ?_
 refine al_nil ?_
 exact fr_fin hK_ ()⟩, ⟨_, rfl, [], rfl, by
 intro X_ Y_ F_ K_ hK_
 refine al_show (m := Mem.plus (memOf w0 Z0 [(oRow v4_0 42 tyS_api_Item a4)] [(oRow v26 9 tyStr [u17.Name]), (oRow v31 9 tyStr (r28 ++ ([u17.Name]))), (oBox g23 168 [(str u17.Name), (int .i64 u17.Kind), (int .i64 u17.Mode), (int .i64 u17.Time), (int .i64 u17.Size), s21, (str u17.Link)]), (oRow l11v4 42 tyS_api_Item l11x4), (oRow v7 168 tyS_api_Node r6.1)] [(fDat (tyList tyA8u8) [s21] u17.Parts), (fDat tyS_api_Node [(str u17.Name), (int .i64 u17.Kind), (int .i64 u17.Mode), (int .i64 u17.Time), (int .i64 u17.Size), s21, (str u17.Link)] u17), (fDat (tyList tyS_api_Blob) [v0_0] a0), (fDat (tyList tyA8u8) [v1_0] a1), (fDat (tyList tyStr) [v3_0] a3)]) X_ Y_) (S := over (tab [(0, v0_0), (1, v1_0), (3, v3_0), (4, l11v4), (16, (ptr g23 0)), (17, v31), (37, v7), (38, (int .i64 (r6.1.length : Int))), (39, (int .i64 l11i39)), (56, (str r34))]) F_) ?_
 refine al_val (ov_fieldA (p := 6) rfl Tryd.underlying168 rfl sz9 rfl rfl rfl) ?_
 refine al_nil ?_
 exact fr_fin hK_ ()⟩, ⟨_, rfl, [6], rfl, by
 intro _
 intro X_ Y_ F_ K_ hK_
 refine al_show (m := Mem.plus (memOf w0 Z0 [(oRow v4_0 42 tyS_api_Item a4)] [(oRow v26 9 tyStr [u17.Name]), (oRow v31 9 tyStr (r28 ++ ([u17.Name]))), (oBox g23 168 [(str u17.Name), (int .i64 u17.Kind), (int .i64 u17.Mode), (int .i64 u17.Time), (int .i64 u17.Size), s21, (str u17.Link)]), (oRow l11v4 42 tyS_api_Item l11x4), (oRow v7 168 tyS_api_Node r6.1)] [(fDat (tyList tyA8u8) [s21] u17.Parts), (fDat tyS_api_Node [(str u17.Name), (int .i64 u17.Kind), (int .i64 u17.Mode), (int .i64 u17.Time), (int .i64 u17.Size), s21, (str u17.Link)] u17), (fDat (tyList tyS_api_Blob) [v0_0] a0), (fDat (tyList tyA8u8) [v1_0] a1), (fDat (tyList tyStr) [v3_0] a3)]) X_ Y_) (S := over (put (tab [(0, v0_0), (1, v1_0), (3, v3_0), (4, l11v4), (16, (ptr g23 0)), (17, v31), (37, v7), (38, (int .i64 (r6.1.length : Int))), (39, (int .i64 l11i39)), (56, (str r34))]) 64 (ptr g23 6)) F_) ?_
 refine al_val (ov_load (i := 2) (v := (str u17.Link)) rfl rfl Tryd.underlying9 sz9 rfl rfl rfl rfl) ?_
 refine al_nil ?_
 exact fr_fin hK_ ()⟩, ⟨_, rfl, [], rfl, by
 intro X_ Y_ F_ K_ hK_
 refine al_show (m := Mem.plus (memOf w0 Z0 [(oRow v4_0 42 tyS_api_Item a4)] [(oRow v26 9 tyStr [u17.Name]), (oRow v31 9 tyStr (r28 ++ ([u17.Name]))), (oBox g23 168 [(str u17.Name), (int .i64 u17.Kind), (int .i64 u17.Mode), (int .i64 u17.Time), (int .i64 u17.Size), s21, (str u17.Link)]), (oRow l11v4 42 tyS_api_Item l11x4), (oRow v7 168 tyS_api_Node r6.1)] [(fDat (tyList tyA8u8) [s21] u17.Parts), (fDat tyS_api_Node [(str u17.Name), (int .i64 u17.Kind), (int .i64 u17.Mode), (int .i64 u17.Time), (int .i64 u17.Size), s21, (str u17.Link)] u17), (fDat (tyList tyS_api_Blob) [v0_0] a0), (fDat (tyList tyA8u8) [v1_0] a1), (fDat (tyList tyStr) [v3_0] a3)]) X_ Y_) (S := over (tab [(0, v0_0), (1, v1_0), (3, v3_0), (4, l11v4), (16, (ptr g23 0)), (17, v31), (37, v7), (38, (int .i64 (r6.1.length : Int))), (39, (int .i64 l11i39)), (56, (str r34))]) F_) ?_
 refine al_alloc (zs := [(str ([] : List UInt8)), (int .i64 (0 : Int)), (int .i64 (0 : Int)), (int .i64 (0 : Int)), (str ([] : List UInt8))]) (zeroOf_to to42) rfl rfl (fun g32 => ?_)
 refine al_nil ?_
 exact fr_fin hK_ g32⟩, ⟨_, rfl, [], rfl, by
 intro X_ Y_ F_ K_ hK_
 refine al_show (m := Mem.plus (memOf w0 Z0 [(oRow v4_0 42 tyS_api_Item a4)] [(oRow v26 9 tyStr [u17.Name]), (oRow v31 9 tyStr (r28 ++ ([u17.Name]))), (oBox g23 168 [(str u17.Name), (int .i64 u17.Kind), (int .i64 u17.Mode), (int .i64 u17.Time), (int .i64 u17.Size), s21, (str u17.Link)]), (oRow l11v4 42 tyS_api_Item l11x4), (oRow v7 168 tyS_api_Node r6.1)] [(fDat (tyList tyA8u8) [s21] u17.Parts), (fDat tyS_api_Node [(str u17.Name), (int .i64 u17.Kind), (int .i64 u17.Mode), (int .i64 u17.Time), (int .i64 u17.Size), s21, (str u17.Link)] u17), (fDat (tyList tyS_api_Blob) [v0_0] a0), (fDat (tyList tyA8u8) [v1_0] a1), (fDat (tyList tyStr) [v3_0] a3)]) X_ Y_) (S := over (tab [(0, v0_0), (1, v1_0), (3, v3_0), (4, l11v4), (16, (ptr g23 0)), (17, v31), (37, v7), (38, (int .i64 (r6.1.length : Int))), (39, (int .i64 l11i39)), (56, (str r34))]) F_) ?_
 refine al_val (ov_strAdd hc35 rfl rfl rfl) ?_
 refine al_nil ?_
 exact fr_fin hK_ ()⟩, ⟨_, rfl, [1, 3, 5, 7, 9], rfl, by
 intro _
 intro _
 intro _
 intro _
 intro _
 intro X_ Y_ F_ K_ hK_
 refine al_show (m := Mem.plus (memOf w0 Z0 [(oRow v4_0 42 tyS_api_Item a4)] [(oRow v26 9 tyStr [u17.Name]), (oRow v31 9 tyStr (r28 ++ ([u17.Name]))), (oBox g23 168 [(str u17.Name), (int .i64 u17.Kind), (int .i64 u17.Mode), (int .i64 u17.Time), (int .i64 u17.Size), s21, (str u17.Link)]), (oRow l11v4 42 tyS_api_Item l11x4), (oRow v7 168 tyS_api_Node r6.1)] [(fDat (tyList tyA8u8) [s21] u17.Parts), (fDat tyS_api_Node [(str u17.Name), (int .i64 u17.Kind), (int .i64 u17.Mode), (int .i64 u17.Time), (int .i64 u17.Size), s21, (str u17.Link)] u17), (fDat (tyList tyS_api_Blob) [v0_0] a0), (fDat (tyList tyA8u8) [v1_0] a1), (fDat (tyList tyStr) [v3_0] a3)]) X_ Y_) (S := over (put (put (put (put (put (tab [(0, v0_0), (1, v1_0), (3, v3_0), (4, l11v4), (16, (ptr g23 0)), (17, v31), (37, v7), (38, (int .i64 (r6.1.length : Int))), (39, (int .i64 l11i39)), (56, (str r34))]) 59 (int .i64 u17.Kind)) 61 (int .i64 u17.Mode)) 63 (int .i64 u17.Time)) 65 (str u17.Link)) 57 (str (([47] : List UInt8) ++ r34))) F_) ?_
 refine al_val (ov_build (cells := ([(str (([47] : List UInt8) ++ r34)), (int .i64 u17.Kind), (int .i64 u17.Mode), (int .i64 u17.Time), (str u17.Link)]).toArray) (cs := [(str (([47] : List UInt8) ++ r34)), (int .i64 u17.Kind), (int .i64 u17.Mode), (int .i64 u17.Time), (str u17.Link)]) rfl (fun w a hm hs => by simp only [List.map_toArray, List.map_cons, List.map_nil, List.toList_toArray, hs.ev (x := .tmp 57) rfl, hs.ev (x := .tmp 59) rfl, hs.ev (x := .tmp 61) rfl, hs.ev (x := .tmp 63) rfl, hs.ev (x := .tmp 65) rfl]; kernel_rfl)) ?_
 refine al_nil ?_
 exact fr_fin hK_ ()⟩, trivial⟩ ?_
         intro _
         intro _
         intro _
         intro _
         intro _
         intro _
         intro _
         intro _
         intro g32
         intro _
         intro _
         intro X_ Y_ F_ K_ hK_
         refine al_show (m := Mem.plus (memOf w0 Z0 [(oRow v4_0 42 tyS_api_Item a4)] [(oBox g32 42 [(str ([] : List UInt8)), (int .i64 (0 : Int)), (int .i64 (0 : Int)), (int .i64 (0 : Int)), (str ([] : List UInt8))]), (oRow v26 9 tyStr [u17.Name]), (oRow v31 9 tyStr (r28 ++ ([u17.Name]))), (oBox g23 168 [(str u17.Name), (int .i64 u17.Kind), (int .i64 u17.Mode), (int .i64 u17.Time), (int .i64 u17.Size), s21, (str u17.Link)]), (oRow l11v4 42 tyS_api_Item l11x4), (oRow v7 168 tyS_api_Node r6.1)] [(fDat (tyList tyA8u8) [s21] u17.Parts), (fDat tyS_api_Node [(str u17.Name), (int .i64 u17.Kind), (int .i64 u17.Mode), (int .i64 u17.Time), (int .i64 u17.Size), s21, (str u17.Link)] u17), (fDat (tyList tyS_api_Blob) [v0_0] a0), (fDat (tyList tyA8u8) [v1_0] a1), (fDat (tyList tyStr) [v3_0] a3)]) X_ Y_) (S := over (put (put (put (put (put (put (put (put (put (put (put (tab [(0, v0_0), (1, v1_0), (3, v3_0), (4, l11v4), (16, (ptr g23 0)), (17, v31), (37, v7), (38, (int .i64 (r6.1.length : Int))), (39, (int .i64 l11i39)), (56, (str r34))]) 58 (ptr g23 1)) 59 (int .i64 u17.Kind)) 60 (ptr g23 2)) 61 (int .i64 u17.Mode)) 62 (ptr g23 3)) 63 (int .i64 u17.Time)) 64 (ptr g23 6)) 65 (str u17.Link)) 18 (ptr g32 0)) 57 (str (([47] : List UInt8) ++ r34))) 66 (ag [(str (([47] : List UInt8) ++ r34)), (int .i64 u17.Kind), (int .i64 u17.Mode), (int .i64 u17.Time), (str u17.Link)])) F_) ?_
         refine al_store (i := 0) (vs := [(str (([47] : List UInt8) ++ r34)), (int .i64 u17.Kind), (int .i64 u17.Mode), (int .i64 u17.Time), (str u17.Link)]) (cs' := [(str (([47] : List UInt8) ++ r34)), (int .i64 u17.Kind), (int .i64 u17.Mode), (int .i64 u17.Time), (str u17.Link)]) rfl rfl rfl sz42 (cv_rfl rfl) rfl (co_val rfl (co_val rfl (co_val rfl (co_val rfl (co_val rfl co_nil))))) (Nat.le_of_ble_eq_true rfl) rfl rfl ?_
         refine al_nil ?_
         refine aq_show (m := Mem.plus (memOf w0 Z0 [(oRow v4_0 42 tyS_api_Item a4)] [(oBox g32 42 [(str (([47] : List UInt8) ++ r34)), (int .i64 u17.Kind), (int .i64 u17.Mode), (int .i64 u17.Time), (str u17.Link)]), (oRow v26 9 tyStr [u17.Name]), (oRow v31 9 tyStr (r28 ++ ([u17.Name]))), (oBox g23 168 [(str u17.Name), (int .i64 u17.Kind), (int .i64 u17.Mode), (int .i64 u17.Time), (int .i64 u17.Size), s21, (str u17.Link)]), (oRow l11v4 42 tyS_api_Item l11x4), (oRow v7 168 tyS_api_Node r6.1)] [(fDat (tyList tyA8u8) [s21] u17.Parts), (fDat tyS_api_Node [(str u17.Name), (int .i64 u17.Kind), (int .i64 u17.Mode), (int .i64 u17.Time), (int .i64 u17.Size), s21, (str u17.Link)] u17), (fDat (tyList tyS_api_Blob) [v0_0] a0), (fDat (tyList tyA8u8) [v1_0] a1), (fDat (tyList tyStr) [v3_0] a3)]) X_ Y_) ?_
         refine aq_next hK_ [0, 1, 2, 3, 4, 5] [0, 1, 2, 3, 4] [(0, v0_0), (1, v1_0), (3, v3_0), (4, l11v4), (16, (ptr g23 0)), (17, v31), (18, (ptr g32 0)), (37, v7), (38, (int .i64 (r6.1.length : Int))), (39, (int .i64 l11i39))] [] [] rfl rfl (by decide) rfl ⟨rfl, rfl, rfl, rfl, rfl, rfl, rfl, rfl, rfl, rfl, trivial⟩ trivial ?_
         clear hK_ K_ F_ X_ Y_
         refine ta_show (m := (memOf w0 Z0 [(oRow v4_0 42 tyS_api_Item a4)] [(oBox g32 42 [(str (([47] : List UInt8) ++ r34)), (int .i64 u17.Kind), (int .i64 u17.Mode), (int .i64 u17.Time), (str u17.Link)]), (oRow v26 9 tyStr [u17.Name]), (oRow v31 9 tyStr (r28 ++ ([u17.Name]))), (oBox g23 168 [(str u17.Name), (int .i64 u17.Kind), (int .i64 u17.Mode), (int .i64 u17.Time), (int .i64 u17.Size), s21, (str u17.Link)]), (oRow l11v4 42 tyS_api_Item l11x4), (oRow v7 168 tyS_api_Node r6.1)] [(fDat (tyList tyA8u8) [s21] u17.Parts), (fDat tyS_api_Node [(str u17.Name), (int .i64 u17.Kind), (int .i64 u17.Mode), (int .i64 u17.Time), (int .i64 u17.Size), s21, (str u17.Link)] u17), (fDat (tyList tyS_api_Blob) [v0_0] a0), (fDat (tyList tyA8u8) [v1_0] a1), (fDat (tyList tyStr) [v3_0] a3)])) (S := (tab [(0, v0_0), (1, v1_0), (3, v3_0), (4, l11v4), (16, (ptr g23 0)), (17, v31), (18, (ptr g32 0)), (37, v7), (38, (int .i64 (r6.1.length : Int))), (39, (int .i64 l11i39))])) ?_
         refine ta_end [] [] rfl rfl (by kernel_rfl) rfl trivial ?_
         refine aq_show (m := (memOf w0 Z0 [(oRow v4_0 42 tyS_api_Item a4)] [(oBox g32 42 [(str (([47] : List UInt8) ++ r34)), (int .i64 u17.Kind), (int .i64 u17.Mode), (int .i64 u17.Time), (str u17.Link)]), (oRow v26 9 tyStr [u17.Name]), (oRow v31 9 tyStr (r28 ++ ([u17.Name]))), (oBox g23 168 [(str u17.Name), (int .i64 u17.Kind), (int .i64 u17.Mode), (int .i64 u17.Time), (int .i64 u17.Size), s21, (str u17.Link)]), (oRow l11v4 42 tyS_api_Item l11x4), (oRow v7 168 tyS_api_Node r6.1)] [(fDat (tyList tyA8u8) [s21] u17.Parts), (fDat tyS_api_Node [(str u17.Name), (int .i64 u17.Kind), (int .i64 u17.Mode), (int .i64 u17.Time), (int .i64 u17.Size), s21, (str u17.Link)] u17), (fDat (tyList tyS_api_Blob) [v0_0] a0), (fDat (tyList tyA8u8) [v1_0] a1), (fDat (tyList tyStr) [v3_0] a3)])) (S := (tab [(0, v0_0), (1, v1_0), (3, v3_0), (4, l11v4), (16, (ptr g23 0)), (17, v31), (18, (ptr g32 0)), (37, v7), (38, (int .i64 (r6.1.length : Int))), (39, (int .i64 l11i39))])) ?_
         refine aq_then ?_
         obtain ⟨kk37, hkk37, h⟩ := lt_some h
         refine aw_seq_join (ι := (List UInt8)) (fun i => (memOf w0 Z0 [(oRow v4_0 42 tyS_api_Item a4)] [(oRow l11v4 42 tyS_api_Item l11x4), (oBox g23 168 [(str u17.Name), (int .i64 u17.Kind), (int .i64 u17.Mode), (int .i64 u17.Time), (int .i64 u17.Size), s21, (str u17.Link)]), (oRow v31 9 tyStr (r28 ++ ([u17.Name]))), (oBox g32 42 [(str (([47] : List UInt8) ++ r34)), (int .i64 u17.Kind), (int .i64 u17.Mode), (int .i64 u17.Time), (str i)]), (oRow v7 168 tyS_api_Node r6.1)] [(fDat (tyList tyS_api_Blob) [v0_0] a0), (fDat (tyList tyA8u8) [v1_0] a1), (fDat (tyList tyStr) [v3_0] a3), (fDat (tyList tyA8u8) [s21] u17.Parts), (fDat tyS_api_Node [(str u17.Name), (int .i64 u17.Kind), (int .i64 u17.Mode), (int .i64 u17.Time), (int .i64 u17.Size), s21, (str u17.Link)] u17)])) (fun i => (tab [(0, v0_0), (1, v1_0), (3, v3_0), (4, l11v4), (16, (ptr g23 0)), (17, v31), (18, (ptr g32 0)), (37, v7), (38, (int .i64 (r6.1.length : Int))), (39, (int .i64 l11i39))])) (fun i => kk37 i = some r) ?_ ?_
         ·rintro j36s18_4 h
          have h : kk37 j36s18_4 = some r := h
          rw [hkk37] at h
          dsimp only at h
          clear hkk37
          refine aw_show (m := (memOf w0 Z0 [(oRow v4_0 42 tyS_api_Item a4)] [(oRow l11v4 42 tyS_api_Item l11x4), (oBox g23 168 [(str u17.Name), (int .i64 u17.Kind), (int .i64 u17.Mode), (int .i64 u17.Time), (int .i64 u17.Size), s21, (str u17.Link)]), (oRow v31 9 tyStr (r28 ++ ([u17.Name]))), (oBox g32 42 [(str (([47] : List UInt8) ++ r34)), (int .i64 u17.Kind), (int .i64 u17.Mode), (int .i64 u17.Time), (str j36s18_4)]), (oRow v7 168 tyS_api_Node r6.1)] [(fDat (tyList tyS_api_Blob) [v0_0] a0), (fDat (tyList tyA8u8) [v1_0] a1), (fDat (tyList tyStr) [v3_0] a3), (fDat (tyList tyA8u8) [s21] u17.Parts), (fDat tyS_api_Node [(str u17.Name), (int .i64 u17.Kind), (int .i64 u17.Mode), (int .i64 u17.Time), (int .i64 u17.Size), s21, (str u17.Link)] u17)])) (S := (tab [(0, v0_0), (1, v1_0), (3, v3_0), (4, l11v4), (16, (ptr g23 0)), (17, v31), (18, (ptr g32 0)), (37, v7), (38, (int .i64 (r6.1.length : Int))), (39, (int .i64 l11i39))])) ?_
          refine aw_sr ?_
          refine al_mv rfl rfl ?_
          refine al_val (ov_load (i := 3) (v := (ag [(str (([47] : List UInt8) ++ r34)), (int .i64 u17.Kind), (int .i64 u17.Mode), (int .i64 u17.Time), (str j36s18_4)])) rfl rfl Tryd.underlying42 sz42 rfl rfl rfl rfl) ?_
          refine al_buildSlice (τ := tyS_api_Item) (e := 42) (k := 1) (sz := 0) (by_ := 0) (z := undef) (cs := [(str (([47] : List UInt8) ++ r34)), (int .i64 u17.Kind), (int .i64 u17.Mode), (int .i64 u17.Time), (str j36s18_4)]) (xs := [(S_api_Item.mk (([47] : List UInt8) ++ r34) u17.Kind u17.Mode u17.Time j36s18_4)]) rfl (by decide) (fun w a hm hs => ⟨([(str (([47] : List UInt8) ++ r34)), (int .i64 u17.Kind), (int .i64 u17.Mode), (int .i64 u17.Time), (str j36s18_4)]).toArray, rfl, by simp only [List.map_toArray, List.map_cons, List.map_nil, hs.ev (x := .tmp 82) rfl]; exact run_bs [(ag [(str (([47] : List UInt8) ++ r34)), (int .i64 u17.Kind), (int .i64 u17.Mode), (int .i64 u17.Time), (str j36s18_4)])] [(str (([47] : List UInt8) ++ r34)), (int .i64 u17.Kind), (int .i64 u17.Mode), (int .i64 u17.Time), (str j36s18_4)] Tryd.underlying36 to42 rfl rfl (bs_cons (l := [(str (([47] : List UInt8) ++ r34)), (int .i64 u17.Kind), (int .i64 u17.Mode), (int .i64 u17.Time), (str j36s18_4)]) (cs := []) (cv_rfl rfl) rfl bs_nil) hm⟩) (fun hm => ⟨_, _, rfl, (fun _ => mkS_api_Item rfl) hm, rfl⟩) rfl (fun v38 => ?_)
          obtain ⟨hc39, h⟩ := req_some h
          refine al_append 1 hc39.1 hc39.2 rfl (src_own (i := 1) 0 rfl) rfl rfl Tryd.underlying36 to42 rfl rfl rfl (fun v40 => ?_)
          refine al_as rfl rfl ?_
          refine al_nt ?_
          refine aw_sr ?_
          refine al_val (ov_fieldA (p := 1) rfl Tryd.underlying168 rfl sz3 rfl rfl rfl) ?_
          refine al_val (ov_load (i := 2) (v := (int .i64 u17.Kind)) rfl rfl Tryd.underlying3 sz3 rfl rfl rfl rfl) ?_
          refine al_in rfl rfl rfl rfl ?_
          refine al_nt ?_
          refine aw_cond rfl (fun hb41 => ?_) (fun hb41 => ?_)
          ·replace h := bif_t hb41 h
           refine aw_sr ?_
           refine al_mv rfl rfl ?_
           refine al_mv rfl rfl ?_
           refine al_val (ov_fieldA (p := 5) rfl Tryd.underlying168 rfl sz27 rfl rfl rfl) ?_
           refine al_val (ov_load (i := 2) (v := s21) rfl rfl Tryd.underlying27 sz27 rfl rfl rfl rfl) ?_
           obtain ⟨u42, hu43, h⟩ := opt_some h
           refine al_idxD 3 hu43 rfl rfl rfl Tryd.underlying27 sz47 rfl (fun p44 => ?_)
           refine al_val (ov_loadP (ds := (cA8u8 u42)) 0 rfl encA8u8 rfl Tryd.underlying47 sz47 rfl rfl rfl) ?_
           refine al_mv rfl rfl ?_
           refine al_mv rfl rfl ?_
           obtain ⟨r46, hc45, h⟩ := opt_some h
           refine al_call (vs := [v0_0, v1_0, (ag (cA8u8 u42)), v31, v40]) (f_lumref_reapDir_own_ok fu v0_0 a0 v1_0 a1 u42 v31 (r28 ++ ([u17.Name])) v40 (l11x4 ++ ([(S_api_Item.mk (([47] : List UInt8) ++ r34) u17.Kind u17.Mode u17.Time j36s18_4)])) hc45) [3] [1] [0, 2, 3, 4, 5] (pre_fz 1 rfl (pre_fz 2 rfl (pre_own 3 rfl rfl pre_nil))) rfl (by simp) (by decide) (.inr (flat_res1 (fun _ => flat_row flatS_api_Item))) rfl Tryd.func59 rfl rfl rfl (fun v47 => ?_)
           refine al_mv rfl rfl ?_
           refine al_ex rfl rfl rfl ?_
           refine al_ex rfl rfl rfl ?_
           refine al_as rfl rfl ?_
           refine al_as rfl rfl ?_
           refine al_nt ?_
           refine aw_sr ?_
           refine al_mv rfl rfl ?_
           refine al_in rfl rfl rfl rfl ?_
           refine al_nt ?_
           refine aw_cond rfl (fun hb48 => ?_) (fun hb48 => ?_)
           ·replace h := bif_t hb48 h
            refine aw_sr ?_
            refine al_mv rfl rfl ?_
            refine al_as rfl rfl ?_
            refine al_as rfl rfl ?_
            refine al_nt ?_
            refine aw_ret ?_
            refine aq_block_ret ?_
            refine aq_then_ret ?_
            refine aq_then_ret ?_
            refine aq_block_ret ?_
            refine aq_then_ret ?_
            refine aq_nilR 42 tyS_api_Item ?_
            obtain rfl := Option.some.inj h
            exact fn_ret (Value.slice none 0 0) [0] [] rfl rfl rfl rfl (res2 rfl rfl rfl) rfl rfl rfl (by decide)
           ·replace h := bif_f hb48 h
            refine aw_skip ?_
            refine aq_block ?_
            exact aq_join (v47, r46.1) h (fun w a hm hs => norm hm hs [0, 5] [1, 2, 3] [(0, v0_0), (1, v1_0), (3, v3_0), (4, v47), (37, v7), (38, (int .i64 (r6.1.length : Int))), (39, (int .i64 l11i39))] (by decide) ⟨rfl, rfl, rfl, rfl, rfl, rfl, rfl, trivial⟩)
          ·replace h := bif_f hb41 h
           refine aw_skip ?_
           refine aq_block ?_
           exact aq_join (v40, (l11x4 ++ ([(S_api_Item.mk (([47] : List UInt8) ++ r34) u17.Kind u17.Mode u17.Time j36s18_4)]))) h (fun w a hm hs => norm hm hs [1, 5] [0, 1, 2] [(0, v0_0), (1, v1_0), (3, v3_0), (4, v40), (37, v7), (38, (int .i64 (r6.1.length : Int))), (39, (int .i64 l11i39))] (by decide) ⟨rfl, rfl, rfl, rfl, rfl, rfl, rfl, trivial⟩)
         ·clear hkk37
          refine aw_sr ?_
          refine al_val (ov_fieldA (p := 1) rfl Tryd.underlying168 rfl sz3 rfl rfl rfl) ?_
          refine al_val (ov_load (i := 3) (v := (int .i64 u17.Kind)) rfl rfl Tryd.underlying3 sz3 rfl rfl rfl rfl) ?_
          refine al_in rfl rfl rfl rfl ?_
          refine al_nt ?_
          refine aw_cond rfl (fun hb49 => ?_) (fun hb49 => ?_)
          ·replace h := bif_t hb49 h
           refine aw_sr ?_
           refine al_mv rfl rfl ?_
           refine al_mv rfl rfl ?_
           refine al_val (ov_load (i := 3) (v := (ag [(str u17.Name), (int .i64 u17.Kind), (int .i64 u17.Mode), (int .i64 u17.Time), (int .i64 u17.Size), s21, (str u17.Link)])) rfl rfl Tryd.underlying168 sz168 rfl rfl rfl rfl) ?_
           obtain ⟨r51, hc50, h⟩ := opt_some h
           refine al_call (vs := [v0_0, v1_0, (ag [(str u17.Name), (int .i64 u17.Kind), (int .i64 u17.Mode), (int .i64 u17.Time), (int .i64 u17.Size), s21, (str u17.Link)])]) (f_lumref_reapFile_ok fu v0_0 a0 v1_0 a1 s21 u17 hc50) [] [] [0, 1, 2, 3, 4, 5] (pre_fz 2 rfl (pre_fz 3 rfl (pre_fz 0 rfl pre_nil))) rfl (by simp) (by decide) (.inl rfl) rfl Tryd.func113 rfl rfl rfl (fun _ => ?_)
           refine al_mv rfl rfl ?_
           refine al_ex rfl rfl rfl ?_
           refine al_ex rfl rfl rfl ?_
           refine al_val (ov_fieldA (p := 4) rfl Tryd.underlying42 rfl sz9 rfl rfl rfl) ?_
           refine al_store (i := 0) (vs := [(str r51.1)]) (cs' := [(str (([47] : List UInt8) ++ r34)), (int .i64 u17.Kind), (int .i64 u17.Mode), (int .i64 u17.Time), (str r51.1)]) rfl rfl rfl sz9 (cv_rfl rfl) rfl (co_val rfl co_nil) (Nat.le_of_ble_eq_true rfl) rfl rfl ?_
           refine al_as rfl rfl ?_
           refine al_nt ?_
           refine aw_sr ?_
           refine al_mv rfl rfl ?_
           refine al_in rfl rfl rfl rfl ?_
           refine al_nt ?_
           refine aw_cond rfl (fun hb52 => ?_) (fun hb52 => ?_)
           ·replace h := bif_t hb52 h
            refine aw_sr ?_
            refine al_mv rfl rfl ?_
            refine al_as rfl rfl ?_
            refine al_as rfl rfl ?_
            refine al_nt ?_
            refine aw_ret ?_
            refine aq_then_ret ?_
            refine aq_block_ret ?_
            refine aq_then_ret ?_
            refine aq_then_ret ?_
            refine aq_block_ret ?_
            refine aq_then_ret ?_
            refine aq_nilR 42 tyS_api_Item ?_
            obtain rfl := Option.some.inj h
            exact fn_ret (Value.slice none 0 0) [0] [] rfl rfl rfl rfl (res2 rfl rfl rfl) rfl rfl rfl (by decide)
           ·replace h := bif_f hb52 h
            refine aw_skip ?_
            exact aq_join r51.1 h (fun w a hm hs => norm hm hs [4, 3, 2, 0, 5] [2, 3, 4, 0, 1] [(0, v0_0), (1, v1_0), (3, v3_0), (4, l11v4), (16, (ptr g23 0)), (17, v31), (18, (ptr g32 0)), (37, v7), (38, (int .i64 (r6.1.length : Int))), (39, (int .i64 l11i39))] (by decide) ⟨rfl, rfl, rfl, rfl, rfl, rfl, rfl, rfl, rfl, rfl, trivial⟩)
          ·replace h := bif_f hb49 h
           refine aw_skip ?_
           exact aq_join u17.Link h (fun w a hm hs => norm hm hs [4, 3, 2, 0, 5] [2, 3, 4, 0, 1] [(0, v0_0), (1, v1_0), (3, v3_0), (4, l11v4), (16, (ptr g23 0)), (17, v31), (18, (ptr g32 0)), (37, v7), (38, (int .i64 (r6.1.length : Int))), (39, (int .i64 l11i39))] (by decide) ⟨rfl, rfl, rfl, rfl, rfl, rfl, rfl, rfl, rfl, rfl, trivial⟩)
     ·replace h := bif_f hb14 h
      refine aw_exit ?_
      refine aq_then_exit ?_
      refine aq_then_exit ?_
      refine aq_block_exit ?_
      exact aq_join (l11v4, l11x4) h (fun w a hm hs => norm hm hs [0] [0, 1, 2] [(4, l11v4)] (by decide) ⟨rfl, trivial⟩)
def f_lumref_Reap_L30 (a0 : (List S_api_Blob)) (l8x6 : (List A8u8)) (l8i17 : Int) (u15 : S_api_Blob) (r20 : (A8u8 × Int)) (kk24 : (Unit → Option ((List S_api_Item) × Int))) : Nat → Int → Option ((List S_api_Item) × Int)
  | 0, _ => none
  | k29 + 1, l28i31 => (bif (decide (l28i31 < l8i17)) then (lt (fun (j32b47 : Bool) => (bif j32b47 then (some (([] : List S_api_Item), (11 : Int))) else (f_lumref_Reap_L30 a0 l8x6 l8i17 u15 r20 kk24 k29 (IntKind.i64.wrap (l28i31 + (1 : Int)))))) fun (kk33 : Bool → Option ((List S_api_Item) × Int)) => (opt (at? l8x6 l28i31) fun (u35 : A8u8) => (bif (u35 == r20.1) then (opt (at? a0 l28i31) fun (u40 : S_api_Blob) => (req ((Lit.int .i64 u40.Kind).wf = true) (req (u40.Bytes.length ≤ 9223372036854775807) (req ((Lit.int .i64 u15.Kind).wf = true) (req (u15.Bytes.length ≤ 9223372036854775807) (kk33 (!(u40 == u15)))))))) else (kk33 false)))) else (kk24 ()))
def f_lumref_Reap_L10 (a0 : (List S_api_Blob)) (kk4 : ((List A8u8) → Option ((List S_api_Item) × Int))) (fu : Nat) : Nat → (List A8u8) → Int → Option ((List S_api_Item) × Int)
  | 0, _, _ => none
  | k9 + 1, l8x6, l8i17 => (lt (fun (l8x6 : (List A8u8)) (l8i17 : Int) => (f_lumref_Reap_L10 a0 kk4 fu k9 l8x6 l8i17)) fun (kk11 : (List A8u8) → Int → Option ((List S_api_Item) × Int)) => (bif (decide (l8i17 < (a0.length : Int))) then (lt (fun (j13x6 : (List A8u8)) => (kk11 j13x6 (IntKind.i64.wrap (l8i17 + (1 : Int))))) fun (kk14 : (List A8u8) → Option ((List S_api_Item) × Int)) => (opt (at? a0 l8i17) fun (u15 : S_api_Blob) => (opt (f_lumref_BlobID fu u15) fun (r20 : (A8u8 × Int)) => (bif (r20.2 != (0 : Int)) then (some (([] : List S_api_Item), r20.2)) else (lt (fun (_ : Unit) => (req (((l8x6.length + ([r20.1]).length) * 8 : Nat) ≤ 140737488355328 ∧ l8x6.length + ([r20.1]).length ≤ 9223372036854775807) (kk14 (l8x6 ++ ([r20.1]))))) fun (kk24 : Unit → Option ((List S_api_Item) × Int)) => (f_lumref_Reap_L30 a0 l8x6 l8i17 u15 r20 kk24 fu (0 : Int))))))) else (kk4 l8x6)))
def f_lumref_Reap (fu : Nat) (a0 : (List S_api_Blob)) (a1 : A8u8) : Option ((List S_api_Item) × Int) := (bif (decide ((a0.length : Int) > (1000 : Int))) then (some (([] : List S_api_Item), (2 : Int))) else (lt (fun (j3x6 : (List A8u8)) => (opt (f_lumref_reapDir_own fu a0 j3x6 a1 ([] : (List (List UInt8))) ([] : List S_api_Item)) fun (r6 : ((List S_api_Item) × Int)) => (some (r6.1, r6.2)))) fun (kk4 : (List A8u8) → Option ((List S_api_Item) × Int)) => (f_lumref_Reap_L10 a0 kk4 fu fu ([] : List A8u8) (0 : Int))))
end Go.Proofs.YtgmggcpceemnnaaDoor
