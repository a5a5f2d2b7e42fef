/- Walks by program. No condition. -/
import Derived.Test.YtfhifdmbdkkgaaaDoorEn25
import Derived.Test.YtfhifdmbdkkgaaaDoorChecked
import Derived.Test.YtfhifdmbdkkgaaaDoorEn24
import Derived.Test.YtfhifdmbdkkgaaaDoorEn26
import Derived.Test.YtfhifdmbdkkgaaaDoorShTrim
import Derived.Test.YtfhifdmbdkkgaaaDoorShBEApp
import Derived.Test.YtfhifdmbdkkgaaaDoorEn25
import Derived.Test.YtfhifdmbdkkgaaaDoorShRepeat
import Derived.Test.YtfhifdmbdkkgaaaDoorEnS
import Derived.Test.YtfhifdmbdkkgaaaDoorWPressSays_b
namespace Go.Proofs.YtfhifdmbdkkgaaaDoor
open Go.RowKit YtfhifdmbdkkgaaaDoor.En
set_option linter.unusedVariables false
set_option linter.unusedSimpArgs false
open Go.Value (int bool)
set_option maxRecDepth 100000 in
theorem f___press_writer__put_ok (fu : Nat) (bx0 : Nat) (v0_0 : Value) (a0 : D_press_writer) (a1 : Int) (a2 : Int) {r : D_press_writer} (h : f___press_writer__put fu a0 a1 a2 = some r) : FnOk Tryd.prog 43 [(ptr bx0 0), (int .i64 a1), (int .i64 a2)] [] [(oBox bx0 79 [v0_0, (int .i64 a0.free)]), (oRow v0_0 5 tyU8 a0.out)] (fun (i : Value) => { val := (Value.tuple #[]), own := [(oBox bx0 79 [i, (int .i64 r.free)]), (oRow i 5 tyU8 r.out)] }) := by
 unfold f___press_writer__put at h
 refine fn_enter Tryd.func43 rfl Tryd.ntmps43 rfl (fun w0 Z0 => ?_)
 refine aw_sr ?_
 refine al_mv rfl rfl ?_
 refine al_in rfl rfl rfl rfl ?_
 refine al_as rfl rfl ?_
 refine al_nt ?_
 refine aw_block ?_
 refine aw_state (aw_loop (ι := Value × (List UInt8) × Int × Int) (fun i => (memOf w0 Z0 [(oBox bx0 79 [v0_0, (int .i64 a0.free)]), (oRow v0_0 5 tyU8 a0.out)] [(oRow i.1 5 tyU8 i.2.1), (oBox bx0 79 [i.1, (int .i64 i.2.2.1)])] [])) (fun i => (tab [(0, (ptr bx0 0)), (1, (int .i64 a1)), (6, (int .i64 i.2.2.2))])) (fun q i => f___press_writer__put_L3 a1 q i.2.1 i.2.2.1 i.2.2.2 = some r) ?_ fu (v0_0, a0.out, a0.free, (IntKind.i64.wrap (a2 - (1 : Int)))) h) (fun w a hm hs => norm hm hs [1, 0] [] [(0, (ptr bx0 0)), (1, (int .i64 a1)), (6, (int .i64 (IntKind.i64.wrap (a2 - (1 : Int)))))] (by decide) ⟨rfl, rfl, rfl, trivial⟩)
 clear h
 rintro k2 ⟨l1v0_0, l1x0_0, l1i0_1, l1i6⟩ h
 have h : f___press_writer__put_L3 a1 k2 l1x0_0 l1i0_1 l1i6 = some r := h
 obtain _ | k2 := k2
 · rw [f___press_writer__put_L3] at h; cases h
 rw [f___press_writer__put_L3] at h
 refine aw_show (m := (memOf w0 Z0 [(oBox bx0 79 [v0_0, (int .i64 a0.free)]), (oRow v0_0 5 tyU8 a0.out)] [(oRow l1v0_0 5 tyU8 l1x0_0), (oBox bx0 79 [l1v0_0, (int .i64 l1i0_1)])] [])) (S := (tab [(0, (ptr bx0 0)), (1, (int .i64 a1)), (6, (int .i64 l1i6))])) ?_
 refine aw_seq ?_
 refine aw_sr ?_
 refine al_mv rfl rfl ?_
 refine al_in rfl rfl rfl rfl ?_
 refine al_nt ?_
 refine aw_cond rfl (fun hb4 => ?_) (fun hb4 => ?_)
 ·replace h := bif_t hb4 h
  refine aw_skip ?_
  refine aq_then ?_
  refine aw_seq ?_
  refine aw_block ?_
  obtain ⟨kk6, hkk6, h⟩ := lt_some h
  refine aw_seq_join (ι := Value × (List UInt8) × Int) (fun i => (memOf w0 Z0 [(oBox bx0 79 [v0_0, (int .i64 a0.free)]), (oRow v0_0 5 tyU8 a0.out)] [(oRow i.1 5 tyU8 i.2.1), (oBox bx0 79 [i.1, (int .i64 i.2.2)])] [])) (fun i => (tab [(0, (ptr bx0 0)), (1, (int .i64 a1)), (6, (int .i64 l1i6))])) (fun i => kk6 i.2.1 i.2.2 = some r) ?_ ?_
  ·rintro ⟨j5v0_0, j5x0_0, j5i0_1⟩ h
   have h : kk6 j5x0_0 j5i0_1 = some r := h
   rw [hkk6] at h
   dsimp only at h
   clear hkk6
   refine aw_show (m := (memOf w0 Z0 [(oBox bx0 79 [v0_0, (int .i64 a0.free)]), (oRow v0_0 5 tyU8 a0.out)] [(oRow j5v0_0 5 tyU8 j5x0_0), (oBox bx0 79 [j5v0_0, (int .i64 j5i0_1)])] [])) (S := (tab [(0, (ptr bx0 0)), (1, (int .i64 a1)), (6, (int .i64 l1i6))])) ?_
   refine aw_sr ?_
   refine al_mv rfl rfl ?_
   refine al_val (ov_nilCheck rfl rfl) ?_
   refine al_val (ov_fieldA (p := 1) rfl Tryd.underlying79 rfl sz3 rfl rfl rfl) ?_
   refine al_val (ov_load (i := 1) (v := (int .i64 j5i0_1)) rfl rfl Tryd.underlying3 sz3 rfl rfl rfl rfl) ?_
   refine al_in rfl rfl rfl rfl ?_
   refine al_val (ov_nilCheck rfl rfl) ?_
   refine al_val (ov_fieldA (p := 1) rfl Tryd.underlying79 rfl sz3 rfl rfl rfl) ?_
   refine al_store (i := 1) (vs := [(int .i64 (IntKind.i64.wrap (j5i0_1 - (1 : Int))))]) (cs' := [j5v0_0, (int .i64 (IntKind.i64.wrap (j5i0_1 - (1 : Int))))]) rfl rfl rfl sz3 (cv_rfl rfl) rfl (co_val rfl co_nil) (Nat.le_of_ble_eq_true rfl) rfl rfl ?_
   refine al_nt ?_
   obtain ⟨u7, hu8, h⟩ := opt_some h
   obtain ⟨hc11, h⟩ := req_some h
   obtain ⟨hc12, h⟩ := req_some h
   obtain ⟨u13, hu14, h⟩ := opt_some h
   refine aw_region_open [⟨0, 37, Unit, fun _ => { val := (ptr bx0 0) }⟩, ⟨1, 38, Unit, fun _ => { val := (ptr bx0 0) }⟩, ⟨2, 39, Unit, fun _ => { val := (ptr bx0 0) }⟩, ⟨3, 40, Unit, fun _ => { val := j5v0_0 }⟩, ⟨4, 41, Unit, fun _ => { val := (ptr bx0 0) }⟩, ⟨5, 42, Unit, fun _ => { val := (ptr bx0 0) }⟩, ⟨6, 43, Unit, fun _ => { val := (ptr bx0 0) }⟩, ⟨7, 44, Unit, fun _ => { val := j5v0_0 }⟩, ⟨8, 45, Unit, fun _ => { val := (int .i64 (j5x0_0.length : Int)) }⟩, ⟨9, 46, Unit, fun _ => { val := (int .i64 (IntKind.i64.wrap ((j5x0_0.length : Int) - (1 : Int)))) }⟩, ⟨10, 47, {p : Value // EltOf j5v0_0 p (((IntKind.i64.wrap ((j5x0_0.length : Int) - (1 : Int)))).toNat * Ty.size tyU8)}, fun p => { val := p.1 }⟩, ⟨11, 48, Unit, fun _ => { val := (int .u8 (u7.toNat : Int)) }⟩, ⟨12, 49, Unit, fun _ => { val := (int .i64 a1) }⟩, ⟨13, 50, Unit, fun _ => { val := (int .i64 l1i6) }⟩, ⟨14, 51, Unit, fun _ => { val := (int .i64 ((a1).fdiv (2 ^ min (l1i6).toNat (IntKind.bits .i64)))) }⟩, ⟨15, 52, Unit, fun _ => { val := (int .i64 (bits .and .i64 ((a1).fdiv (2 ^ min (l1i6).toNat (IntKind.bits .i64))) (1 : Int))) }⟩, ⟨16, 53, Unit, fun _ => { val := (int .u8 (IntKind.u8.wrap (bits .and .i64 ((a1).fdiv (2 ^ min (l1i6).toNat (IntKind.bits .i64))) (1 : Int)))) }⟩, ⟨17, 54, Unit, fun _ => { val := (ptr bx0 0) }⟩, ⟨18, 55, Unit, fun _ => { val := (ptr bx0 0) }⟩, ⟨19, 56, Unit, fun _ => { val := (ptr bx0 1) }⟩, ⟨20, 57, Unit, fun _ => { val := (int .i64 (IntKind.i64.wrap (j5i0_1 - (1 : Int)))) }⟩, ⟨21, 58, Unit, fun _ => { val := (int .u8 (IntKind.u8.wrap ((IntKind.u8.wrap (bits .and .i64 ((a1).fdiv (2 ^ min (l1i6).toNat (IntKind.bits .i64))) (1 : Int))) * 2 ^ min ((IntKind.i64.wrap (j5i0_1 - (1 : Int)))).toNat (IntKind.bits .u8)))) }⟩, ⟨22, 59, Unit, fun _ => { val := (int .u8 (bits .or .u8 (u7.toNat : Int) (IntKind.u8.wrap ((IntKind.u8.wrap (bits .and .i64 ((a1).fdiv (2 ^ min (l1i6).toNat (IntKind.bits .i64))) (1 : Int))) * 2 ^ min ((IntKind.i64.wrap (j5i0_1 - (1 : Int)))).toNat (IntKind.bits .u8))))) }⟩, ⟨23, 60, {p : Value // EltOf j5v0_0 p (((IntKind.i64.wrap ((j5x0_0.length : Int) - (1 : Int)))).toNat * Ty.size tyU8)}, fun p => { val := p.1 }⟩] (tab [(0, (ptr bx0 0)), (1, (int .i64 a1)), (6, (int .i64 l1i6))]) mixed (fun a hs => hs.tab _ (allT_mem ⟨rfl, rfl, rfl, trivial⟩)) ?_
   refine ta_show (m := (memOf w0 Z0 [(oBox bx0 79 [v0_0, (int .i64 a0.free)]), (oRow v0_0 5 tyU8 a0.out)] [(oRow j5v0_0 5 tyU8 j5x0_0), (oBox bx0 79 [j5v0_0, (int .i64 (IntKind.i64.wrap (j5i0_1 - (1 : Int))))])] [])) (S := (tab [(0, (ptr bx0 0)), (1, (int .i64 a1)), (6, (int .i64 l1i6))])) ?_
   refine ta_step 24 _ [0, 1, 2, 3, 4, 5, 6, 7, 8, 9, 10, 11, 12, 13, 14, 15, 16, 17, 18, 19, 20, 21, 22, 23] [37, 38, 39, 40, 41, 42, 43, 44, 45, 46, 47, 48, 49, 50, 51, 52, 53, 54, 55, 56, 57, 58, 59, 60] [0, 1, 2, 3, 4, 5, 6, 7, 8, 9, 10, 11, 12, 13, 14, 15, 16, 17, 18, 19, 20, 21, 22, 23] [] [⟨0, 37, Unit, fun _ => { val := (ptr bx0 0) }⟩, ⟨1, 38, Unit, fun _ => { val := (ptr bx0 0) }⟩, ⟨2, 39, Unit, fun _ => { val := (ptr bx0 0) }⟩, ⟨3, 40, Unit, fun _ => { val := j5v0_0 }⟩, ⟨4, 41, Unit, fun _ => { val := (ptr bx0 0) }⟩, ⟨5, 42, Unit, fun _ => { val := (ptr bx0 0) }⟩, ⟨6, 43, Unit, fun _ => { val := (ptr bx0 0) }⟩, ⟨7, 44, Unit, fun _ => { val := j5v0_0 }⟩, ⟨8, 45, Unit, fun _ => { val := (int .i64 (j5x0_0.length : Int)) }⟩, ⟨9, 46, Unit, fun _ => { val := (int .i64 (IntKind.i64.wrap ((j5x0_0.length : Int) - (1 : Int)))) }⟩, ⟨10, 47, {p : Value // EltOf j5v0_0 p (((IntKind.i64.wrap ((j5x0_0.length : Int) - (1 : Int)))).toNat * Ty.size tyU8)}, fun p => { val := p.1 }⟩, ⟨11, 48, Unit, fun _ => { val := (int .u8 (u7.toNat : Int)) }⟩, ⟨12, 49, Unit, fun _ => { val := (int .i64 a1) }⟩, ⟨13, 50, Unit, fun _ => { val := (int .i64 l1i6) }⟩, ⟨14, 51, Unit, fun _ => { val := (int .i64 ((a1).fdiv (2 ^ min (l1i6).toNat (IntKind.bits .i64)))) }⟩, ⟨15, 52, Unit, fun _ => { val := (int .i64 (bits .and .i64 ((a1).fdiv (2 ^ min (l1i6).toNat (IntKind.bits .i64))) (1 : Int))) }⟩, ⟨16, 53, Unit, fun _ => { val := (int .u8 (IntKind.u8.wrap (bits .and .i64 ((a1).fdiv (2 ^ min (l1i6).toNat (IntKind.bits .i64))) (1 : Int)))) }⟩, ⟨17, 54, Unit, fun _ => { val := (ptr bx0 0) }⟩, ⟨18, 55, Unit, fun _ => { val := (ptr bx0 0) }⟩, ⟨19, 56, Unit, fun _ => { val := (ptr bx0 1) }⟩, ⟨20, 57, Unit, fun _ => { val := (int .i64 (IntKind.i64.wrap (j5i0_1 - (1 : Int)))) }⟩, ⟨21, 58, Unit, fun _ => { val := (int .u8 (IntKind.u8.wrap ((IntKind.u8.wrap (bits .and .i64 ((a1).fdiv (2 ^ min (l1i6).toNat (IntKind.bits .i64))) (1 : Int))) * 2 ^ min ((IntKind.i64.wrap (j5i0_1 - (1 : Int)))).toNat (IntKind.bits .u8)))) }⟩, ⟨22, 59, Unit, fun _ => { val := (int .u8 (bits .or .u8 (u7.toNat : Int) (IntKind.u8.wrap ((IntKind.u8.wrap (bits .and .i64 ((a1).fdiv (2 ^ min (l1i6).toNat (IntKind.bits .i64))) (1 : Int))) * 2 ^ min ((IntKind.i64.wrap (j5i0_1 - (1 : Int)))).toNat (IntKind.bits .u8))))) }⟩, ⟨23, 60, {p : Value // EltOf j5v0_0 p (((IntKind.i64.wrap ((j5x0_0.length : Int) - (1 : Int)))).toNat * Ty.size tyU8)}, fun p => { val := p.1 }⟩] [] rfl rfl rfl (by kernel_rfl) rfl rfl rfl ⟨⟨_, rfl, [], rfl, by
 intro X_ Y_ F_ K_ hK_
 refine al_show (m := Mem.plus (memOf w0 Z0 [(oBox bx0 79 [v0_0, (int .i64 a0.free)]), (oRow v0_0 5 tyU8 a0.out)] [(oRow j5v0_0 5 tyU8 j5x0_0), (oBox bx0 79 [j5v0_0, (int .i64 (IntKind.i64.wrap (j5i0_1 - (1 : Int))))])] []) X_ Y_) (S := over (tab [(0, (ptr bx0 0)), (1, (int .i64 a1)), (6, (int .i64 l1i6))]) F_) ?_
 refine al_mv rfl rfl ?_
 refine al_nil ?_
 exact fr_fin hK_ ()⟩, ⟨_, rfl, [0], rfl, by
 intro _
 intro X_ Y_ F_ K_ hK_
 refine al_show (m := Mem.plus (memOf w0 Z0 [(oBox bx0 79 [v0_0, (int .i64 a0.free)]), (oRow v0_0 5 tyU8 a0.out)] [(oRow j5v0_0 5 tyU8 j5x0_0), (oBox bx0 79 [j5v0_0, (int .i64 (IntKind.i64.wrap (j5i0_1 - (1 : Int))))])] []) X_ Y_) (S := over (put (tab [(0, (ptr bx0 0)), (1, (int .i64 a1)), (6, (int .i64 l1i6))]) 37 (ptr bx0 0)) F_) ?_
 refine al_val (ov_nilCheck rfl rfl) ?_
 refine al_nil ?_
 exact fr_fin hK_ ()⟩, ⟨_, rfl, [1], rfl, by
 intro _
 intro X_ Y_ F_ K_ hK_
 refine al_show (m := Mem.plus (memOf w0 Z0 [(oBox bx0 79 [v0_0, (int .i64 a0.free)]), (oRow v0_0 5 tyU8 a0.out)] [(oRow j5v0_0 5 tyU8 j5x0_0), (oBox bx0 79 [j5v0_0, (int .i64 (IntKind.i64.wrap (j5i0_1 - (1 : Int))))])] []) X_ Y_) (S := over (put (tab [(0, (ptr bx0 0)), (1, (int .i64 a1)), (6, (int .i64 l1i6))]) 38 (ptr bx0 0)) F_) ?_
 refine al_val (ov_fieldA (p := 0) rfl Tryd.underlying79 rfl sz74 rfl rfl rfl) ?_
 refine al_nil ?_
 exact fr_fin hK_ ()⟩, ⟨_, rfl, [2], rfl, by
 intro _
 intro X_ Y_ F_ K_ hK_
 refine al_show (m := Mem.plus (memOf w0 Z0 [(oBox bx0 79 [v0_0, (int .i64 a0.free)]), (oRow v0_0 5 tyU8 a0.out)] [(oRow j5v0_0 5 tyU8 j5x0_0), (oBox bx0 79 [j5v0_0, (int .i64 (IntKind.i64.wrap (j5i0_1 - (1 : Int))))])] []) X_ Y_) (S := over (put (tab [(0, (ptr bx0 0)), (1, (int .i64 a1)), (6, (int .i64 l1i6))]) 39 (ptr bx0 0)) F_) ?_
 refine al_val (ov_load (i := 1) (v := j5v0_0) rfl rfl Tryd.underlying74 sz74 rfl rfl rfl rfl) ?_
 refine al_nil ?_
 exact fr_fin hK_ ()⟩, ⟨_, rfl, [], rfl, by
 intro X_ Y_ F_ K_ hK_
 refine al_show (m := Mem.plus (memOf w0 Z0 [(oBox bx0 79 [v0_0, (int .i64 a0.free)]), (oRow v0_0 5 tyU8 a0.out)] [(oRow j5v0_0 5 tyU8 j5x0_0), (oBox bx0 79 [j5v0_0, (int .i64 (IntKind.i64.wrap (j5i0_1 - (1 : Int))))])] []) X_ Y_) (S := over (tab [(0, (ptr bx0 0)), (1, (int .i64 a1)), (6, (int .i64 l1i6))]) F_) ?_
 refine al_mv rfl rfl ?_
 refine al_nil ?_
 exact fr_fin hK_ ()⟩, ⟨_, rfl, [4], rfl, by
 intro _
 intro X_ Y_ F_ K_ hK_
 refine al_show (m := Mem.plus (memOf w0 Z0 [(oBox bx0 79 [v0_0, (int .i64 a0.free)]), (oRow v0_0 5 tyU8 a0.out)] [(oRow j5v0_0 5 tyU8 j5x0_0), (oBox bx0 79 [j5v0_0, (int .i64 (IntKind.i64.wrap (j5i0_1 - (1 : Int))))])] []) X_ Y_) (S := over (put (tab [(0, (ptr bx0 0)), (1, (int .i64 a1)), (6, (int .i64 l1i6))]) 41 (ptr bx0 0)) F_) ?_
 refine al_val (ov_nilCheck rfl rfl) ?_
 refine al_nil ?_
 exact fr_fin hK_ ()⟩, ⟨_, rfl, [5], rfl, by
 intro _
 intro X_ Y_ F_ K_ hK_
 refine al_show (m := Mem.plus (memOf w0 Z0 [(oBox bx0 79 [v0_0, (int .i64 a0.free)]), (oRow v0_0 5 tyU8 a0.out)] [(oRow j5v0_0 5 tyU8 j5x0_0), (oBox bx0 79 [j5v0_0, (int .i64 (IntKind.i64.wrap (j5i0_1 - (1 : Int))))])] []) X_ Y_) (S := over (put (tab [(0, (ptr bx0 0)), (1, (int .i64 a1)), (6, (int .i64 l1i6))]) 42 (ptr bx0 0)) F_) ?_
 refine al_val (ov_fieldA (p := 0) rfl Tryd.underlying79 rfl sz74 rfl rfl rfl) ?_
 refine al_nil ?_
 exact fr_fin hK_ ()⟩, ⟨_, rfl, [6], rfl, by
 intro _
 intro X_ Y_ F_ K_ hK_
 refine al_show (m := Mem.plus (memOf w0 Z0 [(oBox bx0 79 [v0_0, (int .i64 a0.free)]), (oRow v0_0 5 tyU8 a0.out)] [(oRow j5v0_0 5 tyU8 j5x0_0), (oBox bx0 79 [j5v0_0, (int .i64 (IntKind.i64.wrap (j5i0_1 - (1 : Int))))])] []) X_ Y_) (S := over (put (tab [(0, (ptr bx0 0)), (1, (int .i64 a1)), (6, (int .i64 l1i6))]) 43 (ptr bx0 0)) F_) ?_
 refine al_val (ov_load (i := 1) (v := j5v0_0) rfl rfl Tryd.underlying74 sz74 rfl rfl rfl rfl) ?_
 refine al_nil ?_
 exact fr_fin hK_ ()⟩, ⟨_, rfl, [7], rfl, by
 intro _
 intro X_ Y_ F_ K_ hK_
 refine al_show (m := Mem.plus (memOf w0 Z0 [(oBox bx0 79 [v0_0, (int .i64 a0.free)]), (oRow v0_0 5 tyU8 a0.out)] [(oRow j5v0_0 5 tyU8 j5x0_0), (oBox bx0 79 [j5v0_0, (int .i64 (IntKind.i64.wrap (j5i0_1 - (1 : Int))))])] []) X_ Y_) (S := over (put (tab [(0, (ptr bx0 0)), (1, (int .i64 a1)), (6, (int .i64 l1i6))]) 44 j5v0_0) F_) ?_
 refine al_val (ov_lenR 0 rfl rfl Tryd.underlying74 rfl) ?_
 refine al_nil ?_
 exact fr_fin hK_ ()⟩, ⟨_, rfl, [8], rfl, by
 intro _
 intro X_ Y_ F_ K_ hK_
 refine al_show (m := Mem.plus (memOf w0 Z0 [(oBox bx0 79 [v0_0, (int .i64 a0.free)]), (oRow v0_0 5 tyU8 a0.out)] [(oRow j5v0_0 5 tyU8 j5x0_0), (oBox bx0 79 [j5v0_0, (int .i64 (IntKind.i64.wrap (j5i0_1 - (1 : Int))))])] []) X_ Y_) (S := over (put (tab [(0, (ptr bx0 0)), (1, (int .i64 a1)), (6, (int .i64 l1i6))]) 45 (int .i64 (j5x0_0.length : Int))) F_) ?_
 refine al_in rfl rfl rfl rfl ?_
 refine al_nil ?_
 exact fr_fin hK_ ()⟩, ⟨_, rfl, [3, 9], rfl, by
 intro _
 intro _
 intro X_ Y_ F_ K_ hK_
 refine al_show (m := Mem.plus (memOf w0 Z0 [(oBox bx0 79 [v0_0, (int .i64 a0.free)]), (oRow v0_0 5 tyU8 a0.out)] [(oRow j5v0_0 5 tyU8 j5x0_0), (oBox bx0 79 [j5v0_0, (int .i64 (IntKind.i64.wrap (j5i0_1 - (1 : Int))))])] []) X_ Y_) (S := over (put (put (tab [(0, (ptr bx0 0)), (1, (int .i64 a1)), (6, (int .i64 l1i6))]) 40 j5v0_0) 46 (int .i64 (IntKind.i64.wrap ((j5x0_0.length : Int) - (1 : Int))))) F_) ?_
 refine al_idxR 0 (at_some hu8).1 (at_some hu8).2.1 rfl rfl rfl Tryd.underlying74 sz5 rfl (fun p9 hp10 => ?_)
 refine al_nil ?_
 exact fr_fin hK_ ⟨p9, hp10⟩⟩, ⟨_, rfl, [10], rfl, by
 rintro ⟨p9, hp10⟩
 intro X_ Y_ F_ K_ hK_
 refine al_show (m := Mem.plus (memOf w0 Z0 [(oBox bx0 79 [v0_0, (int .i64 a0.free)]), (oRow v0_0 5 tyU8 a0.out)] [(oRow j5v0_0 5 tyU8 j5x0_0), (oBox bx0 79 [j5v0_0, (int .i64 (IntKind.i64.wrap (j5i0_1 - (1 : Int))))])] []) X_ Y_) (S := over (put (tab [(0, (ptr bx0 0)), (1, (int .i64 a1)), (6, (int .i64 l1i6))]) 47 p9) F_) ?_
 refine al_val (ov_loadR (ds := [(int .u8 (u7.toNat : Int))]) 0 rfl hp10 (at_some hu8).2.2 (fun h => h) rfl Tryd.underlying5 sz5 rfl rfl rfl) ?_
 refine al_nil ?_
 exact fr_fin hK_ ()⟩, ⟨_, rfl, [], rfl, by
 intro X_ Y_ F_ K_ hK_
 refine al_show (m := Mem.plus (memOf w0 Z0 [(oBox bx0 79 [v0_0, (int .i64 a0.free)]), (oRow v0_0 5 tyU8 a0.out)] [(oRow j5v0_0 5 tyU8 j5x0_0), (oBox bx0 79 [j5v0_0, (int .i64 (IntKind.i64.wrap (j5i0_1 - (1 : Int))))])] []) X_ Y_) (S := over (tab [(0, (ptr bx0 0)), (1, (int .i64 a1)), (6, (int .i64 l1i6))]) F_) ?_
 refine al_mv rfl rfl ?_
 refine al_nil ?_
 exact fr_fin hK_ ()⟩, ⟨_, rfl, [], rfl, by
 intro X_ Y_ F_ K_ hK_
 refine al_show (m := Mem.plus (memOf w0 Z0 [(oBox bx0 79 [v0_0, (int .i64 a0.free)]), (oRow v0_0 5 tyU8 a0.out)] [(oRow j5v0_0 5 tyU8 j5x0_0), (oBox bx0 79 [j5v0_0, (int .i64 (IntKind.i64.wrap (j5i0_1 - (1 : Int))))])] []) X_ Y_) (S := over (tab [(0, (ptr bx0 0)), (1, (int .i64 a1)), (6, (int .i64 l1i6))]) F_) ?_
 refine al_mv rfl rfl ?_
 refine al_nil ?_
 exact fr_fin hK_ ()⟩, ⟨_, rfl, [12, 13], rfl, by
 intro _
 intro _
 intro X_ Y_ F_ K_ hK_
 refine al_show (m := Mem.plus (memOf w0 Z0 [(oBox bx0 79 [v0_0, (int .i64 a0.free)]), (oRow v0_0 5 tyU8 a0.out)] [(oRow j5v0_0 5 tyU8 j5x0_0), (oBox bx0 79 [j5v0_0, (int .i64 (IntKind.i64.wrap (j5i0_1 - (1 : Int))))])] []) X_ Y_) (S := over (put (put (tab [(0, (ptr bx0 0)), (1, (int .i64 a1)), (6, (int .i64 l1i6))]) 49 (int .i64 a1)) 50 (int .i64 l1i6)) F_) ?_
 refine al_val (ov_shr hc11 rfl rfl rfl) ?_
 refine al_nil ?_
 exact fr_fin hK_ ()⟩, ⟨_, rfl, [14], rfl, by
 intro _
 intro X_ Y_ F_ K_ hK_
 refine al_show (m := Mem.plus (memOf w0 Z0 [(oBox bx0 79 [v0_0, (int .i64 a0.free)]), (oRow v0_0 5 tyU8 a0.out)] [(oRow j5v0_0 5 tyU8 j5x0_0), (oBox bx0 79 [j5v0_0, (int .i64 (IntKind.i64.wrap (j5i0_1 - (1 : Int))))])] []) X_ Y_) (S := over (put (tab [(0, (ptr bx0 0)), (1, (int .i64 a1)), (6, (int .i64 l1i6))]) 51 (int .i64 ((a1).fdiv (2 ^ min (l1i6).toNat (IntKind.bits .i64))))) F_) ?_
 refine al_in rfl rfl rfl rfl ?_
 refine al_nil ?_
 exact fr_fin hK_ ()⟩, ⟨_, rfl, [15], rfl, by
 intro _
 intro X_ Y_ F_ K_ hK_
 refine al_show (m := Mem.plus (memOf w0 Z0 [(oBox bx0 79 [v0_0, (int .i64 a0.free)]), (oRow v0_0 5 tyU8 a0.out)] [(oRow j5v0_0 5 tyU8 j5x0_0), (oBox bx0 79 [j5v0_0, (int .i64 (IntKind.i64.wrap (j5i0_1 - (1 : Int))))])] []) X_ Y_) (S := over (put (tab [(0, (ptr bx0 0)), (1, (int .i64 a1)), (6, (int .i64 l1i6))]) 52 (int .i64 (bits .and .i64 ((a1).fdiv (2 ^ min (l1i6).toNat (IntKind.bits .i64))) (1 : Int)))) F_) ?_
 refine al_val (ov_convInt (by rw [Tryd.underlying3]; rfl) Tryd.underlying5 rfl rfl) ?_
 refine al_nil ?_
 exact fr_fin hK_ ()⟩, ⟨_, rfl, [], rfl, by
 intro X_ Y_ F_ K_ hK_
 refine al_show (m := Mem.plus (memOf w0 Z0 [(oBox bx0 79 [v0_0, (int .i64 a0.free)]), (oRow v0_0 5 tyU8 a0.out)] [(oRow j5v0_0 5 tyU8 j5x0_0), (oBox bx0 79 [j5v0_0, (int .i64 (IntKind.i64.wrap (j5i0_1 - (1 : Int))))])] []) X_ Y_) (S := over (tab [(0, (ptr bx0 0)), (1, (int .i64 a1)), (6, (int .i64 l1i6))]) F_) ?_
 refine al_mv rfl rfl ?_
 refine al_nil ?_
 exact fr_fin hK_ ()⟩, ⟨_, rfl, [17], rfl, by
 intro _
 intro X_ Y_ F_ K_ hK_
 refine al_show (m := Mem.plus (memOf w0 Z0 [(oBox bx0 79 [v0_0, (int .i64 a0.free)]), (oRow v0_0 5 tyU8 a0.out)] [(oRow j5v0_0 5 tyU8 j5x0_0), (oBox bx0 79 [j5v0_0, (int .i64 (IntKind.i64.wrap (j5i0_1 - (1 : Int))))])] []) X_ Y_) (S := over (put (tab [(0, (ptr bx0 0)), (1, (int .i64 a1)), (6, (int .i64 l1i6))]) 54 (ptr bx0 0)) F_) ?_
 refine al_val (ov_nilCheck rfl rfl) ?_
 refine al_nil ?_
 exact fr_fin hK_ ()⟩, ⟨_, rfl, [18], rfl, by
 intro _
 intro X_ Y_ F_ K_ hK_
 refine al_show (m := Mem.plus (memOf w0 Z0 [(oBox bx0 79 [v0_0, (int .i64 a0.free)]), (oRow v0_0 5 tyU8 a0.out)] [(oRow j5v0_0 5 tyU8 j5x0_0), (oBox bx0 79 [j5v0_0, (int .i64 (IntKind.i64.wrap (j5i0_1 - (1 : Int))))])] []) X_ Y_) (S := over (put (tab [(0, (ptr bx0 0)), (1, (int .i64 a1)), (6, (int .i64 l1i6))]) 55 (ptr bx0 0)) F_) ?_
 refine al_val (ov_fieldA (p := 1) rfl Tryd.underlying79 rfl sz3 rfl rfl rfl) ?_
 refine al_nil ?_
 exact fr_fin hK_ ()⟩, ⟨_, rfl, [19], rfl, by
 intro _
 intro X_ Y_ F_ K_ hK_
 refine al_show (m := Mem.plus (memOf w0 Z0 [(oBox bx0 79 [v0_0, (int .i64 a0.free)]), (oRow v0_0 5 tyU8 a0.out)] [(oRow j5v0_0 5 tyU8 j5x0_0), (oBox bx0 79 [j5v0_0, (int .i64 (IntKind.i64.wrap (j5i0_1 - (1 : Int))))])] []) X_ Y_) (S := over (put (tab [(0, (ptr bx0 0)), (1, (int .i64 a1)), (6, (int .i64 l1i6))]) 56 (ptr bx0 1)) F_) ?_
 refine al_val (ov_load (i := 1) (v := (int .i64 (IntKind.i64.wrap (j5i0_1 - (1 : Int))))) rfl rfl Tryd.underlying3 sz3 rfl rfl rfl rfl) ?_
 refine al_nil ?_
 exact fr_fin hK_ ()⟩, ⟨_, rfl, [16, 20], rfl, by
 intro _
 intro _
 intro X_ Y_ F_ K_ hK_
 refine al_show (m := Mem.plus (memOf w0 Z0 [(oBox bx0 79 [v0_0, (int .i64 a0.free)]), (oRow v0_0 5 tyU8 a0.out)] [(oRow j5v0_0 5 tyU8 j5x0_0), (oBox bx0 79 [j5v0_0, (int .i64 (IntKind.i64.wrap (j5i0_1 - (1 : Int))))])] []) X_ Y_) (S := over (put (put (tab [(0, (ptr bx0 0)), (1, (int .i64 a1)), (6, (int .i64 l1i6))]) 53 (int .u8 (IntKind.u8.wrap (bits .and .i64 ((a1).fdiv (2 ^ min (l1i6).toNat (IntKind.bits .i64))) (1 : Int))))) 57 (int .i64 (IntKind.i64.wrap (j5i0_1 - (1 : Int))))) F_) ?_
 refine al_val (ov_shl hc12 rfl rfl rfl) ?_
 refine al_nil ?_
 exact fr_fin hK_ ()⟩, ⟨_, rfl, [11, 21], rfl, by
 intro _
 intro _
 intro X_ Y_ F_ K_ hK_
 refine al_show (m := Mem.plus (memOf w0 Z0 [(oBox bx0 79 [v0_0, (int .i64 a0.free)]), (oRow v0_0 5 tyU8 a0.out)] [(oRow j5v0_0 5 tyU8 j5x0_0), (oBox bx0 79 [j5v0_0, (int .i64 (IntKind.i64.wrap (j5i0_1 - (1 : Int))))])] []) X_ Y_) (S := over (put (put (tab [(0, (ptr bx0 0)), (1, (int .i64 a1)), (6, (int .i64 l1i6))]) 48 (int .u8 (u7.toNat : Int))) 58 (int .u8 (IntKind.u8.wrap ((IntKind.u8.wrap (bits .and .i64 ((a1).fdiv (2 ^ min (l1i6).toNat (IntKind.bits .i64))) (1 : Int))) * 2 ^ min ((IntKind.i64.wrap (j5i0_1 - (1 : Int)))).toNat (IntKind.bits .u8))))) F_) ?_
 refine al_in rfl rfl rfl rfl ?_
 refine al_nil ?_
 exact fr_fin hK_ ()⟩, ⟨_, rfl, [0, 1, 2, 3, 4, 5, 6, 7, 8, 9, 10, 11, 12, 13, 14, 15, 16, 17, 18, 19, 20, 21, 22], rfl, by
 intro _
 intro _
 intro _
 intro _
 intro _
 intro _
 intro _
 intro _
 intro _
 intro _
 rintro ⟨p9, hp10⟩
 intro _
 intro _
 intro _
 intro _
 intro _
 intro _
 intro _
 intro _
 intro _
 intro _
 intro _
 intro _
 intro X_ Y_ F_ K_ hK_
 refine al_show (m := Mem.plus (memOf w0 Z0 [(oBox bx0 79 [v0_0, (int .i64 a0.free)]), (oRow v0_0 5 tyU8 a0.out)] [(oRow j5v0_0 5 tyU8 j5x0_0), (oBox bx0 79 [j5v0_0, (int .i64 (IntKind.i64.wrap (j5i0_1 - (1 : Int))))])] []) X_ Y_) (S := over (put (put (put (put (put (put (put (put (put (put (put (put (put (put (put (put (put (put (put (put (put (put (put (tab [(0, (ptr bx0 0)), (1, (int .i64 a1)), (6, (int .i64 l1i6))]) 37 (ptr bx0 0)) 38 (ptr bx0 0)) 39 (ptr bx0 0)) 40 j5v0_0) 41 (ptr bx0 0)) 42 (ptr bx0 0)) 43 (ptr bx0 0)) 44 j5v0_0) 45 (int .i64 (j5x0_0.length : Int))) 46 (int .i64 (IntKind.i64.wrap ((j5x0_0.length : Int) - (1 : Int))))) 47 p9) 48 (int .u8 (u7.toNat : Int))) 49 (int .i64 a1)) 50 (int .i64 l1i6)) 51 (int .i64 ((a1).fdiv (2 ^ min (l1i6).toNat (IntKind.bits .i64))))) 52 (int .i64 (bits .and .i64 ((a1).fdiv (2 ^ min (l1i6).toNat (IntKind.bits .i64))) (1 : Int)))) 53 (int .u8 (IntKind.u8.wrap (bits .and .i64 ((a1).fdiv (2 ^ min (l1i6).toNat (IntKind.bits .i64))) (1 : Int))))) 54 (ptr bx0 0)) 55 (ptr bx0 0)) 56 (ptr bx0 1)) 57 (int .i64 (IntKind.i64.wrap (j5i0_1 - (1 : Int))))) 58 (int .u8 (IntKind.u8.wrap ((IntKind.u8.wrap (bits .and .i64 ((a1).fdiv (2 ^ min (l1i6).toNat (IntKind.bits .i64))) (1 : Int))) * 2 ^ min ((IntKind.i64.wrap (j5i0_1 - (1 : Int)))).toNat (IntKind.bits .u8))))) 59 (int .u8 (bits .or .u8 (u7.toNat : Int) (IntKind.u8.wrap ((IntKind.u8.wrap (bits .and .i64 ((a1).fdiv (2 ^ min (l1i6).toNat (IntKind.bits .i64))) (1 : Int))) * 2 ^ min ((IntKind.i64.wrap (j5i0_1 - (1 : Int)))).toNat (IntKind.bits .u8)))))) F_) ?_
 refine al_idxR 0 (at_some hu14).1 (at_some hu14).2.1 rfl rfl rfl Tryd.underlying74 sz5 rfl (fun p15 hp16 => ?_)
 refine al_nil ?_
 exact fr_fin hK_ ⟨p15, hp16⟩⟩, trivial⟩ ?_
   intro _
   intro _
   intro _
   intro _
   intro _
   intro _
   intro _
   intro _
   intro _
   intro _
   rintro ⟨p9, hp10⟩
   intro _
   intro _
   intro _
   intro _
   intro _
   intro _
   intro _
   intro _
   intro _
   intro _
   intro _
   intro _
   rintro ⟨p15, hp16⟩
   intro X_ Y_ F_ K_ hK_
   refine al_show (m := Mem.plus (memOf w0 Z0 [(oBox bx0 79 [v0_0, (int .i64 a0.free)]), (oRow v0_0 5 tyU8 a0.out)] [(oRow j5v0_0 5 tyU8 j5x0_0), (oBox bx0 79 [j5v0_0, (int .i64 (IntKind.i64.wrap (j5i0_1 - (1 : Int))))])] []) X_ Y_) (S := over (put (put (put (put (put (put (put (put (put (put (put (put (put (put (put (put (put (put (put (put (put (put (put (put (tab [(0, (ptr bx0 0)), (1, (int .i64 a1)), (6, (int .i64 l1i6))]) 37 (ptr bx0 0)) 38 (ptr bx0 0)) 39 (ptr bx0 0)) 40 j5v0_0) 41 (ptr bx0 0)) 42 (ptr bx0 0)) 43 (ptr bx0 0)) 44 j5v0_0) 45 (int .i64 (j5x0_0.length : Int))) 46 (int .i64 (IntKind.i64.wrap ((j5x0_0.length : Int) - (1 : Int))))) 47 p9) 48 (int .u8 (u7.toNat : Int))) 49 (int .i64 a1)) 50 (int .i64 l1i6)) 51 (int .i64 ((a1).fdiv (2 ^ min (l1i6).toNat (IntKind.bits .i64))))) 52 (int .i64 (bits .and .i64 ((a1).fdiv (2 ^ min (l1i6).toNat (IntKind.bits .i64))) (1 : Int)))) 53 (int .u8 (IntKind.u8.wrap (bits .and .i64 ((a1).fdiv (2 ^ min (l1i6).toNat (IntKind.bits .i64))) (1 : Int))))) 54 (ptr bx0 0)) 55 (ptr bx0 0)) 56 (ptr bx0 1)) 57 (int .i64 (IntKind.i64.wrap (j5i0_1 - (1 : Int))))) 58 (int .u8 (IntKind.u8.wrap ((IntKind.u8.wrap (bits .and .i64 ((a1).fdiv (2 ^ min (l1i6).toNat (IntKind.bits .i64))) (1 : Int))) * 2 ^ min ((IntKind.i64.wrap (j5i0_1 - (1 : Int)))).toNat (IntKind.bits .u8))))) 59 (int .u8 (bits .or .u8 (u7.toNat : Int) (IntKind.u8.wrap ((IntKind.u8.wrap (bits .and .i64 ((a1).fdiv (2 ^ min (l1i6).toNat (IntKind.bits .i64))) (1 : Int))) * 2 ^ min ((IntKind.i64.wrap (j5i0_1 - (1 : Int)))).toNat (IntKind.bits .u8)))))) 60 p15) F_) ?_
   obtain ⟨hc17, h⟩ := req_some h
   refine al_storeR (k := ((IntKind.i64.wrap ((j5x0_0.length : Int) - (1 : Int)))).toNat) (x := (UInt8.ofNat ((bits .or .u8 (u7.toNat : Int) (IntKind.u8.wrap ((IntKind.u8.wrap (bits .and .i64 ((a1).fdiv (2 ^ min (l1i6).toNat (IntKind.bits .i64))) (1 : Int))) * 2 ^ min ((IntKind.i64.wrap (j5i0_1 - (1 : Int)))).toNat (IntKind.bits .u8))))).toNat)) (vs := [(int .u8 (bits .or .u8 (u7.toNat : Int) (IntKind.u8.wrap ((IntKind.u8.wrap (bits .and .i64 ((a1).fdiv (2 ^ min (l1i6).toNat (IntKind.bits .i64))) (1 : Int))) * 2 ^ min ((IntKind.i64.wrap (j5i0_1 - (1 : Int)))).toNat (IntKind.bits .u8)))))]) 0 rfl hp16 (idx_lt hu14) rfl rfl (cv_rfl rfl) (fun _ => u8_rep hc17) sz5 rfl ?_
   refine al_nil ?_
   refine aq_show (m := Mem.plus (memOf w0 Z0 [(oBox bx0 79 [v0_0, (int .i64 a0.free)]), (oRow v0_0 5 tyU8 a0.out)] [(oRow j5v0_0 5 tyU8 (j5x0_0.set ((IntKind.i64.wrap ((j5x0_0.length : Int) - (1 : Int)))).toNat (UInt8.ofNat ((bits .or .u8 (u7.toNat : Int) (IntKind.u8.wrap ((IntKind.u8.wrap (bits .and .i64 ((a1).fdiv (2 ^ min (l1i6).toNat (IntKind.bits .i64))) (1 : Int))) * 2 ^ min ((IntKind.i64.wrap (j5i0_1 - (1 : Int)))).toNat (IntKind.bits .u8))))).toNat))), (oBox bx0 79 [j5v0_0, (int .i64 (IntKind.i64.wrap (j5i0_1 - (1 : Int))))])] []) X_ Y_) ?_
   refine aq_next hK_ [0, 1] [] [(0, (ptr bx0 0)), (1, (int .i64 a1)), (6, (int .i64 l1i6))] [] [] rfl rfl (by decide) rfl ⟨rfl, rfl, rfl, trivial⟩ trivial ?_
   clear hK_ K_ F_ X_ Y_
   refine ta_show (m := (memOf w0 Z0 [(oBox bx0 79 [v0_0, (int .i64 a0.free)]), (oRow v0_0 5 tyU8 a0.out)] [(oRow j5v0_0 5 tyU8 (j5x0_0.set ((IntKind.i64.wrap ((j5x0_0.length : Int) - (1 : Int)))).toNat (UInt8.ofNat ((bits .or .u8 (u7.toNat : Int) (IntKind.u8.wrap ((IntKind.u8.wrap (bits .and .i64 ((a1).fdiv (2 ^ min (l1i6).toNat (IntKind.bits .i64))) (1 : Int))) * 2 ^ min ((IntKind.i64.wrap (j5i0_1 - (1 : Int)))).toNat (IntKind.bits .u8))))).toNat))), (oBox bx0 79 [j5v0_0, (int .i64 (IntKind.i64.wrap (j5i0_1 - (1 : Int))))])] [])) (S := (tab [(0, (ptr bx0 0)), (1, (int .i64 a1)), (6, (int .i64 l1i6))])) ?_
   refine ta_end [] [] rfl rfl (by kernel_rfl) rfl trivial ?_
   refine aq_show (m := (memOf w0 Z0 [(oBox bx0 79 [v0_0, (int .i64 a0.free)]), (oRow v0_0 5 tyU8 a0.out)] [(oRow j5v0_0 5 tyU8 (j5x0_0.set ((IntKind.i64.wrap ((j5x0_0.length : Int) - (1 : Int)))).toNat (UInt8.ofNat ((bits .or .u8 (u7.toNat : Int) (IntKind.u8.wrap ((IntKind.u8.wrap (bits .and .i64 ((a1).fdiv (2 ^ min (l1i6).toNat (IntKind.bits .i64))) (1 : Int))) * 2 ^ min ((IntKind.i64.wrap (j5i0_1 - (1 : Int)))).toNat (IntKind.bits .u8))))).toNat))), (oBox bx0 79 [j5v0_0, (int .i64 (IntKind.i64.wrap (j5i0_1 - (1 : Int))))])] [])) (S := (tab [(0, (ptr bx0 0)), (1, (int .i64 a1)), (6, (int .i64 l1i6))])) ?_
   refine aq_block ?_
   refine aq_then ?_
   refine aw_region ?_
   refine al_mv rfl rfl ?_
   refine al_in rfl rfl rfl rfl ?_
   refine al_as rfl rfl ?_
   refine al_nil ?_
   exact aq_again k2 (j5v0_0, (j5x0_0.set ((IntKind.i64.wrap ((j5x0_0.length : Int) - (1 : Int)))).toNat (UInt8.ofNat ((bits .or .u8 (u7.toNat : Int) (IntKind.u8.wrap ((IntKind.u8.wrap (bits .and .i64 ((a1).fdiv (2 ^ min (l1i6).toNat (IntKind.bits .i64))) (1 : Int))) * 2 ^ min ((IntKind.i64.wrap (j5i0_1 - (1 : Int)))).toNat (IntKind.bits .u8))))).toNat)), (IntKind.i64.wrap (j5i0_1 - (1 : Int))), (IntKind.i64.wrap (l1i6 - (1 : Int)))) (Nat.lt_succ_self _) h (fun w a hm hs => norm hm hs [0, 1] [] [(0, (ptr bx0 0)), (1, (int .i64 a1)), (6, (int .i64 (IntKind.i64.wrap (l1i6 - (1 : Int)))))] (by decide) ⟨rfl, rfl, rfl, trivial⟩)
  ·clear hkk6
   refine aw_sr ?_
   refine al_mv rfl rfl ?_
   refine al_val (ov_nilCheck rfl rfl) ?_
   refine al_val (ov_fieldA (p := 1) rfl Tryd.underlying79 rfl sz3 rfl rfl rfl) ?_
   refine al_val (ov_load (i := 1) (v := (int .i64 l1i0_1)) rfl rfl Tryd.underlying3 sz3 rfl rfl rfl rfl) ?_
   refine al_in rfl rfl rfl rfl ?_
   refine al_nt ?_
   refine aw_cond rfl (fun hb18 => ?_) (fun hb18 => ?_)
   ·replace h := bif_t hb18 h
    refine aw_sr ?_
    refine al_mv rfl rfl ?_
    refine al_mv rfl rfl ?_
    refine al_val (ov_nilCheck rfl rfl) ?_
    refine al_val (ov_fieldA (p := 0) rfl Tryd.underlying79 rfl sz74 rfl rfl rfl) ?_
    refine al_val (ov_load (i := 1) (v := l1v0_0) rfl rfl Tryd.underlying74 sz74 rfl rfl rfl rfl) ?_
    obtain ⟨hc20, h⟩ := req_some h
    refine al_buildSlice (τ := tyU8) (e := 5) (k := 1) (sz := 0) (by_ := 0) (z := undef) (cs := [(int .u8 (0 : Int))]) (xs := [(UInt8.ofNat ((0 : Int)).toNat)]) rfl (by decide) (fun w a hm hs => ⟨([(int .u8 (0 : Int))]).toArray, rfl, by simp only [List.map_toArray, List.map_cons, List.map_nil, hs.ev (x := .const (int .u8 (0 : Int))) rfl]; exact run_bs [(int .u8 (0 : Int))] [(int .u8 (0 : Int))] Tryd.underlying74 to5 rfl rfl (bs_cons (l := [(int .u8 (0 : Int))]) (cs := []) (cv_rfl rfl) rfl bs_nil) hm⟩) (fun hm => ⟨_, _, rfl, (fun _ => u8_rep hc20) hm, rfl⟩) rfl (fun v19 => ?_)
    obtain ⟨hc21, h⟩ := req_some h
    refine al_append 1 hc21.1 hc21.2 rfl (src_own (i := 1) 0 rfl) rfl rfl Tryd.underlying74 to5 rfl rfl rfl (fun v22 => ?_)
    refine al_val (ov_nilCheck rfl rfl) ?_
    refine al_val (ov_fieldA (p := 0) rfl Tryd.underlying79 rfl sz74 rfl rfl rfl) ?_
    refine al_store (i := 2) (vs := [v22]) (cs' := [v22, (int .i64 l1i0_1)]) rfl rfl rfl sz74 (cv_own 1 rfl) rfl (co_own 1 rfl co_nil) (Nat.le_of_ble_eq_true rfl) rfl rfl ?_
    refine al_nt ?_
    refine aw_region ?_
    refine al_mv rfl rfl ?_
    refine al_val (ov_nilCheck rfl rfl) ?_
    refine al_val (ov_fieldA (p := 1) rfl Tryd.underlying79 rfl sz3 rfl rfl rfl) ?_
    refine al_store (i := 2) (vs := [(int .i64 (8 : Int))]) (cs' := [v22, (int .i64 (8 : Int))]) rfl rfl rfl sz3 (cv_rfl rfl) rfl (co_val rfl co_nil) (Nat.le_of_ble_eq_true rfl) rfl rfl ?_
    refine al_nil ?_
    exact aq_join (v22, (l1x0_0 ++ ([(UInt8.ofNat ((0 : Int)).toNat)])), (8 : Int)) h (fun w a hm hs => norm hm hs [1, 2] [] [(0, (ptr bx0 0)), (1, (int .i64 a1)), (6, (int .i64 l1i6))] (by decide) ⟨rfl, rfl, rfl, trivial⟩)
   ·replace h := bif_f hb18 h
    refine aw_skip ?_
    exact aq_join (l1v0_0, l1x0_0, l1i0_1) h (fun w a hm hs => norm hm hs [0, 1] [] [(0, (ptr bx0 0)), (1, (int .i64 a1)), (6, (int .i64 l1i6))] (by decide) ⟨rfl, rfl, rfl, trivial⟩)
 ·replace h := bif_f hb4 h
  refine aw_exit ?_
  refine aq_then_exit ?_
  refine aq_then_exit ?_
  refine aq_block_exit ?_
  refine fn_end ?_
  obtain rfl := Option.some.inj h
  exact fn_ret l1v0_0 [1, 0] [] rfl rfl rfl rfl (resC rfl (resN) rfl) rfl rfl rfl (by decide)
def f_press_Press_L34 (r6 : ((List UInt8) × Int)) (r12 : ((List Int) × Int)) (r15 : ((List Int) × Int)) (kk25 : ((List UInt8) → Int → Option ((List UInt8) × Int))) (fu : Nat) : Nat → (List UInt8) → Int → Int → Option ((List UInt8) × Int)
  | 0, _, _, _ => none
  | k33 + 1, l32x20_0, l32i20_1, l32i108 => (bif (decide (l32i108 < (r6.1.length : Int))) then (req (0 ≤ l32i108 ∧ l32i108 < (r6.1.length : Int)) (opt (at? r15.1 (En.bAt r6.1 l32i108)) fun (u37 : Int) => (req (0 ≤ l32i108 ∧ l32i108 < (r6.1.length : Int)) (opt (at? r12.1 (En.bAt r6.1 l32i108)) fun (u42 : Int) => (opt (f___press_writer__put fu (D_press_writer.mk l32x20_0 l32i20_1) u37 u42) fun (r47 : D_press_writer) => (f_press_Press_L34 r6 r12 r15 kk25 fu k33 r47.out r47.free (IntKind.i64.wrap (l32i108 + (1 : Int))))))))) else (kk25 l32x20_0 l32i20_1))
def f_press_Press_L51 (r12 : ((List Int) × Int)) (kk22 : ((List UInt8) → Option ((List UInt8) × Int))) : Nat → (List UInt8) → Int → Option ((List UInt8) × Int)
  | 0, _, _ => none
  | k50 + 1, l49x15, l49i89 => (bif (decide (l49i89 < (r12.1.length : Int))) then (lt (fun (j53x15 : (List UInt8)) => (f_press_Press_L51 r12 kk22 k50 j53x15 (IntKind.i64.wrap (l49i89 + (1 : Int))))) fun (kk54 : (List UInt8) → Option ((List UInt8) × Int)) => (opt (at? r12.1 l49i89) fun (u55 : Int) => (bif (decide (u55 > (0 : Int))) then (req (0 ≤ (IntKind.u8.wrap l49i89) ∧ (IntKind.u8.wrap l49i89) ≤ 255) (req (0 ≤ (IntKind.u8.wrap u55) ∧ (IntKind.u8.wrap u55) ≤ 255) (req (((l49x15.length + ([(UInt8.ofNat ((IntKind.u8.wrap l49i89)).toNat), (UInt8.ofNat ((IntKind.u8.wrap u55)).toNat)]).length) * 1 : Nat) ≤ 140737488355328 ∧ l49x15.length + ([(UInt8.ofNat ((IntKind.u8.wrap l49i89)).toNat), (UInt8.ofNat ((IntKind.u8.wrap u55)).toNat)]).length ≤ 9223372036854775807) (kk54 (l49x15 ++ ([(UInt8.ofNat ((IntKind.u8.wrap l49i89)).toNat), (UInt8.ofNat ((IntKind.u8.wrap u55)).toNat)])))))) else (kk54 l49x15)))) else (kk22 l49x15))
def f_press_Press_L68 (a0 : (List UInt8)) (r6 : ((List UInt8) × Int)) (j9i9 : Int) (kk20 : ((List UInt8) → Option ((List UInt8) × Int))) (fu : Nat) : Nat → (List UInt8) → Int → Option ((List UInt8) × Int)
  | 0, _, _ => none
  | k67 + 1, l66x15, l66i77 => (bif (decide (l66i77 < (([(a0.length : Int), (r6.1.length : Int), j9i9]).length : Int))) then (opt (at? ([(a0.length : Int), (r6.1.length : Int), j9i9]) l66i77) fun (u70 : Int) => (opt (f_num_Put fu (IntKind.u64.wrap u70)) fun (r75 : (List UInt8)) => (req (l66x15.length + r75.length ≤ 140737488355328) (f_press_Press_L68 a0 r6 j9i9 kk20 fu k67 (l66x15 ++ r75) (IntKind.i64.wrap (l66i77 + (1 : Int))))))) else (kk20 l66x15))
def f_press_Press_L80 (r6 : ((List UInt8) × Int)) (kk10 : ((List Int) → Int → Option ((List UInt8) × Int))) : Nat → (List Int) → Int → Int → Option ((List UInt8) × Int)
  | 0, _, _, _ => none
  | k79 + 1, l78x8, l78i9, l78i38 => (bif (decide (l78i38 < (r6.1.length : Int))) then (lt (fun (j82i9 : Int) => (req (0 ≤ l78i38 ∧ l78i38 < (r6.1.length : Int)) (opt (at? l78x8 (En.bAt r6.1 l78i38)) fun (u85 : Int) => (opt (at? l78x8 (En.bAt r6.1 l78i38)) fun (u89 : Int) => (f_press_Press_L80 r6 kk10 k79 (l78x8.set ((En.bAt r6.1 l78i38)).toNat (IntKind.i64.wrap (u85 + (1 : Int)))) j82i9 (IntKind.i64.wrap (l78i38 + (1 : Int)))))))) fun (kk83 : Int → Option ((List UInt8) × Int)) => (req (0 ≤ l78i38 ∧ l78i38 < (r6.1.length : Int)) (opt (at? l78x8 (En.bAt r6.1 l78i38)) fun (u94 : Int) => (bif (u94 == (0 : Int)) then (kk83 (IntKind.i64.wrap (l78i9 + (1 : Int)))) else (kk83 l78i9))))) else (kk10 l78x8 l78i9))
def f_press_Press (fu : Nat) (a0 : (List UInt8)) : Option ((List UInt8) × Int) := (opt (f_lz_Greedy fu a0) fun (r2 : ((List S_api_Token) × Int)) => (bif (r2.2 != (0 : Int)) then (some (([] : List UInt8), r2.2)) else (opt (f_lz_Pack fu r2.1) fun (r6 : ((List UInt8) × Int)) => (req (0 ≤ (256 : Int) ∧ 8 * (256 : Int) ≤ 281474976710656 ∧ (256 : Int) ≤ 9223372036854775807) (lt (fun (j9x8 : (List Int)) (j9i9 : Int) => (opt (f_huff_Lengths fu j9x8) fun (r12 : ((List Int) × Int)) => (opt (f_huff_Codes fu r12.1) fun (r15 : ((List Int) × Int)) => (req (0 ≤ (1 : Int) ∧ (1 : Int) ≤ 255) (lt (fun (j19x15 : (List UInt8)) => (lt (fun (j21x15 : (List UInt8)) => (lt (fun (j24x20_0 : (List UInt8)) (j24i20_1 : Int) => (req (((j21x15.length + j24x20_0.length) * 1 : Nat) ≤ 140737488355328 ∧ j21x15.length + j24x20_0.length ≤ 9223372036854775807) (bif (decide (((j21x15 ++ j24x20_0).length : Int) < (IntKind.i64.wrap ((1 : Int) + (a0.length : Int))))) then (some ((j21x15 ++ j24x20_0), (0 : Int))) else (req (0 ≤ (0 : Int) ∧ (0 : Int) ≤ 255) (req (([(UInt8.ofNat ((0 : Int)).toNat)]).length + a0.length ≤ 9223372036854775807) (some ((([(UInt8.ofNat ((0 : Int)).toNat)]) ++ a0), (0 : Int)))))))) fun (kk25 : (List UInt8) → Int → Option ((List UInt8) × Int)) => (f_press_Press_L34 r6 r12 r15 kk25 fu fu ([] : List UInt8) (0 : Int) (0 : Int)))) fun (kk22 : (List UInt8) → Option ((List UInt8) × Int)) => (f_press_Press_L51 r12 kk22 fu j19x15 (0 : Int)))) fun (kk20 : (List UInt8) → Option ((List UInt8) × Int)) => (f_press_Press_L68 a0 r6 j9i9 kk20 fu fu ([(UInt8.ofNat ((1 : Int)).toNat)]) (0 : Int))))))) fun (kk10 : (List Int) → Int → Option ((List UInt8) × Int)) => (f_press_Press_L80 r6 kk10 fu (List.replicate ((256 : Int)).toNat 0) (0 : Int) (0 : Int)))))))
set_option maxRecDepth 100000 in
set_option maxHeartbeats 2000000 in
theorem f_press_Press_ok (fu : Nat) (a0 : (List UInt8)) {r : ((List UInt8) × Int)} (h : f_press_Press fu a0 = some r) : FnOk Tryd.prog 10 [(str a0)] [] [] (fun (i : Unit) => { val := (Value.tuple #[(str r.1), (int .i64 r.2)]) }) := by
 unfold f_press_Press at h
 refine fn_enter Tryd.func10 rfl Tryd.ntmps10 rfl (fun w0 Z0 => ?_)
 refine aw_sr ?_
 refine al_as rfl rfl ?_
 refine al_as rfl rfl ?_
 refine al_nt ?_
 refine aw_sr ?_
 refine al_mv rfl rfl ?_
 obtain ⟨r2, hc1, h⟩ := opt_some h
 refine al_call (vs := [(str a0)]) (f_lz_Greedy_ok fu a0 hc1) [] [] [] pre_nil rfl (by simp) (by decide) (.inl rfl) rfl Tryd.func38 rfl rfl rfl (fun v3 => ?_)
 refine al_mv rfl rfl ?_
 refine al_ex rfl rfl rfl ?_
 refine al_ex rfl rfl rfl ?_
 refine al_as rfl rfl ?_
 refine al_as rfl rfl ?_
 refine al_nt ?_
 refine aw_seq ?_
 refine aw_sr ?_
 refine al_mv rfl rfl ?_
 refine al_in rfl rfl rfl rfl ?_
 refine al_nt ?_
 refine aw_cond rfl (fun hb4 => ?_) (fun hb4 => ?_)
 ·replace h := bif_t hb4 h
  refine aw_sr ?_
  refine al_mv rfl rfl ?_
  refine al_as rfl rfl ?_
  refine al_as rfl rfl ?_
  refine al_nt ?_
  refine aw_ret ?_
  refine aq_then_ret ?_
  obtain rfl := Option.some.inj h
  exact fn_ret () [] [] rfl rfl rfl rfl (res2 rfl rfl rfl) rfl rfl rfl (by decide)
 ·replace h := bif_f hb4 h
  refine aw_skip ?_
  refine aq_tr ?_
  refine al_mv rfl rfl ?_
  obtain ⟨r6, hc5, h⟩ := opt_some h
  refine al_call (vs := [v3]) (f_lz_Pack_ok fu v3 r2.1 hc5) [0] [] [0] (pre_own 0 rfl rfl pre_nil) rfl (by simp) (by decide) (.inr flat_res0) rfl Tryd.func39 rfl rfl rfl (fun _ => ?_)
  refine al_mv rfl rfl ?_
  refine al_ex rfl rfl rfl ?_
  refine al_ex rfl rfl rfl ?_
  refine al_as rfl rfl ?_
  refine al_as rfl rfl ?_
  refine al_nt ?_
  refine aw_sr ?_
  obtain ⟨hc7, h⟩ := req_some h
  refine al_make (τ := (tyInt .i64)) (x0 := 0) hc7.1 hc7.2.1 hc7.2.2 rfl rfl Tryd.underlying71 to3 (fun _ _ => rfl) rfl rfl (fun v8 => ?_)
  refine al_as rfl rfl ?_
  refine al_nt ?_
  refine aw_sr ?_
  refine al_as rfl rfl ?_
  refine al_nt ?_
  obtain ⟨kk10, hkk10, h⟩ := lt_some h
  refine aw_seq_join (ι := (List Int) × Int) (fun i => (memOf w0 Z0 [] [(oRow v8 3 (tyInt .i64) i.1)] [])) (fun i => (tab [(0, (str a0)), (6, (str r6.1)), (8, v8), (9, (int .i64 i.2))])) (fun i => kk10 i.1 i.2 = some r) ?_ ?_
  ·rintro ⟨j9x8, j9i9⟩ h
   have h : kk10 j9x8 j9i9 = some r := h
   rw [hkk10] at h
   dsimp only at h
   clear hkk10
   refine aw_show (m := (memOf w0 Z0 [] [(oRow v8 3 (tyInt .i64) j9x8)] [])) (S := (tab [(0, (str a0)), (6, (str r6.1)), (8, v8), (9, (int .i64 j9i9))])) ?_
   refine aw_sr ?_
   refine al_mv rfl rfl ?_
   obtain ⟨r12, hc11, h⟩ := opt_some h
   refine al_call (vs := [v8]) (f_huff_Lengths_ok fu v8 j9x8 hc11) [0] [] [0] (pre_own 0 rfl rfl pre_nil) rfl (by simp) (by decide) (.inr (flat_res1 (fun _ => flat_row flat_enc))) rfl Tryd.func40 rfl rfl rfl (fun v13 => ?_)
   refine al_mv rfl rfl ?_
   refine al_ex rfl rfl rfl ?_
   refine al_ex rfl rfl rfl ?_
   refine al_as rfl rfl ?_
   refine al_as rfl rfl ?_
   refine al_nt ?_
   refine aw_sr ?_
   refine al_mv rfl rfl ?_
   obtain ⟨r15, hc14, h⟩ := opt_some h
   refine al_call (vs := [v13]) (f_huff_Codes_ok fu v13 r12.1 hc14) [0] [] [0, 1] (pre_own 0 rfl rfl pre_nil) rfl (by simp) (by decide) (.inr (flat_res1 (fun _ => flat_row flat_enc))) rfl Tryd.func41 rfl rfl rfl (fun v16 => ?_)
   refine al_mv rfl rfl ?_
   refine al_ex rfl rfl rfl ?_
   refine al_ex rfl rfl rfl ?_
   refine al_as rfl rfl ?_
   refine al_as rfl rfl ?_
   refine al_nt ?_
   refine aw_sr ?_
   obtain ⟨hc18, h⟩ := req_some h
   refine al_buildSlice (τ := tyU8) (e := 5) (k := 1) (sz := 0) (by_ := 0) (z := undef) (cs := [(int .u8 (1 : Int))]) (xs := [(UInt8.ofNat ((1 : Int)).toNat)]) rfl (by decide) (fun w a hm hs => ⟨([(int .u8 (1 : Int))]).toArray, rfl, by simp only [List.map_toArray, List.map_cons, List.map_nil, hs.ev (x := .const (int .u8 (1 : Int))) rfl]; exact run_bs [(int .u8 (1 : Int))] [(int .u8 (1 : Int))] Tryd.underlying74 to5 rfl rfl (bs_cons (l := [(int .u8 (1 : Int))]) (cs := []) (cv_rfl rfl) rfl bs_nil) hm⟩) (fun hm => ⟨_, _, rfl, (fun _ => u8_rep hc18) hm, rfl⟩) rfl (fun v17 => ?_)
   refine al_as rfl rfl ?_
   refine al_nt ?_
   obtain ⟨kk20, hkk20, h⟩ := lt_some h
   refine aw_seq_join (ι := Value × (List UInt8)) (fun i => (memOf w0 Z0 [] [(oRow v13 3 (tyInt .i64) r12.1), (oRow v16 3 (tyInt .i64) r15.1), (oRow i.1 5 tyU8 i.2)] [])) (fun i => (tab [(0, (str a0)), (6, (str r6.1)), (11, v13), (13, v16), (15, i.1)])) (fun i => kk20 i.2 = some r) ?_ ?_
   ·rintro ⟨j19v15, j19x15⟩ h
    have h : kk20 j19x15 = some r := h
    rw [hkk20] at h
    dsimp only at h
    clear hkk20
    refine aw_show (m := (memOf w0 Z0 [] [(oRow v13 3 (tyInt .i64) r12.1), (oRow v16 3 (tyInt .i64) r15.1), (oRow j19v15 5 tyU8 j19x15)] [])) (S := (tab [(0, (str a0)), (6, (str r6.1)), (11, v13), (13, v16), (15, j19v15)])) ?_
    obtain ⟨kk22, hkk22, h⟩ := lt_some h
    refine aw_seq_join (ι := Value × (List UInt8)) (fun i => (memOf w0 Z0 [] [(oRow v13 3 (tyInt .i64) r12.1), (oRow v16 3 (tyInt .i64) r15.1), (oRow i.1 5 tyU8 i.2)] [])) (fun i => (tab [(0, (str a0)), (6, (str r6.1)), (11, v13), (13, v16), (15, i.1)])) (fun i => kk22 i.2 = some r) ?_ ?_
    ·rintro ⟨j21v15, j21x15⟩ h
     have h : kk22 j21x15 = some r := h
     rw [hkk22] at h
     dsimp only at h
     clear hkk22
     refine aw_show (m := (memOf w0 Z0 [] [(oRow v13 3 (tyInt .i64) r12.1), (oRow v16 3 (tyInt .i64) r15.1), (oRow j21v15 5 tyU8 j21x15)] [])) (S := (tab [(0, (str a0)), (6, (str r6.1)), (11, v13), (13, v16), (15, j21v15)])) ?_
     refine aw_sr ?_
     refine al_val (ov_build (cells := ([(Value.slice none 0 0), (int .i64 (0 : Int))]).toArray) (cs := [(Value.slice none 0 0), (int .i64 (0 : Int))]) rfl (fun w a hm hs => by simp only [List.map_toArray, List.map_cons, List.map_nil, List.toList_toArray]; kernel_rfl)) ?_
     refine al_box (vs := [(Value.slice none 0 0), (int .i64 (0 : Int))]) rfl (cv_rfl rfl) rfl (fun g23 => ?_)
     refine al_as rfl rfl ?_
     refine al_nt ?_
     obtain ⟨kk25, hkk25, h⟩ := lt_some h
     refine aw_seq_join (ι := Value × (List UInt8) × Int) (fun i => (memOf w0 Z0 [] [(oRow j21v15 5 tyU8 j21x15), (oRow i.1 5 tyU8 i.2.1), (oBox g23 79 [i.1, (int .i64 i.2.2)])] [])) (fun i => (tab [(0, (str a0)), (15, j21v15), (20, (ptr g23 0))])) (fun i => kk25 i.2.1 i.2.2 = some r) ?_ ?_
     ·rintro ⟨j24v20_0, j24x20_0, j24i20_1⟩ h
      have h : kk25 j24x20_0 j24i20_1 = some r := h
      rw [hkk25] at h
      dsimp only at h
      clear hkk25
      refine aw_show (m := (memOf w0 Z0 [] [(oRow j21v15 5 tyU8 j21x15), (oRow j24v20_0 5 tyU8 j24x20_0), (oBox g23 79 [j24v20_0, (int .i64 j24i20_1)])] [])) (S := (tab [(0, (str a0)), (15, j21v15), (20, (ptr g23 0))])) ?_
      refine aw_sr ?_
      refine al_mv rfl rfl ?_
      refine al_mv rfl rfl ?_
      refine al_val (ov_nilCheck rfl rfl) ?_
      refine al_val (ov_fieldA (p := 0) rfl Tryd.underlying79 rfl sz74 rfl rfl rfl) ?_
      refine al_val (ov_load (i := 2) (v := j24v20_0) rfl rfl Tryd.underlying74 sz74 rfl rfl rfl rfl) ?_
      obtain ⟨hc26, h⟩ := req_some h
      refine al_append 0 hc26.1 hc26.2 rfl (src_own (i := 0) 1 rfl) rfl rfl Tryd.underlying74 to5 rfl rfl rfl (fun v27 => ?_)
      refine al_as rfl rfl ?_
      refine al_nt ?_
      refine aw_seq ?_
      refine aw_sr ?_
      refine al_mv rfl rfl ?_
      refine al_val (ov_lenR 0 rfl rfl Tryd.underlying74 rfl) ?_
      refine al_mv rfl rfl ?_
      refine al_val (ov_strLen Tryd.underlying9 rfl rfl) ?_
      refine al_in rfl rfl rfl rfl ?_
      refine al_in rfl rfl rfl rfl ?_
      refine al_nt ?_
      refine aw_cond rfl (fun hb28 => ?_) (fun hb28 => ?_)
      ·replace h := bif_t hb28 h
       refine aw_sr ?_
       refine al_mv rfl rfl ?_
       refine al_val (ov_toStrR 0 rfl rfl Tryd.underlying74 Tryd.underlying5 Tryd.underlying9 rfl) ?_
       refine al_as rfl rfl ?_
       refine al_as rfl rfl ?_
       refine al_nt ?_
       refine aw_ret ?_
       refine aq_then_ret ?_
       obtain rfl := Option.some.inj h
       exact fn_ret () [] [] rfl rfl rfl rfl (res2 rfl rfl rfl) rfl rfl rfl (by decide)
      ·replace h := bif_f hb28 h
       refine aw_skip ?_
       refine aq_tr ?_
       obtain ⟨hc30, h⟩ := req_some h
       refine al_buildSlice (τ := tyU8) (e := 5) (k := 1) (sz := 0) (by_ := 0) (z := undef) (cs := [(int .u8 (0 : Int))]) (xs := [(UInt8.ofNat ((0 : Int)).toNat)]) rfl (by decide) (fun w a hm hs => ⟨([(int .u8 (0 : Int))]).toArray, rfl, by simp only [List.map_toArray, List.map_cons, List.map_nil, hs.ev (x := .const (int .u8 (0 : Int))) rfl]; exact run_bs [(int .u8 (0 : Int))] [(int .u8 (0 : Int))] Tryd.underlying74 to5 rfl rfl (bs_cons (l := [(int .u8 (0 : Int))]) (cs := []) (cv_rfl rfl) rfl bs_nil) hm⟩) (fun hm => ⟨_, _, rfl, (fun _ => u8_rep hc30) hm, rfl⟩) rfl (fun v29 => ?_)
       refine al_val (ov_toStrR 0 rfl rfl Tryd.underlying74 Tryd.underlying5 Tryd.underlying9 rfl) ?_
       refine al_mv rfl rfl ?_
       obtain ⟨hc31, h⟩ := req_some h
       refine al_val (ov_strAdd hc31 rfl rfl rfl) ?_
       refine al_as rfl rfl ?_
       refine al_as rfl rfl ?_
       refine al_nt ?_
       refine aw_ret ?_
       obtain rfl := Option.some.inj h
       exact fn_ret () [] [] rfl rfl rfl rfl (res2 rfl rfl rfl) rfl rfl rfl (by decide)
     ·clear hkk25
      refine aw_sr ?_
      refine al_mv rfl rfl ?_
      refine al_val (ov_strLen Tryd.underlying9 rfl rfl) ?_
      refine al_mv rfl rfl ?_
      refine al_nt ?_
      refine aw_block ?_
      refine aw_nilR 5 tyU8 ?_
      refine aw_state (aw_loop (ι := Value × (List UInt8) × Int × Int) (fun i => (memOf w0 Z0 [] [(oRow v13 3 (tyInt .i64) r12.1), (oRow v16 3 (tyInt .i64) r15.1), (oRow j21v15 5 tyU8 j21x15), (oRow i.1 5 tyU8 i.2.1), (oBox g23 79 [i.1, (int .i64 i.2.2.1)])] [])) (fun i => (tab [(0, (str a0)), (6, (str r6.1)), (11, v13), (13, v16), (15, j21v15), (20, (ptr g23 0)), (107, (int .i64 (r6.1.length : Int))), (108, (int .i64 i.2.2.2))])) (fun q i => f_press_Press_L34 r6 r12 r15 kk25 fu q i.2.1 i.2.2.1 i.2.2.2 = some r) ?_ fu ((Value.slice none 0 0), ([] : List UInt8), (0 : Int), (0 : Int)) h) (fun w a hm hs => norm hm hs [2, 3, 4, 0, 1] [] [(0, (str a0)), (6, (str r6.1)), (11, v13), (13, v16), (15, j21v15), (20, (ptr g23 0)), (107, (int .i64 (r6.1.length : Int))), (108, (int .i64 (0 : Int)))] (by decide) ⟨rfl, rfl, rfl, rfl, rfl, rfl, rfl, rfl, trivial⟩)
      clear h
      rintro k33 ⟨l32v20_0, l32x20_0, l32i20_1, l32i108⟩ h
      have h : f_press_Press_L34 r6 r12 r15 kk25 fu k33 l32x20_0 l32i20_1 l32i108 = some r := h
      obtain _ | k33 := k33
      · rw [f_press_Press_L34] at h; cases h
      rw [f_press_Press_L34] at h
      refine aw_show (m := (memOf w0 Z0 [] [(oRow v13 3 (tyInt .i64) r12.1), (oRow v16 3 (tyInt .i64) r15.1), (oRow j21v15 5 tyU8 j21x15), (oRow l32v20_0 5 tyU8 l32x20_0), (oBox g23 79 [l32v20_0, (int .i64 l32i20_1)])] [])) (S := (tab [(0, (str a0)), (6, (str r6.1)), (11, v13), (13, v16), (15, j21v15), (20, (ptr g23 0)), (107, (int .i64 (r6.1.length : Int))), (108, (int .i64 l32i108))])) ?_
      refine aw_sr ?_
      refine al_in rfl rfl rfl rfl ?_
      refine al_nt ?_
      refine aw_seq ?_
      refine aw_cond rfl (fun hb35 => ?_) (fun hb35 => ?_)
      ·replace h := bif_t hb35 h
       refine aw_skip ?_
       refine aq_then ?_
       refine aw_seq ?_
       refine aw_block ?_
       refine aw_sr ?_
       refine al_mv rfl rfl ?_
       refine al_as rfl rfl ?_
       refine al_nt ?_
       obtain ⟨hc36, h⟩ := req_some h
       obtain ⟨u37, hu38, h⟩ := opt_some h
       obtain ⟨hc41, h⟩ := req_some h
       obtain ⟨u42, hu43, h⟩ := opt_some h
       refine aw_region_draw 13 [(111, (fun u => fEq u (ptr g23 0))), (112, (fun u => fEq u v16)), (113, (fun u => fEq u (str r6.1))), (114, (fun u => fEq u (int .i64 l32i108))), (115, (fun u => fEq u (int .u8 (En.bAt r6.1 l32i108)))), (116, (fun p => fElt v16 p (((En.bAt r6.1 l32i108)).toNat * Ty.size (tyInt .i64)))), (117, (fun u => fEq u (int .i64 u37))), (118, (fun u => fEq u v13)), (119, (fun u => fEq u (str r6.1))), (120, (fun u => fEq u (int .i64 l32i108))), (121, (fun u => fEq u (int .u8 (En.bAt r6.1 l32i108)))), (122, (fun p => fElt v13 p (((En.bAt r6.1 l32i108)).toNat * Ty.size (tyInt .i64)))), (123, (fun u => fEq u (int .i64 u42)))] (tab [(0, (str a0)), (6, (str r6.1)), (11, v13), (13, v16), (15, j21v15), (20, (ptr g23 0)), (21, (int .i64 l32i108)), (107, (int .i64 (r6.1.length : Int))), (108, (int .i64 l32i108))]) mixed (by kernel_rfl) rfl rfl rfl (fun a hs => hs.tab _ (allT_mem ⟨rfl, rfl, rfl, rfl, rfl, rfl, rfl, rfl, rfl, trivial⟩)) ⟨⟨rfl, ld_val (ov_move rfl rfl)⟩, ⟨rfl, ld_val (ov_move rfl rfl)⟩, ⟨rfl, ld_val (ov_move rfl rfl)⟩, ⟨rfl, ld_val (ov_move rfl rfl)⟩, ⟨rfl, ld_eq (j := 2) rfl rfl (ld_eq (j := 3) rfl rfl (ld_val (ov_strIdx hc36.1 hc36.2 Tryd.underlying9 rfl rfl rfl)))⟩, ⟨rfl, ld_eq (j := 1) rfl rfl (ld_eq (j := 4) rfl rfl (ld_of (of_idxR 1 (at_some hu38).1 (at_some hu38).2.1 rfl rfl rfl Tryd.underlying71 sz3 rfl)))⟩, ⟨rfl, ld_elt (j := 5) rfl rfl (fun p39 hp40 => ld_val (ov_loadR (ds := [(int .i64 u37)]) 1 rfl hp40 (at_some hu38).2.2 (fun h => h) rfl Tryd.underlying3 sz3 rfl rfl rfl))⟩, ⟨rfl, ld_val (ov_move rfl rfl)⟩, ⟨rfl, ld_val (ov_move rfl rfl)⟩, ⟨rfl, ld_val (ov_move rfl rfl)⟩, ⟨rfl, ld_eq (j := 8) rfl rfl (ld_eq (j := 9) rfl rfl (ld_val (ov_strIdx hc41.1 hc41.2 Tryd.underlying9 rfl rfl rfl)))⟩, ⟨rfl, ld_eq (j := 7) rfl rfl (ld_eq (j := 10) rfl rfl (ld_of (of_idxR 0 (at_some hu43).1 (at_some hu43).2.1 rfl rfl rfl Tryd.underlying71 sz3 rfl)))⟩, ⟨rfl, ld_elt (j := 11) rfl rfl (fun p44 hp45 => ld_val (ov_loadR (ds := [(int .i64 u42)]) 0 rfl hp45 (at_some hu43).2.2 (fun h => h) rfl Tryd.underlying3 sz3 rfl rfl rfl))⟩, trivial⟩ ?_
       refine tl_eq 0 rfl ?_
       refine tl_eq 6 rfl ?_
       refine tl_eq 12 rfl ?_
       refine tl_done ?_
       obtain ⟨r47, hc46, h⟩ := opt_some h
       refine al_call (vs := [(ptr g23 0), (int .i64 u37), (int .i64 u42)]) (f___press_writer__put_ok fu g23 l32v20_0 (D_press_writer.mk l32x20_0 l32i20_1) u37 u42 hc46) [] [4, 3] [0, 1, 2] pre_nil rfl (by simp) (by decide) (.inl rfl) rfl Tryd.func43 rfl rfl rfl (fun v48 => ?_)
       refine al_nil ?_
       refine aq_block ?_
       refine aq_then ?_
       refine aw_region ?_
       refine al_in rfl rfl rfl rfl ?_
       refine al_mv rfl rfl ?_
       refine al_nil ?_
       exact aq_again k33 (v48, r47.out, r47.free, (IntKind.i64.wrap (l32i108 + (1 : Int)))) (Nat.lt_succ_self _) h (fun w a hm hs => norm hm hs [2, 3, 4, 1, 0] [] [(0, (str a0)), (6, (str r6.1)), (11, v13), (13, v16), (15, j21v15), (20, (ptr g23 0)), (107, (int .i64 (r6.1.length : Int))), (108, (int .i64 (IntKind.i64.wrap (l32i108 + (1 : Int)))))] (by decide) ⟨rfl, rfl, rfl, rfl, rfl, rfl, rfl, rfl, trivial⟩)
      ·replace h := bif_f hb35 h
       refine aw_exit ?_
       refine aq_then_exit ?_
       refine aq_then_exit ?_
       refine aq_block_exit ?_
       exact aq_join (l32v20_0, l32x20_0, l32i20_1) h (fun w a hm hs => norm hm hs [2, 3, 4] [] [(0, (str a0)), (15, j21v15), (20, (ptr g23 0))] (by decide) ⟨rfl, rfl, rfl, trivial⟩)
    ·clear hkk22
     refine aw_sr ?_
     refine al_mv rfl rfl ?_
     refine al_val (ov_lenR 0 rfl rfl Tryd.underlying71 rfl) ?_
     refine al_mv rfl rfl ?_
     refine al_nt ?_
     refine aw_block ?_
     refine aw_state (aw_loop (ι := Value × (List UInt8) × Int) (fun i => (memOf w0 Z0 [] [(oRow v13 3 (tyInt .i64) r12.1), (oRow v16 3 (tyInt .i64) r15.1), (oRow i.1 5 tyU8 i.2.1)] [])) (fun i => (tab [(0, (str a0)), (6, (str r6.1)), (11, v13), (13, v16), (15, i.1), (87, v13), (88, (int .i64 (r12.1.length : Int))), (89, (int .i64 i.2.2))])) (fun q i => f_press_Press_L51 r12 kk22 q i.2.1 i.2.2 = some r) ?_ fu (j19v15, j19x15, (0 : Int)) h) (fun w a hm hs => norm hm hs [0, 1, 2] [] [(0, (str a0)), (6, (str r6.1)), (11, v13), (13, v16), (15, j19v15), (87, v13), (88, (int .i64 (r12.1.length : Int))), (89, (int .i64 (0 : Int)))] (by decide) ⟨rfl, rfl, rfl, rfl, rfl, rfl, rfl, rfl, trivial⟩)
     clear h
     rintro k50 ⟨l49v15, l49x15, l49i89⟩ h
     have h : f_press_Press_L51 r12 kk22 k50 l49x15 l49i89 = some r := h
     obtain _ | k50 := k50
     · rw [f_press_Press_L51] at h; cases h
     rw [f_press_Press_L51] at h
     refine aw_show (m := (memOf w0 Z0 [] [(oRow v13 3 (tyInt .i64) r12.1), (oRow v16 3 (tyInt .i64) r15.1), (oRow l49v15 5 tyU8 l49x15)] [])) (S := (tab [(0, (str a0)), (6, (str r6.1)), (11, v13), (13, v16), (15, l49v15), (87, v13), (88, (int .i64 (r12.1.length : Int))), (89, (int .i64 l49i89))])) ?_
     refine aw_sr ?_
     refine al_in rfl rfl rfl rfl ?_
     refine al_nt ?_
     refine aw_seq ?_
     refine aw_cond rfl (fun hb52 => ?_) (fun hb52 => ?_)
     ·replace h := bif_t hb52 h
      refine aw_skip ?_
      refine aq_then ?_
      obtain ⟨kk54, hkk54, h⟩ := lt_some h
      refine aw_seq_join (ι := Value × (List UInt8)) (fun i => (memOf w0 Z0 [] [(oRow v13 3 (tyInt .i64) r12.1), (oRow v16 3 (tyInt .i64) r15.1), (oRow i.1 5 tyU8 i.2)] [])) (fun i => (tab [(0, (str a0)), (6, (str r6.1)), (11, v13), (13, v16), (15, i.1), (87, v13), (88, (int .i64 (r12.1.length : Int))), (89, (int .i64 l49i89))])) (fun i => kk54 i.2 = some r) ?_ ?_
      ·rintro ⟨j53v15, j53x15⟩ h
       have h : kk54 j53x15 = some r := h
       rw [hkk54] at h
       dsimp only at h
       clear hkk54
       refine aw_show (m := (memOf w0 Z0 [] [(oRow v13 3 (tyInt .i64) r12.1), (oRow v16 3 (tyInt .i64) r15.1), (oRow j53v15 5 tyU8 j53x15)] [])) (S := (tab [(0, (str a0)), (6, (str r6.1)), (11, v13), (13, v16), (15, j53v15), (87, v13), (88, (int .i64 (r12.1.length : Int))), (89, (int .i64 l49i89))])) ?_
       refine aw_region ?_
       refine al_in rfl rfl rfl rfl ?_
       refine al_mv rfl rfl ?_
       refine al_nil ?_
       exact aq_again k50 (j53v15, j53x15, (IntKind.i64.wrap (l49i89 + (1 : Int)))) (Nat.lt_succ_self _) h (fun w a hm hs => norm hm hs [0, 1, 2] [] [(0, (str a0)), (6, (str r6.1)), (11, v13), (13, v16), (15, j53v15), (87, v13), (88, (int .i64 (r12.1.length : Int))), (89, (int .i64 (IntKind.i64.wrap (l49i89 + (1 : Int)))))] (by decide) ⟨rfl, rfl, rfl, rfl, rfl, rfl, rfl, rfl, trivial⟩)
      ·clear hkk54
       refine aw_block ?_
       refine aw_sr ?_
       refine al_mv rfl rfl ?_
       obtain ⟨u55, hu56, h⟩ := opt_some h
       refine al_idxR 0 (at_some hu56).1 (at_some hu56).2.1 rfl rfl rfl Tryd.underlying71 sz3 rfl (fun p57 hp58 => ?_)
       refine al_val (ov_loadR (ds := [(int .i64 u55)]) 0 rfl hp58 (at_some hu56).2.2 (fun h => h) rfl Tryd.underlying3 sz3 rfl rfl rfl) ?_
       refine al_as rfl rfl ?_
       refine al_as rfl rfl ?_
       refine al_nt ?_
       refine aw_sr ?_
       refine al_mv rfl rfl ?_
       refine al_in rfl rfl rfl rfl ?_
       refine al_nt ?_
       refine aw_cond rfl (fun hb59 => ?_) (fun hb59 => ?_)
       ·replace h := bif_t hb59 h
        refine aw_region ?_
        refine al_mv rfl rfl ?_
        refine al_mv rfl rfl ?_
        refine al_val (ov_convInt (by rw [Tryd.underlying3]; rfl) Tryd.underlying5 rfl rfl) ?_
        refine al_mv rfl rfl ?_
        refine al_val (ov_convInt (by rw [Tryd.underlying3]; rfl) Tryd.underlying5 rfl rfl) ?_
        obtain ⟨hc61, h⟩ := req_some h
        obtain ⟨hc62, h⟩ := req_some h
        refine al_buildSlice (τ := tyU8) (e := 5) (k := 2) (sz := 0) (by_ := 0) (z := undef) (cs := [(int .u8 (IntKind.u8.wrap l49i89)), (int .u8 (IntKind.u8.wrap u55))]) (xs := [(UInt8.ofNat ((IntKind.u8.wrap l49i89)).toNat), (UInt8.ofNat ((IntKind.u8.wrap u55)).toNat)]) rfl (by decide) (fun w a hm hs => ⟨([(int .u8 (IntKind.u8.wrap l49i89)), (int .u8 (IntKind.u8.wrap u55))]).toArray, rfl, by simp only [List.map_toArray, List.map_cons, List.map_nil, hs.ev (x := .tmp 98) rfl, hs.ev (x := .tmp 100) rfl]; exact run_bs [(int .u8 (IntKind.u8.wrap l49i89)), (int .u8 (IntKind.u8.wrap u55))] [(int .u8 (IntKind.u8.wrap l49i89)), (int .u8 (IntKind.u8.wrap u55))] Tryd.underlying74 to5 rfl rfl (bs_cons (l := [(int .u8 (IntKind.u8.wrap l49i89))]) (cs := [(int .u8 (IntKind.u8.wrap u55))]) (cv_rfl rfl) rfl (bs_cons (l := [(int .u8 (IntKind.u8.wrap u55))]) (cs := []) (cv_rfl rfl) rfl bs_nil)) hm⟩) (fun hm => ⟨_, _, rfl, (fun _ => u8_rep hc61) hm, ⟨_, _, rfl, (fun _ => u8_rep hc62) hm, rfl⟩⟩) rfl (fun v60 => ?_)
        obtain ⟨hc63, h⟩ := req_some h
        refine al_append 3 hc63.1 hc63.2 rfl (src_own (i := 3) 0 rfl) rfl rfl Tryd.underlying74 to5 rfl rfl rfl (fun v64 => ?_)
        refine al_as rfl rfl ?_
        refine al_nil ?_
        refine aq_block ?_
        exact aq_join (v64, (l49x15 ++ ([(UInt8.ofNat ((IntKind.u8.wrap l49i89)).toNat), (UInt8.ofNat ((IntKind.u8.wrap u55)).toNat)]))) h (fun w a hm hs => norm hm hs [1, 2, 3] [] [(0, (str a0)), (6, (str r6.1)), (11, v13), (13, v16), (15, v64), (87, v13), (88, (int .i64 (r12.1.length : Int))), (89, (int .i64 l49i89))] (by decide) ⟨rfl, rfl, rfl, rfl, rfl, rfl, rfl, rfl, trivial⟩)
       ·replace h := bif_f hb59 h
        refine aw_skip ?_
        refine aq_block ?_
        exact aq_join (l49v15, l49x15) h (fun w a hm hs => norm hm hs [0, 1, 2] [] [(0, (str a0)), (6, (str r6.1)), (11, v13), (13, v16), (15, l49v15), (87, v13), (88, (int .i64 (r12.1.length : Int))), (89, (int .i64 l49i89))] (by decide) ⟨rfl, rfl, rfl, rfl, rfl, rfl, rfl, rfl, trivial⟩)
     ·replace h := bif_f hb52 h
      refine aw_exit ?_
      refine aq_then_exit ?_
      refine aq_then_exit ?_
      refine aq_block_exit ?_
      exact aq_join (l49v15, l49x15) h (fun w a hm hs => norm hm hs [0, 1, 2] [] [(0, (str a0)), (6, (str r6.1)), (11, v13), (13, v16), (15, l49v15)] (by decide) ⟨rfl, rfl, rfl, rfl, rfl, trivial⟩)
   ·clear hkk20
    refine aw_sr ?_
    refine al_mv rfl rfl ?_
    refine al_val (ov_strLen Tryd.underlying9 rfl rfl) ?_
    refine al_mv rfl rfl ?_
    refine al_val (ov_strLen Tryd.underlying9 rfl rfl) ?_
    refine al_mv rfl rfl ?_
    refine al_buildSlice (τ := (tyInt .i64)) (e := 3) (k := 3) (sz := 0) (by_ := 0) (z := undef) (cs := [(int .i64 (a0.length : Int)), (int .i64 (r6.1.length : Int)), (int .i64 j9i9)]) (xs := [(a0.length : Int), (r6.1.length : Int), j9i9]) rfl (by decide) (fun w a hm hs => ⟨([(int .i64 (a0.length : Int)), (int .i64 (r6.1.length : Int)), (int .i64 j9i9)]).toArray, rfl, by simp only [List.map_toArray, List.map_cons, List.map_nil, hs.ev (x := .tmp 71) rfl, hs.ev (x := .tmp 73) rfl, hs.ev (x := .tmp 74) rfl]; exact run_bs [(int .i64 (a0.length : Int)), (int .i64 (r6.1.length : Int)), (int .i64 j9i9)] [(int .i64 (a0.length : Int)), (int .i64 (r6.1.length : Int)), (int .i64 j9i9)] Tryd.underlying71 to3 rfl rfl (bs_cons (l := [(int .i64 (a0.length : Int))]) (cs := [(int .i64 (r6.1.length : Int)), (int .i64 j9i9)]) (cv_rfl rfl) rfl (bs_cons (l := [(int .i64 (r6.1.length : Int))]) (cs := [(int .i64 j9i9)]) (cv_rfl rfl) rfl (bs_cons (l := [(int .i64 j9i9)]) (cs := []) (cv_rfl rfl) rfl bs_nil))) hm⟩) (fun hm => ⟨_, _, rfl, (fun _ => rfl) hm, ⟨_, _, rfl, (fun _ => rfl) hm, ⟨_, _, rfl, (fun _ => rfl) hm, rfl⟩⟩⟩) rfl (fun v65 => ?_)
    refine al_val (ov_lenR 0 rfl rfl Tryd.underlying71 rfl) ?_
    refine al_mv rfl rfl ?_
    refine al_nt ?_
    refine aw_block ?_
    refine aw_state (aw_loop (ι := Value × (List UInt8) × Int) (fun i => (memOf w0 Z0 [] [(oRow v13 3 (tyInt .i64) r12.1), (oRow v16 3 (tyInt .i64) r15.1), (oRow i.1 5 tyU8 i.2.1), (oRow v65 3 (tyInt .i64) [(a0.length : Int), (r6.1.length : Int), j9i9])] [])) (fun i => (tab [(0, (str a0)), (6, (str r6.1)), (11, v13), (13, v16), (15, i.1), (75, v65), (76, (int .i64 (([(a0.length : Int), (r6.1.length : Int), j9i9]).length : Int))), (77, (int .i64 i.2.2))])) (fun q i => f_press_Press_L68 a0 r6 j9i9 kk20 fu q i.2.1 i.2.2 = some r) ?_ fu (v17, ([(UInt8.ofNat ((1 : Int)).toNat)]), (0 : Int)) h) (fun w a hm hs => norm hm hs [3, 2, 1, 0] [] [(0, (str a0)), (6, (str r6.1)), (11, v13), (13, v16), (15, v17), (75, v65), (76, (int .i64 (([(a0.length : Int), (r6.1.length : Int), j9i9]).length : Int))), (77, (int .i64 (0 : Int)))] (by decide) ⟨rfl, rfl, rfl, rfl, rfl, rfl, rfl, rfl, trivial⟩)
    clear h
    rintro k67 ⟨l66v15, l66x15, l66i77⟩ h
    have h : f_press_Press_L68 a0 r6 j9i9 kk20 fu k67 l66x15 l66i77 = some r := h
    obtain _ | k67 := k67
    · rw [f_press_Press_L68] at h; cases h
    rw [f_press_Press_L68] at h
    refine aw_show (m := (memOf w0 Z0 [] [(oRow v13 3 (tyInt .i64) r12.1), (oRow v16 3 (tyInt .i64) r15.1), (oRow l66v15 5 tyU8 l66x15), (oRow v65 3 (tyInt .i64) [(a0.length : Int), (r6.1.length : Int), j9i9])] [])) (S := (tab [(0, (str a0)), (6, (str r6.1)), (11, v13), (13, v16), (15, l66v15), (75, v65), (76, (int .i64 (([(a0.length : Int), (r6.1.length : Int), j9i9]).length : Int))), (77, (int .i64 l66i77))])) ?_
    refine aw_sr ?_
    refine al_in rfl rfl rfl rfl ?_
    refine al_nt ?_
    refine aw_seq ?_
    refine aw_cond rfl (fun hb69 => ?_) (fun hb69 => ?_)
    ·replace h := bif_t hb69 h
     refine aw_skip ?_
     refine aq_then ?_
     refine aw_seq ?_
     refine aw_block ?_
     refine aw_sr ?_
     obtain ⟨u70, hu71, h⟩ := opt_some h
     refine al_idxR 3 (at_some hu71).1 (at_some hu71).2.1 rfl rfl rfl Tryd.underlying71 sz3 rfl (fun p72 hp73 => ?_)
     refine al_val (ov_loadR (ds := [(int .i64 u70)]) 3 rfl hp73 (at_some hu71).2.2 (fun h => h) rfl Tryd.underlying3 sz3 rfl rfl rfl) ?_
     refine al_as rfl rfl ?_
     refine al_nt ?_
     refine aw_region ?_
     refine al_mv rfl rfl ?_
     refine al_mv rfl rfl ?_
     refine al_val (ov_convInt (by rw [Tryd.underlying3]; rfl) Tryd.underlying76 rfl rfl) ?_
     obtain ⟨r75, hc74, h⟩ := opt_some h
     refine al_call (vs := [(int .u64 (IntKind.u64.wrap u70))]) (f_num_Put_ok fu (IntKind.u64.wrap u70) hc74) [] [] [0, 1, 2, 3] pre_nil rfl (by simp) (by decide) (.inl rfl) rfl Tryd.func42 rfl rfl rfl (fun _ => ?_)
     obtain ⟨hc76, h⟩ := req_some h
     refine al_appendS 2 hc76 rfl rfl rfl Tryd.underlying74 Tryd.underlying9 to5 rfl (fun v77 => ?_)
     refine al_as rfl rfl ?_
     refine al_nil ?_
     refine aq_block ?_
     refine aq_then ?_
     refine aw_region ?_
     refine al_in rfl rfl rfl rfl ?_
     refine al_mv rfl rfl ?_
     refine al_nil ?_
     exact aq_again k67 (v77, (l66x15 ++ r75), (IntKind.i64.wrap (l66i77 + (1 : Int)))) (Nat.lt_succ_self _) h (fun w a hm hs => norm hm hs [0, 1, 2, 3] [] [(0, (str a0)), (6, (str r6.1)), (11, v13), (13, v16), (15, v77), (75, v65), (76, (int .i64 (([(a0.length : Int), (r6.1.length : Int), j9i9]).length : Int))), (77, (int .i64 (IntKind.i64.wrap (l66i77 + (1 : Int)))))] (by decide) ⟨rfl, rfl, rfl, rfl, rfl, rfl, rfl, rfl, trivial⟩)
    ·replace h := bif_f hb69 h
     refine aw_exit ?_
     refine aq_then_exit ?_
     refine aq_then_exit ?_
     refine aq_block_exit ?_
     exact aq_join (l66v15, l66x15) h (fun w a hm hs => norm hm hs [0, 1, 2] [] [(0, (str a0)), (6, (str r6.1)), (11, v13), (13, v16), (15, l66v15)] (by decide) ⟨rfl, rfl, rfl, rfl, rfl, trivial⟩)
  ·clear hkk10
   refine aw_sr ?_
   refine al_mv rfl rfl ?_
   refine al_val (ov_strLen Tryd.underlying9 rfl rfl) ?_
   refine al_mv rfl rfl ?_
   refine al_nt ?_
   refine aw_block ?_
   refine aw_state (aw_loop (ι := (List Int) × Int × Int) (fun i => (memOf w0 Z0 [] [(oRow v8 3 (tyInt .i64) i.1)] [])) (fun i => (tab [(0, (str a0)), (6, (str r6.1)), (8, v8), (9, (int .i64 i.2.1)), (37, (int .i64 (r6.1.length : Int))), (38, (int .i64 i.2.2))])) (fun q i => f_press_Press_L80 r6 kk10 q i.1 i.2.1 i.2.2 = some r) ?_ fu ((List.replicate ((256 : Int)).toNat 0), (0 : Int), (0 : Int)) h) (fun w a hm hs => norm hm hs [0] [] [(0, (str a0)), (6, (str r6.1)), (8, v8), (9, (int .i64 (0 : Int))), (37, (int .i64 (r6.1.length : Int))), (38, (int .i64 (0 : Int)))] (by decide) ⟨rfl, rfl, rfl, rfl, rfl, rfl, trivial⟩)
   clear h
   rintro k79 ⟨l78x8, l78i9, l78i38⟩ h
   have h : f_press_Press_L80 r6 kk10 k79 l78x8 l78i9 l78i38 = some r := h
   obtain _ | k79 := k79
   · rw [f_press_Press_L80] at h; cases h
   rw [f_press_Press_L80] at h
   refine aw_show (m := (memOf w0 Z0 [] [(oRow v8 3 (tyInt .i64) l78x8)] [])) (S := (tab [(0, (str a0)), (6, (str r6.1)), (8, v8), (9, (int .i64 l78i9)), (37, (int .i64 (r6.1.length : Int))), (38, (int .i64 l78i38))])) ?_
   refine aw_sr ?_
   refine al_in rfl rfl rfl rfl ?_
   refine al_nt ?_
   refine aw_seq ?_
   refine aw_cond rfl (fun hb81 => ?_) (fun hb81 => ?_)
   ·replace h := bif_t hb81 h
    refine aw_skip ?_
    refine aq_then ?_
    refine aw_seq ?_
    refine aw_block ?_
    refine aw_sr ?_
    refine al_mv rfl rfl ?_
    refine al_as rfl rfl ?_
    refine al_nt ?_
    obtain ⟨kk83, hkk83, h⟩ := lt_some h
    refine aw_seq_join (ι := Int) (fun i => (memOf w0 Z0 [] [(oRow v8 3 (tyInt .i64) l78x8)] [])) (fun i => (tab [(0, (str a0)), (6, (str r6.1)), (8, v8), (9, (int .i64 i)), (10, (int .i64 l78i38)), (37, (int .i64 (r6.1.length : Int))), (38, (int .i64 l78i38))])) (fun i => kk83 i = some r) ?_ ?_
    ·rintro j82i9 h
     have h : kk83 j82i9 = some r := h
     rw [hkk83] at h
     dsimp only at h
     clear hkk83
     refine aw_show (m := (memOf w0 Z0 [] [(oRow v8 3 (tyInt .i64) l78x8)] [])) (S := (tab [(0, (str a0)), (6, (str r6.1)), (8, v8), (9, (int .i64 j82i9)), (10, (int .i64 l78i38)), (37, (int .i64 (r6.1.length : Int))), (38, (int .i64 l78i38))])) ?_
     refine aw_region ?_
     refine al_mv rfl rfl ?_
     refine al_mv rfl rfl ?_
     refine al_mv rfl rfl ?_
     obtain ⟨hc84, h⟩ := req_some h
     refine al_val (ov_strIdx hc84.1 hc84.2 Tryd.underlying9 rfl rfl rfl) ?_
     obtain ⟨u85, hu86, h⟩ := opt_some h
     refine al_idxR 0 (at_some hu86).1 (at_some hu86).2.1 rfl rfl rfl Tryd.underlying71 sz3 rfl (fun p87 hp88 => ?_)
     refine al_val (ov_loadR (ds := [(int .i64 u85)]) 0 rfl hp88 (at_some hu86).2.2 (fun h => h) rfl Tryd.underlying3 sz3 rfl rfl rfl) ?_
     refine al_in rfl rfl rfl rfl ?_
     obtain ⟨u89, hu90, h⟩ := opt_some h
     refine al_idxR 0 (at_some hu90).1 (at_some hu90).2.1 rfl rfl rfl Tryd.underlying71 sz3 rfl (fun p91 hp92 => ?_)
     refine al_storeR (k := ((En.bAt r6.1 l78i38)).toNat) (x := (IntKind.i64.wrap (u85 + (1 : Int)))) (vs := [(int .i64 (IntKind.i64.wrap (u85 + (1 : Int))))]) 0 rfl hp92 (idx_lt hu90) rfl rfl (cv_rfl rfl) (fun _ => rfl) sz3 rfl ?_
     refine al_nil ?_
     refine aq_block ?_
     refine aq_then ?_
     refine aw_region ?_
     refine al_in rfl rfl rfl rfl ?_
     refine al_mv rfl rfl ?_
     refine al_nil ?_
     exact aq_again k79 ((l78x8.set ((En.bAt r6.1 l78i38)).toNat (IntKind.i64.wrap (u85 + (1 : Int)))), j82i9, (IntKind.i64.wrap (l78i38 + (1 : Int)))) (Nat.lt_succ_self _) h (fun w a hm hs => norm hm hs [0] [] [(0, (str a0)), (6, (str r6.1)), (8, v8), (9, (int .i64 j82i9)), (37, (int .i64 (r6.1.length : Int))), (38, (int .i64 (IntKind.i64.wrap (l78i38 + (1 : Int)))))] (by decide) ⟨rfl, rfl, rfl, rfl, rfl, rfl, trivial⟩)
    ·clear hkk83
     refine aw_sr ?_
     refine al_mv rfl rfl ?_
     refine al_mv rfl rfl ?_
     refine al_mv rfl rfl ?_
     obtain ⟨hc93, h⟩ := req_some h
     refine al_val (ov_strIdx hc93.1 hc93.2 Tryd.underlying9 rfl rfl rfl) ?_
     obtain ⟨u94, hu95, h⟩ := opt_some h
     refine al_idxR 0 (at_some hu95).1 (at_some hu95).2.1 rfl rfl rfl Tryd.underlying71 sz3 rfl (fun p96 hp97 => ?_)
     refine al_val (ov_loadR (ds := [(int .i64 u94)]) 0 rfl hp97 (at_some hu95).2.2 (fun h => h) rfl Tryd.underlying3 sz3 rfl rfl rfl) ?_
     refine al_in rfl rfl rfl rfl ?_
     refine al_nt ?_
     refine aw_cond rfl (fun hb98 => ?_) (fun hb98 => ?_)
     ·replace h := bif_t hb98 h
      refine aw_region ?_
      refine al_mv rfl rfl ?_
      refine al_in rfl rfl rfl rfl ?_
      refine al_as rfl rfl ?_
      refine al_nil ?_
      exact aq_join (IntKind.i64.wrap (l78i9 + (1 : Int))) h (fun w a hm hs => norm hm hs [0] [] [(0, (str a0)), (6, (str r6.1)), (8, v8), (9, (int .i64 (IntKind.i64.wrap (l78i9 + (1 : Int))))), (10, (int .i64 l78i38)), (37, (int .i64 (r6.1.length : Int))), (38, (int .i64 l78i38))] (by decide) ⟨rfl, rfl, rfl, rfl, rfl, rfl, rfl, trivial⟩)
     ·replace h := bif_f hb98 h
      refine aw_skip ?_
      exact aq_join l78i9 h (fun w a hm hs => norm hm hs [0] [] [(0, (str a0)), (6, (str r6.1)), (8, v8), (9, (int .i64 l78i9)), (10, (int .i64 l78i38)), (37, (int .i64 (r6.1.length : Int))), (38, (int .i64 l78i38))] (by decide) ⟨rfl, rfl, rfl, rfl, rfl, rfl, rfl, trivial⟩)
   ·replace h := bif_f hb81 h
    refine aw_exit ?_
    refine aq_then_exit ?_
    refine aq_then_exit ?_
    refine aq_block_exit ?_
    exact aq_join (l78x8, l78i9) h (fun w a hm hs => norm hm hs [0] [] [(0, (str a0)), (6, (str r6.1)), (8, v8), (9, (int .i64 l78i9))] (by decide) ⟨rfl, rfl, rfl, rfl, trivial⟩)
def f_lumref_Greedy_L30 (a0 : (List UInt8)) (l3i4 : Int) (l16i6 : Int) (kk26 : (Int → Option (List S_api_Token))) : Nat → Int → Option (List S_api_Token)
  | 0, _ => none
  | k29 + 1, l28i7 => (lt (fun (j31b49 : Bool) => (bif j31b49 then (f_lumref_Greedy_L30 a0 l3i4 l16i6 kk26 k29 (IntKind.i64.wrap (l28i7 + (1 : Int)))) else (kk26 l28i7))) fun (kk32 : Bool → Option (List S_api_Token)) => (bif (decide (l28i7 < (255 : Int))) then (bif (decide ((IntKind.i64.wrap (l3i4 + l28i7)) < (a0.length : Int))) then (req (0 ≤ (IntKind.i64.wrap (l3i4 + l28i7)) ∧ (IntKind.i64.wrap (l3i4 + l28i7)) < (a0.length : Int)) (req (0 ≤ (IntKind.i64.wrap ((IntKind.i64.wrap (l3i4 + l28i7)) - l16i6)) ∧ (IntKind.i64.wrap ((IntKind.i64.wrap (l3i4 + l28i7)) - l16i6)) < (a0.length : Int)) (kk32 ((En.bAt a0 (IntKind.i64.wrap (l3i4 + l28i7))) == (En.bAt a0 (IntKind.i64.wrap ((IntKind.i64.wrap (l3i4 + l28i7)) - l16i6))))))) else (kk32 false)) else (kk32 false)))
def f_lumref_Greedy_L18 (a0 : (List UInt8)) (l3i4 : Int) (kk11 : (Int → Int → Int → Option (List S_api_Token))) (fu : Nat) : Nat → Int → Int → Int → Int → Option (List S_api_Token)
  | 0, _, _, _, _ => none
  | k17 + 1, l16i5_0, l16i5_1, l16i5_2, l16i6 => (lt (fun (l16i5_0 : Int) (l16i5_1 : Int) (l16i5_2 : Int) (l16i6 : Int) => (f_lumref_Greedy_L18 a0 l3i4 kk11 fu k17 l16i5_0 l16i5_1 l16i5_2 l16i6)) fun (kk19 : Int → Int → Int → Int → Option (List S_api_Token)) => (lt (fun (j20b22 : Bool) => (bif j20b22 then (lt (fun (j23i5_0 : Int) (j23i5_1 : Int) (j23i5_2 : Int) => (kk19 j23i5_0 j23i5_1 j23i5_2 (IntKind.i64.wrap (l16i6 + (1 : Int))))) fun (kk24 : Int → Int → Int → Option (List S_api_Token)) => (lt (fun (j25i7 : Int) => (bif (decide (j25i7 > l16i5_1)) then (kk24 (0 : Int) j25i7 l16i6) else (kk24 l16i5_0 l16i5_1 l16i5_2))) fun (kk26 : Int → Option (List S_api_Token)) => (f_lumref_Greedy_L30 a0 l3i4 l16i6 kk26 fu (0 : Int)))) else (kk11 l16i5_0 l16i5_1 l16i5_2))) fun (kk21 : Bool → Option (List S_api_Token)) => (bif (decide (l16i6 ≤ (1024 : Int))) then (kk21 (decide (l16i6 ≤ l3i4))) else (kk21 false))))
def f_lumref_Greedy_L5 (a0 : (List UInt8)) (kk2 : ((List S_api_Token) → Option (List S_api_Token))) (fu : Nat) : Nat → (List S_api_Token) → Int → Option (List S_api_Token)
  | 0, _, _ => none
  | k4 + 1, l3x3, l3i4 => (lt (fun (l3x3 : (List S_api_Token)) (l3i4 : Int) => (f_lumref_Greedy_L5 a0 kk2 fu k4 l3x3 l3i4)) fun (kk6 : (List S_api_Token) → Int → Option (List S_api_Token)) => (bif (decide (l3i4 < (a0.length : Int))) then (req (0 ≤ l3i4 ∧ l3i4 < (a0.length : Int)) (lt (fun (j10i5_0 : Int) (j10i5_1 : Int) (j10i5_2 : Int) => (req (((l3x3.length + ([(S_api_Token.mk j10i5_0 j10i5_1 j10i5_2)]).length) * 24 : Nat) ≤ 140737488355328 ∧ l3x3.length + ([(S_api_Token.mk j10i5_0 j10i5_1 j10i5_2)]).length ≤ 9223372036854775807) (bif (j10i5_1 == (0 : Int)) then (kk6 (l3x3 ++ ([(S_api_Token.mk j10i5_0 j10i5_1 j10i5_2)])) (IntKind.i64.wrap (l3i4 + (1 : Int)))) else (kk6 (l3x3 ++ ([(S_api_Token.mk j10i5_0 j10i5_1 j10i5_2)])) (IntKind.i64.wrap (l3i4 + j10i5_1)))))) fun (kk11 : Int → Int → Int → Option (List S_api_Token)) => (f_lumref_Greedy_L18 a0 l3i4 kk11 fu fu (En.bAt a0 l3i4) (0 : Int) (0 : Int) (1 : Int)))) else (kk2 l3x3)))
def f_lumref_Greedy (fu : Nat) (a0 : (List UInt8)) : Option (List S_api_Token) := (lt (fun (j1x3 : (List S_api_Token)) => (some j1x3)) fun (kk2 : (List S_api_Token) → Option (List S_api_Token)) => (f_lumref_Greedy_L5 a0 kk2 fu fu ([] : List S_api_Token) (0 : Int)))
set_option maxRecDepth 100000 in
set_option maxHeartbeats 2000000 in
theorem f_lumref_Greedy_ok (fu : Nat) (a0 : (List UInt8)) {r : (List S_api_Token)} (h : f_lumref_Greedy fu a0 = some r) : FnOk Tryd.prog 96 [(str a0)] [] [] (fun (i : Value) => { val := i, own := [(oRow i 132 tyS_api_Token r)] }) := by
 unfold f_lumref_Greedy at h
 refine fn_enter Tryd.func96 rfl Tryd.ntmps96 rfl (fun w0 Z0 => ?_)
 refine aw_sr ?_
 refine al_as rfl rfl ?_
 refine al_nt ?_
 refine aw_sr ?_
 refine al_as rfl rfl ?_
 refine al_nt ?_
 obtain ⟨kk2, hkk2, h⟩ := lt_some h
 refine aw_seq_join (ι := Value × (List S_api_Token)) (fun i => (memOf w0 Z0 [] [(oRow i.1 132 tyS_api_Token i.2)] [])) (fun i => (tab [(3, i.1)])) (fun i => kk2 i.2 = some r) ?_ ?_
 ·rintro ⟨j1v3, j1x3⟩ h
  have h : kk2 j1x3 = some r := h
  rw [hkk2] at h
  dsimp only at h
  clear hkk2
  refine aw_show (m := (memOf w0 Z0 [] [(oRow j1v3 132 tyS_api_Token j1x3)] [])) (S := (tab [(3, j1v3)])) ?_
  refine aw_sr ?_
  refine al_mv rfl rfl ?_
  refine al_as rfl rfl ?_
  refine al_nt ?_
  refine aw_ret ?_
  obtain rfl := Option.some.inj h
  exact fn_ret j1v3 [0] [] rfl rfl rfl rfl (res1 rfl rfl) rfl rfl rfl (by decide)
 ·clear hkk2
  refine aw_sr ?_
  refine al_as rfl rfl ?_
  refine al_nt ?_
  refine aw_block ?_
  refine aw_nilR 132 tyS_api_Token ?_
  refine aw_state (aw_loop (ι := Value × (List S_api_Token) × Int) (fun i => (memOf w0 Z0 [] [(oRow i.1 132 tyS_api_Token i.2.1)] [])) (fun i => (tab [(0, (str a0)), (3, i.1), (4, (int .i64 i.2.2))])) (fun q i => f_lumref_Greedy_L5 a0 kk2 fu q i.2.1 i.2.2 = some r) ?_ fu ((Value.slice none 0 0), ([] : List S_api_Token), (0 : Int)) h) (fun w a hm hs => norm hm hs [0] [] [(0, (str a0)), (3, (Value.slice none 0 0)), (4, (int .i64 (0 : Int)))] (by decide) ⟨rfl, rfl, rfl, trivial⟩)
  clear h
  rintro k4 ⟨l3v3, l3x3, l3i4⟩ h
  have h : f_lumref_Greedy_L5 a0 kk2 fu k4 l3x3 l3i4 = some r := h
  obtain _ | k4 := k4
  · rw [f_lumref_Greedy_L5] at h; cases h
  rw [f_lumref_Greedy_L5] at h
  refine aw_show (m := (memOf w0 Z0 [] [(oRow l3v3 132 tyS_api_Token l3x3)] [])) (S := (tab [(0, (str a0)), (3, l3v3), (4, (int .i64 l3i4))])) ?_
  obtain ⟨kk6, hkk6, h⟩ := lt_some h
  refine aw_body_join (ι := Value × (List S_api_Token) × Int) (fun i => (memOf w0 Z0 [] [(oRow i.1 132 tyS_api_Token i.2.1)] [])) (fun i => (tab [(0, (str a0)), (3, i.1), (4, (int .i64 i.2.2))])) (fun i => kk6 i.2.1 i.2.2 = some r) (fun i h => aq_again k4 i (Nat.lt_succ_self _) (by rw [hkk6] at h; exact h) (fun w a hm hs => ⟨hm, hs⟩)) ?_
  clear hkk6
  refine aw_seq ?_
  refine aw_sr ?_
  refine al_mv rfl rfl ?_
  refine al_mv rfl rfl ?_
  refine al_val (ov_strLen Tryd.underlying9 rfl rfl) ?_
  refine al_in rfl rfl rfl rfl ?_
  refine al_nt ?_
  refine aw_cond rfl (fun hb7 => ?_) (fun hb7 => ?_)
  ·replace h := bif_t hb7 h
   refine aw_skip ?_
   refine aq_then ?_
   refine aw_block ?_
   refine aw_sr ?_
   refine al_mv rfl rfl ?_
   refine al_mv rfl rfl ?_
   obtain ⟨hc8, h⟩ := req_some h
   refine al_val (ov_strIdx hc8.1 hc8.2 Tryd.underlying9 rfl rfl rfl) ?_
   refine al_val (ov_build (cells := ([(int .u8 (En.bAt a0 l3i4)), (int .i64 (0 : Int)), (int .i64 (0 : Int))]).toArray) (cs := [(int .u8 (En.bAt a0 l3i4)), (int .i64 (0 : Int)), (int .i64 (0 : Int))]) rfl (fun w a hm hs => by simp only [List.map_toArray, List.map_cons, List.map_nil, List.toList_toArray, hs.ev (x := .tmp 14) rfl]; kernel_rfl)) ?_
   refine al_alloc (zs := [(int .u8 (0 : Int)), (int .i64 (0 : Int)), (int .i64 (0 : Int))]) (zeroOf_to to132) rfl rfl (fun g9 => ?_)
   refine al_store (i := 0) (vs := [(int .u8 (En.bAt a0 l3i4)), (int .i64 (0 : Int)), (int .i64 (0 : Int))]) (cs' := [(int .u8 (En.bAt a0 l3i4)), (int .i64 (0 : Int)), (int .i64 (0 : Int))]) rfl rfl rfl sz132 (cv_rfl rfl) rfl (co_val rfl (co_val rfl (co_val rfl co_nil))) (Nat.le_of_ble_eq_true rfl) rfl rfl ?_
   refine al_nt ?_
   obtain ⟨kk11, hkk11, h⟩ := lt_some h
   refine aw_seq_join (ι := Int × Int × Int) (fun i => (memOf w0 Z0 [] [(oRow l3v3 132 tyS_api_Token l3x3), (oBox g9 132 [(int .u8 i.1), (int .i64 i.2.1), (int .i64 i.2.2)])] [])) (fun i => (tab [(0, (str a0)), (3, l3v3), (4, (int .i64 l3i4)), (5, (ptr g9 0))])) (fun i => kk11 i.1 i.2.1 i.2.2 = some r) ?_ ?_
   ·rintro ⟨j10i5_0, j10i5_1, j10i5_2⟩ h
    have h : kk11 j10i5_0 j10i5_1 j10i5_2 = some r := h
    rw [hkk11] at h
    dsimp only at h
    clear hkk11
    refine aw_show (m := (memOf w0 Z0 [] [(oRow l3v3 132 tyS_api_Token l3x3), (oBox g9 132 [(int .u8 j10i5_0), (int .i64 j10i5_1), (int .i64 j10i5_2)])] [])) (S := (tab [(0, (str a0)), (3, l3v3), (4, (int .i64 l3i4)), (5, (ptr g9 0))])) ?_
    refine aw_sr ?_
    refine al_mv rfl rfl ?_
    refine al_val (ov_load (i := 1) (v := (ag [(int .u8 j10i5_0), (int .i64 j10i5_1), (int .i64 j10i5_2)])) rfl rfl Tryd.underlying132 sz132 rfl rfl rfl rfl) ?_
    refine al_buildSlice (τ := tyS_api_Token) (e := 132) (k := 1) (sz := 0) (by_ := 0) (z := undef) (cs := [(int .u8 j10i5_0), (int .i64 j10i5_1), (int .i64 j10i5_2)]) (xs := [(S_api_Token.mk j10i5_0 j10i5_1 j10i5_2)]) rfl (by decide) (fun w a hm hs => ⟨([(int .u8 j10i5_0), (int .i64 j10i5_1), (int .i64 j10i5_2)]).toArray, rfl, by simp only [List.map_toArray, List.map_cons, List.map_nil, hs.ev (x := .tmp 60) rfl]; exact run_bs [(ag [(int .u8 j10i5_0), (int .i64 j10i5_1), (int .i64 j10i5_2)])] [(int .u8 j10i5_0), (int .i64 j10i5_1), (int .i64 j10i5_2)] Tryd.underlying67 to132 rfl rfl (bs_cons (l := [(int .u8 j10i5_0), (int .i64 j10i5_1), (int .i64 j10i5_2)]) (cs := []) (cv_rfl rfl) rfl bs_nil) hm⟩) (fun hm => ⟨_, _, rfl, (fun _ => mkS_api_Token rfl) hm, rfl⟩) rfl (fun v12 => ?_)
    obtain ⟨hc13, h⟩ := req_some h
    refine al_append 1 hc13.1 hc13.2 rfl (src_own (i := 1) 0 rfl) rfl rfl Tryd.underlying67 to132 rfl rfl rfl (fun v14 => ?_)
    refine al_as rfl rfl ?_
    refine al_nt ?_
    refine aw_sr ?_
    refine al_val (ov_fieldA (p := 1) rfl Tryd.underlying132 rfl sz3 rfl rfl rfl) ?_
    refine al_val (ov_load (i := 2) (v := (int .i64 j10i5_1)) rfl rfl Tryd.underlying3 sz3 rfl rfl rfl rfl) ?_
    refine al_in rfl rfl rfl rfl ?_
    refine al_nt ?_
    refine aw_cond rfl (fun hb15 => ?_) (fun hb15 => ?_)
    ·replace h := bif_t hb15 h
     refine aw_region ?_
     refine al_mv rfl rfl ?_
     refine al_in rfl rfl rfl rfl ?_
     refine al_as rfl rfl ?_
     refine al_nil ?_
     refine aq_block ?_
     exact aq_join (v14, (l3x3 ++ ([(S_api_Token.mk j10i5_0 j10i5_1 j10i5_2)])), (IntKind.i64.wrap (l3i4 + (1 : Int)))) h (fun w a hm hs => norm hm hs [1] [] [(0, (str a0)), (3, v14), (4, (int .i64 (IntKind.i64.wrap (l3i4 + (1 : Int)))))] (by decide) ⟨rfl, rfl, rfl, trivial⟩)
    ·replace h := bif_f hb15 h
     refine aw_region ?_
     refine al_mv rfl rfl ?_
     refine al_val (ov_fieldA (p := 1) rfl Tryd.underlying132 rfl sz3 rfl rfl rfl) ?_
     refine al_val (ov_load (i := 2) (v := (int .i64 j10i5_1)) rfl rfl Tryd.underlying3 sz3 rfl rfl rfl rfl) ?_
     refine al_in rfl rfl rfl rfl ?_
     refine al_as rfl rfl ?_
     refine al_nil ?_
     refine aq_block ?_
     exact aq_join (v14, (l3x3 ++ ([(S_api_Token.mk j10i5_0 j10i5_1 j10i5_2)])), (IntKind.i64.wrap (l3i4 + j10i5_1))) h (fun w a hm hs => norm hm hs [1] [] [(0, (str a0)), (3, v14), (4, (int .i64 (IntKind.i64.wrap (l3i4 + j10i5_1))))] (by decide) ⟨rfl, rfl, rfl, trivial⟩)
   ·clear hkk11
    refine aw_sr ?_
    refine al_as rfl rfl ?_
    refine al_nt ?_
    refine aw_block ?_
    refine aw_state (aw_loop (ι := Int × Int × Int × Int) (fun i => (memOf w0 Z0 [] [(oRow l3v3 132 tyS_api_Token l3x3), (oBox g9 132 [(int .u8 i.1), (int .i64 i.2.1), (int .i64 i.2.2.1)])] [])) (fun i => (tab [(0, (str a0)), (3, l3v3), (4, (int .i64 l3i4)), (5, (ptr g9 0)), (6, (int .i64 i.2.2.2))])) (fun q i => f_lumref_Greedy_L18 a0 l3i4 kk11 fu q i.1 i.2.1 i.2.2.1 i.2.2.2 = some r) ?_ fu ((En.bAt a0 l3i4), (0 : Int), (0 : Int), (1 : Int)) h) (fun w a hm hs => norm hm hs [1, 0] [] [(0, (str a0)), (3, l3v3), (4, (int .i64 l3i4)), (5, (ptr g9 0)), (6, (int .i64 (1 : Int)))] (by decide) ⟨rfl, rfl, rfl, rfl, rfl, trivial⟩)
    clear h
    rintro k17 ⟨l16i5_0, l16i5_1, l16i5_2, l16i6⟩ h
    have h : f_lumref_Greedy_L18 a0 l3i4 kk11 fu k17 l16i5_0 l16i5_1 l16i5_2 l16i6 = some r := h
    obtain _ | k17 := k17
    · rw [f_lumref_Greedy_L18] at h; cases h
    rw [f_lumref_Greedy_L18] at h
    refine aw_show (m := (memOf w0 Z0 [] [(oRow l3v3 132 tyS_api_Token l3x3), (oBox g9 132 [(int .u8 l16i5_0), (int .i64 l16i5_1), (int .i64 l16i5_2)])] [])) (S := (tab [(0, (str a0)), (3, l3v3), (4, (int .i64 l3i4)), (5, (ptr g9 0)), (6, (int .i64 l16i6))])) ?_
    obtain ⟨kk19, hkk19, h⟩ := lt_some h
    refine aw_body_join (ι := Int × Int × Int × Int) (fun i => (memOf w0 Z0 [] [(oRow l3v3 132 tyS_api_Token l3x3), (oBox g9 132 [(int .u8 i.1), (int .i64 i.2.1), (int .i64 i.2.2.1)])] [])) (fun i => (tab [(0, (str a0)), (3, l3v3), (4, (int .i64 l3i4)), (5, (ptr g9 0)), (6, (int .i64 i.2.2.2))])) (fun i => kk19 i.1 i.2.1 i.2.2.1 i.2.2.2 = some r) (fun i h => aq_again k17 i (Nat.lt_succ_self _) (by rw [hkk19] at h; exact h) (fun w a hm hs => ⟨hm, hs⟩)) ?_
    clear hkk19
    refine aw_seq ?_
    obtain ⟨kk21, hkk21, h⟩ := lt_some h
    refine aw_seq_join (ι := Bool) (fun i => (memOf w0 Z0 [] [(oRow l3v3 132 tyS_api_Token l3x3), (oBox g9 132 [(int .u8 l16i5_0), (int .i64 l16i5_1), (int .i64 l16i5_2)])] [])) (fun i => (tab [(0, (str a0)), (3, l3v3), (4, (int .i64 l3i4)), (5, (ptr g9 0)), (6, (int .i64 l16i6)), (22, (bool i))])) (fun i => kk21 i = some r) ?_ ?_
    ·rintro j20b22 h
     have h : kk21 j20b22 = some r := h
     rw [hkk21] at h
     dsimp only at h
     clear hkk21
     refine aw_show (m := (memOf w0 Z0 [] [(oRow l3v3 132 tyS_api_Token l3x3), (oBox g9 132 [(int .u8 l16i5_0), (int .i64 l16i5_1), (int .i64 l16i5_2)])] [])) (S := (tab [(0, (str a0)), (3, l3v3), (4, (int .i64 l3i4)), (5, (ptr g9 0)), (6, (int .i64 l16i6)), (22, (bool j20b22))])) ?_
     refine aw_cond rfl (fun hb22 => ?_) (fun hb22 => ?_)
     ·replace h := bif_t hb22 h
      refine aw_skip ?_
      refine aq_then ?_
      obtain ⟨kk24, hkk24, h⟩ := lt_some h
      refine aw_seq_join (ι := Int × Int × Int) (fun i => (memOf w0 Z0 [] [(oRow l3v3 132 tyS_api_Token l3x3), (oBox g9 132 [(int .u8 i.1), (int .i64 i.2.1), (int .i64 i.2.2)])] [])) (fun i => (tab [(0, (str a0)), (3, l3v3), (4, (int .i64 l3i4)), (5, (ptr g9 0)), (6, (int .i64 l16i6))])) (fun i => kk24 i.1 i.2.1 i.2.2 = some r) ?_ ?_
      ·rintro ⟨j23i5_0, j23i5_1, j23i5_2⟩ h
       have h : kk24 j23i5_0 j23i5_1 j23i5_2 = some r := h
       rw [hkk24] at h
       dsimp only at h
       clear hkk24
       refine aw_show (m := (memOf w0 Z0 [] [(oRow l3v3 132 tyS_api_Token l3x3), (oBox g9 132 [(int .u8 j23i5_0), (int .i64 j23i5_1), (int .i64 j23i5_2)])] [])) (S := (tab [(0, (str a0)), (3, l3v3), (4, (int .i64 l3i4)), (5, (ptr g9 0)), (6, (int .i64 l16i6))])) ?_
       refine aw_region ?_
       refine al_mv rfl rfl ?_
       refine al_in rfl rfl rfl rfl ?_
       refine al_as rfl rfl ?_
       refine al_nil ?_
       exact aq_join (j23i5_0, j23i5_1, j23i5_2, (IntKind.i64.wrap (l16i6 + (1 : Int)))) h (fun w a hm hs => norm hm hs [0, 1] [] [(0, (str a0)), (3, l3v3), (4, (int .i64 l3i4)), (5, (ptr g9 0)), (6, (int .i64 (IntKind.i64.wrap (l16i6 + (1 : Int)))))] (by decide) ⟨rfl, rfl, rfl, rfl, rfl, trivial⟩)
      ·clear hkk24
       refine aw_block ?_
       refine aw_sr ?_
       refine al_as rfl rfl ?_
       refine al_nt ?_
       obtain ⟨kk26, hkk26, h⟩ := lt_some h
       refine aw_seq_join (ι := Int) (fun i => (memOf w0 Z0 [] [(oRow l3v3 132 tyS_api_Token l3x3), (oBox g9 132 [(int .u8 l16i5_0), (int .i64 l16i5_1), (int .i64 l16i5_2)])] [])) (fun i => (tab [(0, (str a0)), (3, l3v3), (4, (int .i64 l3i4)), (5, (ptr g9 0)), (6, (int .i64 l16i6)), (7, (int .i64 i))])) (fun i => kk26 i = some r) ?_ ?_
       ·rintro j25i7 h
        have h : kk26 j25i7 = some r := h
        rw [hkk26] at h
        dsimp only at h
        clear hkk26
        refine aw_show (m := (memOf w0 Z0 [] [(oRow l3v3 132 tyS_api_Token l3x3), (oBox g9 132 [(int .u8 l16i5_0), (int .i64 l16i5_1), (int .i64 l16i5_2)])] [])) (S := (tab [(0, (str a0)), (3, l3v3), (4, (int .i64 l3i4)), (5, (ptr g9 0)), (6, (int .i64 l16i6)), (7, (int .i64 j25i7))])) ?_
        refine aw_sr ?_
        refine al_mv rfl rfl ?_
        refine al_val (ov_fieldA (p := 1) rfl Tryd.underlying132 rfl sz3 rfl rfl rfl) ?_
        refine al_val (ov_load (i := 1) (v := (int .i64 l16i5_1)) rfl rfl Tryd.underlying3 sz3 rfl rfl rfl rfl) ?_
        refine al_in rfl rfl rfl rfl ?_
        refine al_nt ?_
        refine aw_cond rfl (fun hb27 => ?_) (fun hb27 => ?_)
        ·replace h := bif_t hb27 h
         refine aw_region ?_
         refine al_mv rfl rfl ?_
         refine al_mv rfl rfl ?_
         refine al_val (ov_build (cells := ([(int .u8 (0 : Int)), (int .i64 j25i7), (int .i64 l16i6)]).toArray) (cs := [(int .u8 (0 : Int)), (int .i64 j25i7), (int .i64 l16i6)]) rfl (fun w a hm hs => by simp only [List.map_toArray, List.map_cons, List.map_nil, List.toList_toArray, hs.ev (x := .tmp 56) rfl, hs.ev (x := .tmp 57) rfl]; kernel_rfl)) ?_
         refine al_store (i := 1) (vs := [(int .u8 (0 : Int)), (int .i64 j25i7), (int .i64 l16i6)]) (cs' := [(int .u8 (0 : Int)), (int .i64 j25i7), (int .i64 l16i6)]) rfl rfl rfl sz132 (cv_rfl rfl) rfl (co_val rfl (co_val rfl (co_val rfl co_nil))) (Nat.le_of_ble_eq_true rfl) rfl rfl ?_
         refine al_nil ?_
         refine aq_block ?_
         exact aq_join ((0 : Int), j25i7, l16i6) h (fun w a hm hs => norm hm hs [0, 1] [] [(0, (str a0)), (3, l3v3), (4, (int .i64 l3i4)), (5, (ptr g9 0)), (6, (int .i64 l16i6))] (by decide) ⟨rfl, rfl, rfl, rfl, rfl, trivial⟩)
        ·replace h := bif_f hb27 h
         refine aw_skip ?_
         refine aq_block ?_
         exact aq_join (l16i5_0, l16i5_1, l16i5_2) h (fun w a hm hs => norm hm hs [0, 1] [] [(0, (str a0)), (3, l3v3), (4, (int .i64 l3i4)), (5, (ptr g9 0)), (6, (int .i64 l16i6))] (by decide) ⟨rfl, rfl, rfl, rfl, rfl, trivial⟩)
       ·clear hkk26
        refine aw_block ?_
        refine aw_state (aw_loop (ι := Int) (fun i => (memOf w0 Z0 [] [(oRow l3v3 132 tyS_api_Token l3x3), (oBox g9 132 [(int .u8 l16i5_0), (int .i64 l16i5_1), (int .i64 l16i5_2)])] [])) (fun i => (tab [(0, (str a0)), (3, l3v3), (4, (int .i64 l3i4)), (5, (ptr g9 0)), (6, (int .i64 l16i6)), (7, (int .i64 i))])) (fun q i => f_lumref_Greedy_L30 a0 l3i4 l16i6 kk26 q i = some r) ?_ fu (0 : Int) h) (fun w a hm hs => norm hm hs [0, 1] [] [(0, (str a0)), (3, l3v3), (4, (int .i64 l3i4)), (5, (ptr g9 0)), (6, (int .i64 l16i6)), (7, (int .i64 (0 : Int)))] (by decide) ⟨rfl, rfl, rfl, rfl, rfl, rfl, trivial⟩)
        clear h
        rintro k29 l28i7 h
        have h : f_lumref_Greedy_L30 a0 l3i4 l16i6 kk26 k29 l28i7 = some r := h
        obtain _ | k29 := k29
        · rw [f_lumref_Greedy_L30] at h; cases h
        rw [f_lumref_Greedy_L30] at h
        refine aw_show (m := (memOf w0 Z0 [] [(oRow l3v3 132 tyS_api_Token l3x3), (oBox g9 132 [(int .u8 l16i5_0), (int .i64 l16i5_1), (int .i64 l16i5_2)])] [])) (S := (tab [(0, (str a0)), (3, l3v3), (4, (int .i64 l3i4)), (5, (ptr g9 0)), (6, (int .i64 l16i6)), (7, (int .i64 l28i7))])) ?_
        refine aw_seq ?_
        obtain ⟨kk32, hkk32, h⟩ := lt_some h
        refine aw_seq_join (ι := Bool) (fun i => (memOf w0 Z0 [] [(oRow l3v3 132 tyS_api_Token l3x3), (oBox g9 132 [(int .u8 l16i5_0), (int .i64 l16i5_1), (int .i64 l16i5_2)])] [])) (fun i => (tab [(0, (str a0)), (3, l3v3), (4, (int .i64 l3i4)), (5, (ptr g9 0)), (6, (int .i64 l16i6)), (7, (int .i64 l28i7)), (49, (bool i))])) (fun i => kk32 i = some r) ?_ ?_
        ·rintro j31b49 h
         have h : kk32 j31b49 = some r := h
         rw [hkk32] at h
         dsimp only at h
         clear hkk32
         refine aw_show (m := (memOf w0 Z0 [] [(oRow l3v3 132 tyS_api_Token l3x3), (oBox g9 132 [(int .u8 l16i5_0), (int .i64 l16i5_1), (int .i64 l16i5_2)])] [])) (S := (tab [(0, (str a0)), (3, l3v3), (4, (int .i64 l3i4)), (5, (ptr g9 0)), (6, (int .i64 l16i6)), (7, (int .i64 l28i7)), (49, (bool j31b49))])) ?_
         refine aw_cond rfl (fun hb33 => ?_) (fun hb33 => ?_)
         ·replace h := bif_t hb33 h
          refine aw_skip ?_
          refine aq_then ?_
          refine aw_block ?_
          refine aw_region ?_
          refine al_mv rfl rfl ?_
          refine al_in rfl rfl rfl rfl ?_
          refine al_as rfl rfl ?_
          refine al_nil ?_
          refine aq_block ?_
          exact aq_again k29 (IntKind.i64.wrap (l28i7 + (1 : Int))) (Nat.lt_succ_self _) h (fun w a hm hs => norm hm hs [0, 1] [] [(0, (str a0)), (3, l3v3), (4, (int .i64 l3i4)), (5, (ptr g9 0)), (6, (int .i64 l16i6)), (7, (int .i64 (IntKind.i64.wrap (l28i7 + (1 : Int)))))] (by decide) ⟨rfl, rfl, rfl, rfl, rfl, rfl, trivial⟩)
         ·replace h := bif_f hb33 h
          refine aw_exit ?_
          refine aq_then_exit ?_
          refine aq_then_exit ?_
          refine aq_block_exit ?_
          exact aq_join l28i7 h (fun w a hm hs => norm hm hs [0, 1] [] [(0, (str a0)), (3, l3v3), (4, (int .i64 l3i4)), (5, (ptr g9 0)), (6, (int .i64 l16i6)), (7, (int .i64 l28i7))] (by decide) ⟨rfl, rfl, rfl, rfl, rfl, rfl, trivial⟩)
        ·clear hkk32
         rcases Bool.eq_false_or_eq_true (decide (l28i7 < (255 : Int))) with hb34 | hb34
         ·replace h := bif_t hb34 h
          rcases Bool.eq_false_or_eq_true (decide ((IntKind.i64.wrap (l3i4 + l28i7)) < (a0.length : Int))) with hb35 | hb35
          ·replace h := bif_t hb35 h
           obtain ⟨hc36, h⟩ := req_some h
           obtain ⟨hc37, h⟩ := req_some h
           refine aw_region_draw 24 [(25, (fun u => fEq u (int .i64 l28i7))), (26, (fun u => fEq u (bool true))), (27, (fun u => fEq u (bool true))), (28, (fun u => fEq u (int .i64 l3i4))), (29, (fun u => fEq u (int .i64 l28i7))), (30, (fun u => fEq u (int .i64 (IntKind.i64.wrap (l3i4 + l28i7))))), (31, (fun u => fEq u (str a0))), (32, (fun u => fEq u (int .i64 (a0.length : Int)))), (33, (fun u => fEq u (bool true))), (34, (fun u => fEq u (bool true))), (35, (fun u => fEq u (bool true))), (36, (fun u => fEq u (str a0))), (37, (fun u => fEq u (int .i64 l3i4))), (38, (fun u => fEq u (int .i64 l28i7))), (39, (fun u => fEq u (int .i64 (IntKind.i64.wrap (l3i4 + l28i7))))), (40, (fun u => fEq u (int .u8 (En.bAt a0 (IntKind.i64.wrap (l3i4 + l28i7)))))), (41, (fun u => fEq u (str a0))), (42, (fun u => fEq u (int .i64 l3i4))), (43, (fun u => fEq u (int .i64 l28i7))), (44, (fun u => fEq u (int .i64 (IntKind.i64.wrap (l3i4 + l28i7))))), (45, (fun u => fEq u (int .i64 l16i6))), (46, (fun u => fEq u (int .i64 (IntKind.i64.wrap ((IntKind.i64.wrap (l3i4 + l28i7)) - l16i6))))), (47, (fun u => fEq u (int .u8 (En.bAt a0 (IntKind.i64.wrap ((IntKind.i64.wrap (l3i4 + l28i7)) - l16i6)))))), (48, (fun u => fEq u (bool ((En.bAt a0 (IntKind.i64.wrap (l3i4 + l28i7))) == (En.bAt a0 (IntKind.i64.wrap ((IntKind.i64.wrap (l3i4 + l28i7)) - l16i6)))))))] (tab [(0, (str a0)), (3, l3v3), (4, (int .i64 l3i4)), (5, (ptr g9 0)), (6, (int .i64 l16i6)), (7, (int .i64 l28i7))]) mixed (by kernel_rfl) rfl rfl rfl (fun a hs => hs.tab _ (allT_mem ⟨rfl, rfl, rfl, rfl, rfl, rfl, trivial⟩)) ⟨⟨rfl, ld_val (ov_move rfl rfl)⟩, ⟨rfl, ld_eq (j := 0) rfl rfl (ld_val (ov_cast (by first | rw [hb34] | rfl) (ov_int rfl rfl rfl rfl)))⟩, ⟨rfl, ld_eq (j := 1) rfl rfl (ld_val (ov_cast (by first | rw [hb34] | rfl) (ov_move rfl rfl)))⟩, ⟨rfl, ld_eq (j := 2) rfl rfl (ld_val (ov_move rfl rfl))⟩, ⟨rfl, ld_eq (j := 2) rfl rfl (ld_val (ov_move rfl rfl))⟩, ⟨rfl, ld_eq (j := 2) rfl rfl (ld_eq (j := 3) rfl rfl (ld_eq (j := 4) rfl rfl (ld_val (ov_int rfl rfl rfl rfl))))⟩, ⟨rfl, ld_eq (j := 2) rfl rfl (ld_val (ov_move rfl rfl))⟩, ⟨rfl, ld_eq (j := 2) rfl rfl (ld_eq (j := 6) rfl rfl (ld_val (ov_strLen Tryd.underlying9 rfl rfl)))⟩, ⟨rfl, ld_eq (j := 2) rfl rfl (ld_eq (j := 5) rfl rfl (ld_eq (j := 7) rfl rfl (ld_val (ov_cast (by first | rw [hb35] | rfl) (ov_int rfl rfl rfl rfl)))))⟩, ⟨rfl, ld_eq (j := 2) rfl rfl (ld_eq (j := 8) rfl rfl (ld_val (ov_cast (by first | rw [hb35] | rfl) (ov_pick_t rfl rfl rfl))))⟩, ⟨rfl, ld_eq (j := 9) rfl rfl (ld_val (ov_cast (by first | rw [hb35] | rfl) (ov_move rfl rfl)))⟩, ⟨rfl, ld_eq (j := 10) rfl rfl (ld_val (ov_move rfl rfl))⟩, ⟨rfl, ld_eq (j := 10) rfl rfl (ld_val (ov_move rfl rfl))⟩, ⟨rfl, ld_eq (j := 10) rfl rfl (ld_val (ov_move rfl rfl))⟩, ⟨rfl, ld_eq (j := 10) rfl rfl (ld_eq (j := 12) rfl rfl (ld_eq (j := 13) rfl rfl (ld_val (ov_int rfl rfl rfl rfl))))⟩, ⟨rfl, ld_eq (j := 10) rfl rfl (ld_eq (j := 11) rfl rfl (ld_eq (j := 14) rfl rfl (ld_val (ov_strIdx hc36.1 hc36.2 Tryd.underlying9 rfl rfl rfl))))⟩, ⟨rfl, ld_eq (j := 10) rfl rfl (ld_val (ov_move rfl rfl))⟩, ⟨rfl, ld_eq (j := 10) rfl rfl (ld_val (ov_move rfl rfl))⟩, ⟨rfl, ld_eq (j := 10) rfl rfl (ld_val (ov_move rfl rfl))⟩, ⟨rfl, ld_eq (j := 10) rfl rfl (ld_eq (j := 17) rfl rfl (ld_eq (j := 18) rfl rfl (ld_val (ov_int rfl rfl rfl rfl))))⟩, ⟨rfl, ld_eq (j := 10) rfl rfl (ld_val (ov_move rfl rfl))⟩, ⟨rfl, ld_eq (j := 10) rfl rfl (ld_eq (j := 19) rfl rfl (ld_eq (j := 20) rfl rfl (ld_val (ov_int rfl rfl rfl rfl))))⟩, ⟨rfl, ld_eq (j := 10) rfl rfl (ld_eq (j := 16) rfl rfl (ld_eq (j := 21) rfl rfl (ld_val (ov_strIdx hc37.1 hc37.2 Tryd.underlying9 rfl rfl rfl))))⟩, ⟨rfl, ld_eq (j := 10) rfl rfl (ld_eq (j := 15) rfl rfl (ld_eq (j := 22) rfl rfl (ld_val (ov_int rfl rfl rfl rfl))))⟩, trivial⟩ ?_
           refine tl_eq 10 rfl ?_
           refine tl_eq 23 rfl ?_
           refine tl_done ?_
           refine al_val (ov_pick_t rfl rfl rfl) ?_
           refine al_nil ?_
           exact aq_join ((En.bAt a0 (IntKind.i64.wrap (l3i4 + l28i7))) == (En.bAt a0 (IntKind.i64.wrap ((IntKind.i64.wrap (l3i4 + l28i7)) - l16i6)))) h (fun w a hm hs => norm hm hs [0, 1] [] [(0, (str a0)), (3, l3v3), (4, (int .i64 l3i4)), (5, (ptr g9 0)), (6, (int .i64 l16i6)), (7, (int .i64 l28i7)), (49, (bool ((En.bAt a0 (IntKind.i64.wrap (l3i4 + l28i7))) == (En.bAt a0 (IntKind.i64.wrap ((IntKind.i64.wrap (l3i4 + l28i7)) - l16i6))))))] (by decide) ⟨rfl, rfl, rfl, rfl, rfl, rfl, rfl, trivial⟩)
          ·replace h := bif_f hb35 h
           refine aw_region_draw 24 [(25, (fun u => fEq u (int .i64 l28i7))), (26, (fun u => fEq u (bool true))), (27, (fun u => fEq u (bool true))), (28, (fun u => fEq u (int .i64 l3i4))), (29, (fun u => fEq u (int .i64 l28i7))), (30, (fun u => fEq u (int .i64 (IntKind.i64.wrap (l3i4 + l28i7))))), (31, (fun u => fEq u (str a0))), (32, (fun u => fEq u (int .i64 (a0.length : Int)))), (33, (fun u => fEq u (bool false))), (34, (fun u => fEq u (bool false))), (35, (fun u => fEq u (bool false))), (36, (fun u => fEq u undef)), (37, (fun u => fEq u undef)), (38, (fun u => fEq u undef)), (39, (fun u => fEq u undef)), (40, (fun u => fEq u undef)), (41, (fun u => fEq u undef)), (42, (fun u => fEq u undef)), (43, (fun u => fEq u undef)), (44, (fun u => fEq u undef)), (45, (fun u => fEq u undef)), (46, (fun u => fEq u undef)), (47, (fun u => fEq u undef)), (48, (fun u => fEq u undef))] (tab [(0, (str a0)), (3, l3v3), (4, (int .i64 l3i4)), (5, (ptr g9 0)), (6, (int .i64 l16i6)), (7, (int .i64 l28i7))]) mixed (by kernel_rfl) rfl rfl rfl (fun a hs => hs.tab _ (allT_mem ⟨rfl, rfl, rfl, rfl, rfl, rfl, trivial⟩)) ⟨⟨rfl, ld_val (ov_move rfl rfl)⟩, ⟨rfl, ld_eq (j := 0) rfl rfl (ld_val (ov_cast (by first | rw [hb34] | rfl) (ov_int rfl rfl rfl rfl)))⟩, ⟨rfl, ld_eq (j := 1) rfl rfl (ld_val (ov_cast (by first | rw [hb34] | rfl) (ov_move rfl rfl)))⟩, ⟨rfl, ld_eq (j := 2) rfl rfl (ld_val (ov_move rfl rfl))⟩, ⟨rfl, ld_eq (j := 2) rfl rfl (ld_val (ov_move rfl rfl))⟩, ⟨rfl, ld_eq (j := 2) rfl rfl (ld_eq (j := 3) rfl rfl (ld_eq (j := 4) rfl rfl (ld_val (ov_int rfl rfl rfl rfl))))⟩, ⟨rfl, ld_eq (j := 2) rfl rfl (ld_val (ov_move rfl rfl))⟩, ⟨rfl, ld_eq (j := 2) rfl rfl (ld_eq (j := 6) rfl rfl (ld_val (ov_strLen Tryd.underlying9 rfl rfl)))⟩, ⟨rfl, ld_eq (j := 2) rfl rfl (ld_eq (j := 5) rfl rfl (ld_eq (j := 7) rfl rfl (ld_val (ov_cast (by first | rw [hb35] | rfl) (ov_int rfl rfl rfl rfl)))))⟩, ⟨rfl, ld_eq (j := 2) rfl rfl (ld_eq (j := 8) rfl rfl (ld_val (ov_cast (by first | rw [hb35] | rfl) (ov_pick_t rfl rfl rfl))))⟩, ⟨rfl, ld_eq (j := 9) rfl rfl (ld_val (ov_cast (by first | rw [hb35] | rfl) (ov_move rfl rfl)))⟩, ⟨rfl, ld_eq (j := 10) rfl rfl (ld_skip)⟩, ⟨rfl, ld_eq (j := 10) rfl rfl (ld_skip)⟩, ⟨rfl, ld_eq (j := 10) rfl rfl (ld_skip)⟩, ⟨rfl, ld_eq (j := 10) rfl rfl (ld_skip)⟩, ⟨rfl, ld_eq (j := 10) rfl rfl (ld_skip)⟩, ⟨rfl, ld_eq (j := 10) rfl rfl (ld_skip)⟩, ⟨rfl, ld_eq (j := 10) rfl rfl (ld_skip)⟩, ⟨rfl, ld_eq (j := 10) rfl rfl (ld_skip)⟩, ⟨rfl, ld_eq (j := 10) rfl rfl (ld_skip)⟩, ⟨rfl, ld_eq (j := 10) rfl rfl (ld_skip)⟩, ⟨rfl, ld_eq (j := 10) rfl rfl (ld_skip)⟩, ⟨rfl, ld_eq (j := 10) rfl rfl (ld_skip)⟩, ⟨rfl, ld_eq (j := 10) rfl rfl (ld_skip)⟩, trivial⟩ ?_
           refine tl_eq 10 rfl ?_
           refine tl_eq 23 rfl ?_
           refine tl_done ?_
           refine al_val (ov_pick_f rfl rfl rfl) ?_
           refine al_nil ?_
           exact aq_join false h (fun w a hm hs => norm hm hs [0, 1] [] [(0, (str a0)), (3, l3v3), (4, (int .i64 l3i4)), (5, (ptr g9 0)), (6, (int .i64 l16i6)), (7, (int .i64 l28i7)), (49, (bool false))] (by decide) ⟨rfl, rfl, rfl, rfl, rfl, rfl, rfl, trivial⟩)
         ·replace h := bif_f hb34 h
          refine aw_region_draw 24 [(25, (fun u => fEq u (int .i64 l28i7))), (26, (fun u => fEq u (bool false))), (27, (fun u => fEq u (bool false))), (28, (fun u => fEq u undef)), (29, (fun u => fEq u undef)), (30, (fun u => fEq u undef)), (31, (fun u => fEq u undef)), (32, (fun u => fEq u undef)), (33, (fun u => fEq u undef)), (34, (fun u => fEq u (bool false))), (35, (fun u => fEq u (bool false))), (36, (fun u => fEq u undef)), (37, (fun u => fEq u undef)), (38, (fun u => fEq u undef)), (39, (fun u => fEq u undef)), (40, (fun u => fEq u undef)), (41, (fun u => fEq u undef)), (42, (fun u => fEq u undef)), (43, (fun u => fEq u undef)), (44, (fun u => fEq u undef)), (45, (fun u => fEq u undef)), (46, (fun u => fEq u undef)), (47, (fun u => fEq u undef)), (48, (fun u => fEq u undef))] (tab [(0, (str a0)), (3, l3v3), (4, (int .i64 l3i4)), (5, (ptr g9 0)), (6, (int .i64 l16i6)), (7, (int .i64 l28i7))]) mixed (by kernel_rfl) rfl rfl rfl (fun a hs => hs.tab _ (allT_mem ⟨rfl, rfl, rfl, rfl, rfl, rfl, trivial⟩)) ⟨⟨rfl, ld_val (ov_move rfl rfl)⟩, ⟨rfl, ld_eq (j := 0) rfl rfl (ld_val (ov_cast (by first | rw [hb34] | rfl) (ov_int rfl rfl rfl rfl)))⟩, ⟨rfl, ld_eq (j := 1) rfl rfl (ld_val (ov_cast (by first | rw [hb34] | rfl) (ov_move rfl rfl)))⟩, ⟨rfl, ld_eq (j := 2) rfl rfl (ld_skip)⟩, ⟨rfl, ld_eq (j := 2) rfl rfl (ld_skip)⟩, ⟨rfl, ld_eq (j := 2) rfl rfl (ld_skip)⟩, ⟨rfl, ld_eq (j := 2) rfl rfl (ld_skip)⟩, ⟨rfl, ld_eq (j := 2) rfl rfl (ld_skip)⟩, ⟨rfl, ld_eq (j := 2) rfl rfl (ld_skip)⟩, ⟨rfl, ld_eq (j := 2) rfl rfl (ld_eq (j := 8) rfl rfl (ld_val (ov_pick_f rfl rfl rfl)))⟩, ⟨rfl, ld_eq (j := 9) rfl rfl (ld_val (ov_move rfl rfl))⟩, ⟨rfl, ld_eq (j := 10) rfl rfl (ld_skip)⟩, ⟨rfl, ld_eq (j := 10) rfl rfl (ld_skip)⟩, ⟨rfl, ld_eq (j := 10) rfl rfl (ld_skip)⟩, ⟨rfl, ld_eq (j := 10) rfl rfl (ld_skip)⟩, ⟨rfl, ld_eq (j := 10) rfl rfl (ld_skip)⟩, ⟨rfl, ld_eq (j := 10) rfl rfl (ld_skip)⟩, ⟨rfl, ld_eq (j := 10) rfl rfl (ld_skip)⟩, ⟨rfl, ld_eq (j := 10) rfl rfl (ld_skip)⟩, ⟨rfl, ld_eq (j := 10) rfl rfl (ld_skip)⟩, ⟨rfl, ld_eq (j := 10) rfl rfl (ld_skip)⟩, ⟨rfl, ld_eq (j := 10) rfl rfl (ld_skip)⟩, ⟨rfl, ld_eq (j := 10) rfl rfl (ld_skip)⟩, ⟨rfl, ld_eq (j := 10) rfl rfl (ld_skip)⟩, trivial⟩ ?_
          refine tl_eq 10 rfl ?_
          refine tl_eq 23 rfl ?_
          refine tl_done ?_
          refine al_val (ov_pick_f rfl rfl rfl) ?_
          refine al_nil ?_
          exact aq_join false h (fun w a hm hs => norm hm hs [0, 1] [] [(0, (str a0)), (3, l3v3), (4, (int .i64 l3i4)), (5, (ptr g9 0)), (6, (int .i64 l16i6)), (7, (int .i64 l28i7)), (49, (bool false))] (by decide) ⟨rfl, rfl, rfl, rfl, rfl, rfl, rfl, trivial⟩)
     ·replace h := bif_f hb22 h
      refine aw_exit ?_
      refine aq_then_exit ?_
      refine aq_then_exit ?_
      refine aq_block_exit ?_
      exact aq_join (l16i5_0, l16i5_1, l16i5_2) h (fun w a hm hs => norm hm hs [0, 1] [] [(0, (str a0)), (3, l3v3), (4, (int .i64 l3i4)), (5, (ptr g9 0))] (by decide) ⟨rfl, rfl, rfl, rfl, trivial⟩)
    ·clear hkk21
     refine aw_region ?_
     refine al_mv rfl rfl ?_
     refine al_in rfl rfl rfl rfl ?_
     refine al_mv rfl rfl ?_
     refine al_caseB 18 rfl (fun hb38 => ?_) (fun hb38 => ?_)
     ·replace h := bif_t hb38 h
      refine al_mv rfl rfl ?_
      refine al_mv rfl rfl ?_
      refine al_in rfl rfl rfl rfl ?_
      refine al_val (ov_pick_t rfl rfl rfl) ?_
      refine al_nil ?_
      exact aq_join (decide (l16i6 ≤ l3i4)) h (fun w a hm hs => norm hm hs [0, 1] [] [(0, (str a0)), (3, l3v3), (4, (int .i64 l3i4)), (5, (ptr g9 0)), (6, (int .i64 l16i6)), (22, (bool (decide (l16i6 ≤ l3i4))))] (by decide) ⟨rfl, rfl, rfl, rfl, rfl, rfl, trivial⟩)
     ·replace h := bif_f hb38 h
      refine al_skip ?_
      refine al_skip ?_
      refine al_skip ?_
      refine al_val (ov_pick_f rfl rfl rfl) ?_
      refine al_nil ?_
      exact aq_join false h (fun w a hm hs => norm hm hs [0, 1] [] [(0, (str a0)), (3, l3v3), (4, (int .i64 l3i4)), (5, (ptr g9 0)), (6, (int .i64 l16i6)), (22, (bool false))] (by decide) ⟨rfl, rfl, rfl, rfl, rfl, rfl, trivial⟩)
  ·replace h := bif_f hb7 h
   refine aw_exit ?_
   refine aq_then_exit ?_
   refine aq_then_exit ?_
   refine aq_block_exit ?_
   exact aq_join (l3v3, l3x3) h (fun w a hm hs => norm hm hs [0] [] [(3, l3v3)] (by decide) ⟨rfl, trivial⟩)
def f_lumref_tokenText (fu : Nat) (a0 : S_api_Token) : Option (List UInt8) := (bif (a0.Len == (0 : Int)) then (req (0 ≤ (0 : Int) ∧ (0 : Int) ≤ 255) (req (0 ≤ a0.Lit ∧ a0.Lit ≤ 255) (some [(UInt8.ofNat ((0 : Int)).toNat), (UInt8.ofNat (a0.Lit).toNat)]))) else (req (0 ≤ (IntKind.u8.wrap a0.Len) ∧ (IntKind.u8.wrap a0.Len) ≤ 255) (req (0 ≤ (IntKind.u8.wrap ((a0.Dist).tmod (256 : Int))) ∧ (IntKind.u8.wrap ((a0.Dist).tmod (256 : Int))) ≤ 255) (req (0 ≤ (IntKind.u8.wrap (IntKind.i64.wrap ((a0.Dist).tdiv (256 : Int)))) ∧ (IntKind.u8.wrap (IntKind.i64.wrap ((a0.Dist).tdiv (256 : Int)))) ≤ 255) (some [(UInt8.ofNat ((IntKind.u8.wrap a0.Len)).toNat), (UInt8.ofNat ((IntKind.u8.wrap ((a0.Dist).tmod (256 : Int)))).toNat), (UInt8.ofNat ((IntKind.u8.wrap (IntKind.i64.wrap ((a0.Dist).tdiv (256 : Int))))).toNat)])))))
set_option maxRecDepth 100000 in
theorem f_lumref_tokenText_ok (fu : Nat) (a0 : S_api_Token) {r : (List UInt8)} (h : f_lumref_tokenText fu a0 = some r) : FnOk Tryd.prog 147 [(ag [(int .u8 a0.Lit), (int .i64 a0.Len), (int .i64 a0.Dist)])] [] [] (fun (i : Unit) => { val := (str r) }) := by
 unfold f_lumref_tokenText at h
 refine fn_enter Tryd.func147 rfl Tryd.ntmps147 rfl (fun w0 Z0 => ?_)
 refine aw_sr ?_
 refine al_box (vs := [(int .u8 a0.Lit), (int .i64 a0.Len), (int .i64 a0.Dist)]) rfl (cv_rfl rfl) rfl (fun g1 => ?_)
 refine al_as rfl rfl ?_
 refine al_nt ?_
 refine aw_seq ?_
 refine aw_sr ?_
 refine al_val (ov_fieldA (p := 1) rfl Tryd.underlying132 rfl sz3 rfl rfl rfl) ?_
 refine al_val (ov_load (i := 0) (v := (int .i64 a0.Len)) rfl rfl Tryd.underlying3 sz3 rfl rfl rfl rfl) ?_
 refine al_in rfl rfl rfl rfl ?_
 refine al_nt ?_
 refine aw_cond rfl (fun hb2 => ?_) (fun hb2 => ?_)
 ·replace h := bif_t hb2 h
  refine aw_sr ?_
  refine al_val (ov_fieldA (p := 0) rfl Tryd.underlying132 rfl sz5 rfl rfl rfl) ?_
  refine al_val (ov_load (i := 0) (v := (int .u8 a0.Lit)) rfl rfl Tryd.underlying5 sz5 rfl rfl rfl rfl) ?_
  obtain ⟨hc4, h⟩ := req_some h
  obtain ⟨hc5, h⟩ := req_some h
  refine al_buildSlice (τ := tyU8) (e := 5) (k := 2) (sz := 0) (by_ := 0) (z := undef) (cs := [(int .u8 (0 : Int)), (int .u8 a0.Lit)]) (xs := [(UInt8.ofNat ((0 : Int)).toNat), (UInt8.ofNat (a0.Lit).toNat)]) rfl (by decide) (fun w a hm hs => ⟨([(int .u8 (0 : Int)), (int .u8 a0.Lit)]).toArray, rfl, by simp only [List.map_toArray, List.map_cons, List.map_nil, hs.ev (x := .const (int .u8 (0 : Int))) rfl, hs.ev (x := .tmp 7) rfl]; exact run_bs [(int .u8 (0 : Int)), (int .u8 a0.Lit)] [(int .u8 (0 : Int)), (int .u8 a0.Lit)] Tryd.underlying74 to5 rfl rfl (bs_cons (l := [(int .u8 (0 : Int))]) (cs := [(int .u8 a0.Lit)]) (cv_rfl rfl) rfl (bs_cons (l := [(int .u8 a0.Lit)]) (cs := []) (cv_rfl rfl) rfl bs_nil)) hm⟩) (fun hm => ⟨_, _, rfl, (fun _ => u8_rep hc4) hm, ⟨_, _, rfl, (fun _ => u8_rep hc5) hm, rfl⟩⟩) rfl (fun v3 => ?_)
  refine al_val (ov_toStrR 0 rfl rfl Tryd.underlying74 Tryd.underlying5 Tryd.underlying9 rfl) ?_
  refine al_as rfl rfl ?_
  refine al_nt ?_
  refine aw_ret ?_
  refine aq_then_ret ?_
  obtain rfl := Option.some.inj h
  exact fn_ret () [] [] rfl rfl rfl rfl (res1 rfl rfl) rfl rfl rfl (by decide)
 ·replace h := bif_f hb2 h
  refine aw_skip ?_
  refine aq_tr ?_
  refine al_val (ov_fieldA (p := 1) rfl Tryd.underlying132 rfl sz3 rfl rfl rfl) ?_
  refine al_val (ov_load (i := 0) (v := (int .i64 a0.Len)) rfl rfl Tryd.underlying3 sz3 rfl rfl rfl rfl) ?_
  refine al_val (ov_convInt (by rw [Tryd.underlying3]; rfl) Tryd.underlying5 rfl rfl) ?_
  refine al_val (ov_fieldA (p := 2) rfl Tryd.underlying132 rfl sz3 rfl rfl rfl) ?_
  refine al_val (ov_load (i := 0) (v := (int .i64 a0.Dist)) rfl rfl Tryd.underlying3 sz3 rfl rfl rfl rfl) ?_
  refine al_val (ov_rem (by decide) rfl rfl rfl) ?_
  refine al_val (ov_convInt (by rw [Tryd.underlying3]; rfl) Tryd.underlying5 rfl rfl) ?_
  refine al_val (ov_fieldA (p := 2) rfl Tryd.underlying132 rfl sz3 rfl rfl rfl) ?_
  refine al_val (ov_load (i := 0) (v := (int .i64 a0.Dist)) rfl rfl Tryd.underlying3 sz3 rfl rfl rfl rfl) ?_
  refine al_val (ov_quo (by decide) rfl rfl rfl) ?_
  refine al_val (ov_convInt (by rw [Tryd.underlying3]; rfl) Tryd.underlying5 rfl rfl) ?_
  obtain ⟨hc7, h⟩ := req_some h
  obtain ⟨hc8, h⟩ := req_some h
  obtain ⟨hc9, h⟩ := req_some h
  refine al_buildSlice (τ := tyU8) (e := 5) (k := 3) (sz := 0) (by_ := 0) (z := undef) (cs := [(int .u8 (IntKind.u8.wrap a0.Len)), (int .u8 (IntKind.u8.wrap ((a0.Dist).tmod (256 : Int)))), (int .u8 (IntKind.u8.wrap (IntKind.i64.wrap ((a0.Dist).tdiv (256 : Int)))))]) (xs := [(UInt8.ofNat ((IntKind.u8.wrap a0.Len)).toNat), (UInt8.ofNat ((IntKind.u8.wrap ((a0.Dist).tmod (256 : Int)))).toNat), (UInt8.ofNat ((IntKind.u8.wrap (IntKind.i64.wrap ((a0.Dist).tdiv (256 : Int))))).toNat)]) rfl (by decide) (fun w a hm hs => ⟨([(int .u8 (IntKind.u8.wrap a0.Len)), (int .u8 (IntKind.u8.wrap ((a0.Dist).tmod (256 : Int)))), (int .u8 (IntKind.u8.wrap (IntKind.i64.wrap ((a0.Dist).tdiv (256 : Int)))))]).toArray, rfl, by simp only [List.map_toArray, List.map_cons, List.map_nil, hs.ev (x := .tmp 12) rfl, hs.ev (x := .tmp 16) rfl, hs.ev (x := .tmp 20) rfl]; exact run_bs [(int .u8 (IntKind.u8.wrap a0.Len)), (int .u8 (IntKind.u8.wrap ((a0.Dist).tmod (256 : Int)))), (int .u8 (IntKind.u8.wrap (IntKind.i64.wrap ((a0.Dist).tdiv (256 : Int)))))] [(int .u8 (IntKind.u8.wrap a0.Len)), (int .u8 (IntKind.u8.wrap ((a0.Dist).tmod (256 : Int)))), (int .u8 (IntKind.u8.wrap (IntKind.i64.wrap ((a0.Dist).tdiv (256 : Int)))))] Tryd.underlying74 to5 rfl rfl (bs_cons (l := [(int .u8 (IntKind.u8.wrap a0.Len))]) (cs := [(int .u8 (IntKind.u8.wrap ((a0.Dist).tmod (256 : Int)))), (int .u8 (IntKind.u8.wrap (IntKind.i64.wrap ((a0.Dist).tdiv (256 : Int)))))]) (cv_rfl rfl) rfl (bs_cons (l := [(int .u8 (IntKind.u8.wrap ((a0.Dist).tmod (256 : Int))))]) (cs := [(int .u8 (IntKind.u8.wrap (IntKind.i64.wrap ((a0.Dist).tdiv (256 : Int)))))]) (cv_rfl rfl) rfl (bs_cons (l := [(int .u8 (IntKind.u8.wrap (IntKind.i64.wrap ((a0.Dist).tdiv (256 : Int)))))]) (cs := []) (cv_rfl rfl) rfl bs_nil))) hm⟩) (fun hm => ⟨_, _, rfl, (fun _ => u8_rep hc7) hm, ⟨_, _, rfl, (fun _ => u8_rep hc8) hm, ⟨_, _, rfl, (fun _ => u8_rep hc9) hm, rfl⟩⟩⟩) rfl (fun v6 => ?_)
  refine al_val (ov_toStrR 0 rfl rfl Tryd.underlying74 Tryd.underlying5 Tryd.underlying9 rfl) ?_
  refine al_as rfl rfl ?_
  refine al_nt ?_
  refine aw_ret ?_
  obtain rfl := Option.some.inj h
  exact fn_ret () [] [] rfl rfl rfl rfl (res1 rfl rfl) rfl rfl rfl (by decide)
def f_lumref_TokensText_L5 (a0 : (List S_api_Token)) (kk2 : ((List UInt8) → Option (List UInt8))) (fu : Nat) : Nat → (List UInt8) → Int → Option (List UInt8)
  | 0, _, _ => none
  | k4 + 1, l3s3, l3i8 => (bif (decide (l3i8 < (a0.length : Int))) then (opt (at? a0 l3i8) fun (u7 : S_api_Token) => (opt (f_lumref_tokenText fu u7) fun (r12 : (List UInt8)) => (req (l3s3.length + r12.length ≤ 9223372036854775807) (f_lumref_TokensText_L5 a0 kk2 fu k4 (l3s3 ++ r12) (IntKind.i64.wrap (l3i8 + (1 : Int))))))) else (kk2 l3s3))
def f_lumref_TokensText (fu : Nat) (a0 : (List S_api_Token)) : Option (List UInt8) := (lt (fun (j1s3 : (List UInt8)) => (some j1s3)) fun (kk2 : (List UInt8) → Option (List UInt8)) => (f_lumref_TokensText_L5 a0 kk2 fu fu ([] : List UInt8) (0 : Int)))
set_option maxRecDepth 100000 in
theorem f_lumref_TokensText_ok (fu : Nat) (v0_0 : Value) (a0 : (List S_api_Token)) {r : (List UInt8)} (h : f_lumref_TokensText fu a0 = some r) : FnOk Tryd.prog 95 [v0_0] [(fDat (tyList tyS_api_Token) [v0_0] a0)] [] (fun (i : Unit) => { val := (str r) }) := by
 unfold f_lumref_TokensText at h
 refine fn_enter Tryd.func95 rfl Tryd.ntmps95 rfl (fun w0 Z0 => ?_)
 refine aw_sr ?_
 refine al_as rfl rfl ?_
 refine al_nt ?_
 refine aw_sr ?_
 refine al_as rfl rfl ?_
 refine al_nt ?_
 obtain ⟨kk2, hkk2, h⟩ := lt_some h
 refine aw_seq_join (ι := (List UInt8)) (fun i => (memOf w0 Z0 [] [] [(fDat (tyList tyS_api_Token) [v0_0] a0)])) (fun i => (tab [(3, (str i))])) (fun i => kk2 i = some r) ?_ ?_
 ·rintro j1s3 h
  have h : kk2 j1s3 = some r := h
  rw [hkk2] at h
  dsimp only at h
  clear hkk2
  refine aw_show (m := (memOf w0 Z0 [] [] [(fDat (tyList tyS_api_Token) [v0_0] a0)])) (S := (tab [(3, (str j1s3))])) ?_
  refine aw_sr ?_
  refine al_mv rfl rfl ?_
  refine al_as rfl rfl ?_
  refine al_nt ?_
  refine aw_ret ?_
  obtain rfl := Option.some.inj h
  exact fn_ret () [] [] rfl rfl rfl rfl (res1 rfl rfl) rfl rfl rfl (by decide)
 ·clear hkk2
  refine aw_sr ?_
  refine al_mv rfl rfl ?_
  refine al_val (ov_lenD 0 rfl rfl Tryd.underlying67 rfl) ?_
  refine al_mv rfl rfl ?_
  refine al_nt ?_
  refine aw_block ?_
  refine aw_state (aw_loop (ι := (List UInt8) × Int) (fun i => (memOf w0 Z0 [] [] [(fDat (tyList tyS_api_Token) [v0_0] a0)])) (fun i => (tab [(3, (str i.1)), (6, v0_0), (7, (int .i64 (a0.length : Int))), (8, (int .i64 i.2))])) (fun q i => f_lumref_TokensText_L5 a0 kk2 fu q i.1 i.2 = some r) ?_ fu (([] : List UInt8), (0 : Int)) h) (fun w a hm hs => norm hm hs [] [0] [(3, (str ([] : List UInt8))), (6, v0_0), (7, (int .i64 (a0.length : Int))), (8, (int .i64 (0 : Int)))] (by decide) ⟨rfl, rfl, rfl, rfl, trivial⟩)
  clear h
  rintro k4 ⟨l3s3, l3i8⟩ h
  have h : f_lumref_TokensText_L5 a0 kk2 fu k4 l3s3 l3i8 = some r := h
  obtain _ | k4 := k4
  · rw [f_lumref_TokensText_L5] at h; cases h
  rw [f_lumref_TokensText_L5] at h
  refine aw_show (m := (memOf w0 Z0 [] [] [(fDat (tyList tyS_api_Token) [v0_0] a0)])) (S := (tab [(3, (str l3s3)), (6, v0_0), (7, (int .i64 (a0.length : Int))), (8, (int .i64 l3i8))])) ?_
  refine aw_sr ?_
  refine al_in rfl rfl rfl rfl ?_
  refine al_nt ?_
  refine aw_seq ?_
  refine aw_cond rfl (fun hb6 => ?_) (fun hb6 => ?_)
  ·replace h := bif_t hb6 h
   refine aw_skip ?_
   refine aq_then ?_
   refine aw_seq ?_
   refine aw_block ?_
   refine aw_sr ?_
   obtain ⟨u7, hu8, h⟩ := opt_some h
   refine al_idxD 0 hu8 rfl rfl rfl Tryd.underlying67 sz132 rfl (fun p9 => ?_)
   refine al_val (ov_loadP (ds := [(int .u8 u7.Lit), (int .i64 u7.Len), (int .i64 u7.Dist)]) 0 rfl encS_api_Token rfl Tryd.underlying132 sz132 rfl rfl rfl) ?_
   refine al_alloc (zs := [(int .u8 (0 : Int)), (int .i64 (0 : Int)), (int .i64 (0 : Int))]) (zeroOf_to to132) rfl rfl (fun g10 => ?_)
   refine al_store (i := 0) (vs := [(int .u8 u7.Lit), (int .i64 u7.Len), (int .i64 u7.Dist)]) (cs' := [(int .u8 u7.Lit), (int .i64 u7.Len), (int .i64 u7.Dist)]) rfl rfl rfl sz132 (cv_rfl rfl) rfl (co_val rfl (co_val rfl (co_val rfl co_nil))) (Nat.le_of_ble_eq_true rfl) rfl rfl ?_
   refine al_nt ?_
   refine aw_region ?_
   refine al_mv rfl rfl ?_
   refine al_val (ov_load (i := 0) (v := (ag [(int .u8 u7.Lit), (int .i64 u7.Len), (int .i64 u7.Dist)])) rfl rfl Tryd.underlying132 sz132 rfl rfl rfl rfl) ?_
   obtain ⟨r12, hc11, h⟩ := opt_some h
   refine al_call (vs := [(ag [(int .u8 u7.Lit), (int .i64 u7.Len), (int .i64 u7.Dist)])]) (f_lumref_tokenText_ok fu u7 hc11) [] [] [0] pre_nil rfl (by simp) (by decide) (.inl rfl) rfl Tryd.func147 rfl rfl rfl (fun _ => ?_)
   obtain ⟨hc13, h⟩ := req_some h
   refine al_val (ov_strAdd hc13 rfl rfl rfl) ?_
   refine al_as rfl rfl ?_
   refine al_nil ?_
   refine aq_block ?_
   refine aq_then ?_
   refine aw_region ?_
   refine al_in rfl rfl rfl rfl ?_
   refine al_mv rfl rfl ?_
   refine al_nil ?_
   exact aq_again k4 ((l3s3 ++ r12), (IntKind.i64.wrap (l3i8 + (1 : Int)))) (Nat.lt_succ_self _) h (fun w a hm hs => norm hm hs [] [1] [(3, (str (l3s3 ++ r12))), (6, v0_0), (7, (int .i64 (a0.length : Int))), (8, (int .i64 (IntKind.i64.wrap (l3i8 + (1 : Int)))))] (by decide) ⟨rfl, rfl, rfl, rfl, trivial⟩)
  ·replace h := bif_f hb6 h
   refine aw_exit ?_
   refine aq_then_exit ?_
   refine aq_then_exit ?_
   refine aq_block_exit ?_
   exact aq_join l3s3 h (fun w a hm hs => norm hm hs [] [0] [(3, (str l3s3))] (by decide) ⟨rfl, trivial⟩)
def f_lumref_least_L13 (a0 : (List S_lumref_bunch)) (j2i4 : Int) (kk5 : ((List S_lumref_bunch) → Option (S_lumref_bunch × (List S_lumref_bunch)))) : Nat → (List S_lumref_bunch) → Int → Option (S_lumref_bunch × (List S_lumref_bunch))
  | 0, _, _ => none
  | k12 + 1, l11x7, l11i53 => (bif (decide (l11i53 < (a0.length : Int))) then (lt (fun (j15x7 : (List S_lumref_bunch)) => (f_lumref_least_L13 a0 j2i4 kk5 k12 j15x7 (IntKind.i64.wrap (l11i53 + (1 : Int))))) fun (kk16 : (List S_lumref_bunch) → Option (S_lumref_bunch × (List S_lumref_bunch))) => (opt (at? a0 l11i53) fun (u17 : S_lumref_bunch) => (bif (l11i53 != j2i4) then (req (((l11x7.length + ([u17]).length) * 32 : Nat) ≤ 140737488355328 ∧ l11x7.length + ([u17]).length ≤ 9223372036854775807) (kk16 (l11x7 ++ ([u17])))) else (kk16 l11x7)))) else (kk5 l11x7))
def f_lumref_least_L29 (a0 : (List S_lumref_bunch)) (kk3 : (Int → Option (S_lumref_bunch × (List S_lumref_bunch)))) : Nat → Int → Int → Option (S_lumref_bunch × (List S_lumref_bunch))
  | 0, _, _ => none
  | k28 + 1, l27i12, l27i4 => (bif (decide (l27i12 < (a0.length : Int))) then (lt (fun (j31i4 : Int) => (f_lumref_least_L29 a0 kk3 k28 (IntKind.i64.wrap (l27i12 + (1 : Int))) j31i4)) fun (kk32 : Int → Option (S_lumref_bunch × (List S_lumref_bunch))) => (opt (at? a0 l27i12) fun (u33 : S_lumref_bunch) => (lt (fun (j39b48 : Bool) => (bif j39b48 then (kk32 l27i12) else (kk32 l27i4))) fun (kk40 : Bool → Option (S_lumref_bunch × (List S_lumref_bunch))) => (opt (at? a0 l27i4) fun (u42 : S_lumref_bunch) => (bif (decide (u33.weight < u42.weight)) then (kk40 true) else (opt (at? a0 l27i4) fun (u47 : S_lumref_bunch) => (bif (u33.weight == u47.weight) then (opt (at? u33.signs (0 : Int)) fun (u52 : Int) => (opt (at? a0 l27i4) fun (u55 : S_lumref_bunch) => (opt (at? u55.signs (0 : Int)) fun (u60 : Int) => (kk40 (decide (u52 < u60)))))) else (kk40 false)))))))) else (kk3 l27i4))
def f_lumref_least (fu : Nat) (a0 : (List S_lumref_bunch)) : Option (S_lumref_bunch × (List S_lumref_bunch)) := (lt (fun (j2i4 : Int) => (lt (fun (j4x7 : (List S_lumref_bunch)) => (opt (at? a0 j2i4) fun (u6 : S_lumref_bunch) => (some (u6, j4x7)))) fun (kk5 : (List S_lumref_bunch) → Option (S_lumref_bunch × (List S_lumref_bunch))) => (f_lumref_least_L13 a0 j2i4 kk5 fu ([] : List S_lumref_bunch) (0 : Int)))) fun (kk3 : Int → Option (S_lumref_bunch × (List S_lumref_bunch))) => (f_lumref_least_L29 a0 kk3 fu (0 : Int) (0 : Int)))
set_option maxRecDepth 100000 in
theorem f_lumref_least_ok (fu : Nat) (v0_0 : Value) (a0 : (List S_lumref_bunch)) {r : (S_lumref_bunch × (List S_lumref_bunch))} (h : f_lumref_least fu a0 = some r) : FnOk Tryd.prog 148 [v0_0] [(fDat (tyList tyS_lumref_bunch) [v0_0] a0)] [] (fun (i : Value × Value) => { val := (Value.tuple #[(ag [(int .i64 r.1.weight), i.1]), i.2]), own := [(oRow i.2 204 tyS_lumref_bunch r.2)], fz := [(fDat (tyList (tyInt .i64)) [i.1] r.1.signs)] }) := by
 unfold f_lumref_least at h
 refine fn_enter Tryd.func148 rfl Tryd.ntmps148 rfl (fun w0 Z0 => ?_)
 refine aw_sr ?_
 refine al_alloc (zs := [(int .i64 (0 : Int)), (Value.slice none 0 0)]) (zeroOf_to to204) rfl rfl (fun g1 => ?_)
 refine al_as rfl rfl ?_
 refine al_nt ?_
 refine aw_sr ?_
 refine al_as rfl rfl ?_
 refine al_nt ?_
 obtain ⟨kk3, hkk3, h⟩ := lt_some h
 refine aw_seq_join (ι := Int) (fun i => (memOf w0 Z0 [] [(oBox g1 204 [(int .i64 (0 : Int)), (Value.slice none 0 0)])] [(fDat (tyList tyS_lumref_bunch) [v0_0] a0)])) (fun i => (tab [(0, v0_0), (2, (ptr g1 0)), (4, (int .i64 i))])) (fun i => kk3 i = some r) ?_ ?_
 ·rintro j2i4 h
  have h : kk3 j2i4 = some r := h
  rw [hkk3] at h
  dsimp only at h
  clear hkk3
  refine aw_show (m := (memOf w0 Z0 [] [(oBox g1 204 [(int .i64 (0 : Int)), (Value.slice none 0 0)])] [(fDat (tyList tyS_lumref_bunch) [v0_0] a0)])) (S := (tab [(0, v0_0), (2, (ptr g1 0)), (4, (int .i64 j2i4))])) ?_
  refine aw_sr ?_
  refine al_as rfl rfl ?_
  refine al_nt ?_
  obtain ⟨kk5, hkk5, h⟩ := lt_some h
  refine aw_seq_join (ι := Value × (List S_lumref_bunch)) (fun i => (memOf w0 Z0 [] [(oBox g1 204 [(int .i64 (0 : Int)), (Value.slice none 0 0)]), (oRow i.1 204 tyS_lumref_bunch i.2)] [(fDat (tyList tyS_lumref_bunch) [v0_0] a0)])) (fun i => (tab [(0, v0_0), (2, (ptr g1 0)), (4, (int .i64 j2i4)), (7, i.1)])) (fun i => kk5 i.2 = some r) ?_ ?_
  ·rintro ⟨j4v7, j4x7⟩ h
   have h : kk5 j4x7 = some r := h
   rw [hkk5] at h
   dsimp only at h
   clear hkk5
   refine aw_show (m := (memOf w0 Z0 [] [(oBox g1 204 [(int .i64 (0 : Int)), (Value.slice none 0 0)]), (oRow j4v7 204 tyS_lumref_bunch j4x7)] [(fDat (tyList tyS_lumref_bunch) [v0_0] a0)])) (S := (tab [(0, v0_0), (2, (ptr g1 0)), (4, (int .i64 j2i4)), (7, j4v7)])) ?_
   refine aw_sr ?_
   refine al_mv rfl rfl ?_
   refine al_mv rfl rfl ?_
   obtain ⟨u6, hu7, h⟩ := opt_some h
   refine al_idxD 0 hu7 rfl rfl rfl Tryd.underlying202 sz204 rfl (fun p8 => ?_)
   refine al_loadPA 0 rfl rfl Tryd.underlying204 sz204 rfl rfl (fun cs10 => ?_)
   refine al_use (ι := Value) 0 rfl (fun j => cs10 = [(int .i64 u6.weight), j]) (fun j => [(fDat (tyList (tyInt .i64)) [j] u6.signs)]) encnS_lumref_bunch (fun s9 hq => ?_)
   subst hq
   refine al_mv rfl rfl ?_
   refine al_store (i := 0) (vs := [(int .i64 u6.weight), s9]) (cs' := [(int .i64 u6.weight), s9]) rfl rfl rfl sz204 (cv_rfl rfl) rfl (co_val rfl (co_fz 0 rfl co_nil)) (Nat.le_of_ble_eq_true rfl) rfl rfl ?_
   refine al_as rfl rfl ?_
   refine al_nt ?_
   refine aw_ret ?_
   obtain rfl := Option.some.inj h
   exact fn_ret (s9, j4v7) [1] [0] rfl rfl rfl rfl (resC rfl (resB (i := 0) rfl rfl Tryd.underlying204 sz204 rfl rfl rfl (resT rfl (resN))) rfl) rfl rfl rfl (by decide)
  ·clear hkk5
   refine aw_sr ?_
   refine al_mv rfl rfl ?_
   refine al_val (ov_lenD 0 rfl rfl Tryd.underlying202 rfl) ?_
   refine al_mv rfl rfl ?_
   refine al_nt ?_
   refine aw_block ?_
   refine aw_nilR 204 tyS_lumref_bunch ?_
   refine aw_state (aw_loop (ι := Value × (List S_lumref_bunch) × Int) (fun i => (memOf w0 Z0 [] [(oBox g1 204 [(int .i64 (0 : Int)), (Value.slice none 0 0)]), (oRow i.1 204 tyS_lumref_bunch i.2.1)] [(fDat (tyList tyS_lumref_bunch) [v0_0] a0)])) (fun i => (tab [(0, v0_0), (2, (ptr g1 0)), (4, (int .i64 j2i4)), (7, i.1), (51, v0_0), (52, (int .i64 (a0.length : Int))), (53, (int .i64 i.2.2))])) (fun q i => f_lumref_least_L13 a0 j2i4 kk5 q i.2.1 i.2.2 = some r) ?_ fu ((Value.slice none 0 0), ([] : List S_lumref_bunch), (0 : Int)) h) (fun w a hm hs => norm hm hs [1, 0] [0] [(0, v0_0), (2, (ptr g1 0)), (4, (int .i64 j2i4)), (7, (Value.slice none 0 0)), (51, v0_0), (52, (int .i64 (a0.length : Int))), (53, (int .i64 (0 : Int)))] (by decide) ⟨rfl, rfl, rfl, rfl, rfl, rfl, rfl, trivial⟩)
   clear h
   rintro k12 ⟨l11v7, l11x7, l11i53⟩ h
   have h : f_lumref_least_L13 a0 j2i4 kk5 k12 l11x7 l11i53 = some r := h
   obtain _ | k12 := k12
   · rw [f_lumref_least_L13] at h; cases h
   rw [f_lumref_least_L13] at h
   refine aw_show (m := (memOf w0 Z0 [] [(oBox g1 204 [(int .i64 (0 : Int)), (Value.slice none 0 0)]), (oRow l11v7 204 tyS_lumref_bunch l11x7)] [(fDat (tyList tyS_lumref_bunch) [v0_0] a0)])) (S := (tab [(0, v0_0), (2, (ptr g1 0)), (4, (int .i64 j2i4)), (7, l11v7), (51, v0_0), (52, (int .i64 (a0.length : Int))), (53, (int .i64 l11i53))])) ?_
   refine aw_sr ?_
   refine al_in rfl rfl rfl rfl ?_
   refine al_nt ?_
   refine aw_seq ?_
   refine aw_cond rfl (fun hb14 => ?_) (fun hb14 => ?_)
   ·replace h := bif_t hb14 h
    refine aw_skip ?_
    refine aq_then ?_
    obtain ⟨kk16, hkk16, h⟩ := lt_some h
    refine aw_seq_join (ι := Value × (List S_lumref_bunch)) (fun i => (memOf w0 Z0 [] [(oBox g1 204 [(int .i64 (0 : Int)), (Value.slice none 0 0)]), (oRow i.1 204 tyS_lumref_bunch i.2)] [(fDat (tyList tyS_lumref_bunch) [v0_0] a0)])) (fun i => (tab [(0, v0_0), (2, (ptr g1 0)), (4, (int .i64 j2i4)), (7, i.1), (51, v0_0), (52, (int .i64 (a0.length : Int))), (53, (int .i64 l11i53))])) (fun i => kk16 i.2 = some r) ?_ ?_
    ·rintro ⟨j15v7, j15x7⟩ h
     have h : kk16 j15x7 = some r := h
     rw [hkk16] at h
     dsimp only at h
     clear hkk16
     refine aw_show (m := (memOf w0 Z0 [] [(oBox g1 204 [(int .i64 (0 : Int)), (Value.slice none 0 0)]), (oRow j15v7 204 tyS_lumref_bunch j15x7)] [(fDat (tyList tyS_lumref_bunch) [v0_0] a0)])) (S := (tab [(0, v0_0), (2, (ptr g1 0)), (4, (int .i64 j2i4)), (7, j15v7), (51, v0_0), (52, (int .i64 (a0.length : Int))), (53, (int .i64 l11i53))])) ?_
     refine aw_region ?_
     refine al_in rfl rfl rfl rfl ?_
     refine al_mv rfl rfl ?_
     refine al_nil ?_
     exact aq_again k12 (j15v7, j15x7, (IntKind.i64.wrap (l11i53 + (1 : Int)))) (Nat.lt_succ_self _) h (fun w a hm hs => norm hm hs [0, 1] [0] [(0, v0_0), (2, (ptr g1 0)), (4, (int .i64 j2i4)), (7, j15v7), (51, v0_0), (52, (int .i64 (a0.length : Int))), (53, (int .i64 (IntKind.i64.wrap (l11i53 + (1 : Int)))))] (by decide) ⟨rfl, rfl, rfl, rfl, rfl, rfl, rfl, trivial⟩)
    ·clear hkk16
     refine aw_block ?_
     refine aw_sr ?_
     refine al_mv rfl rfl ?_
     obtain ⟨u17, hu18, h⟩ := opt_some h
     refine al_idxD 0 hu18 rfl rfl rfl Tryd.underlying202 sz204 rfl (fun p19 => ?_)
     refine al_loadPA 0 rfl rfl Tryd.underlying204 sz204 rfl rfl (fun cs21 => ?_)
     refine al_use (ι := Value) 0 rfl (fun j => cs21 = [(int .i64 u17.weight), j]) (fun j => [(fDat (tyList (tyInt .i64)) [j] u17.signs)]) encnS_lumref_bunch (fun s20 hq => ?_)
     subst hq
     refine al_alloc (zs := [(int .i64 (0 : Int)), (Value.slice none 0 0)]) (zeroOf_to to204) rfl rfl (fun g22 => ?_)
     refine al_as rfl rfl ?_
     refine al_store (i := 0) (vs := [(int .i64 u17.weight), s20]) (cs' := [(int .i64 u17.weight), s20]) rfl rfl rfl sz204 (cv_rfl rfl) rfl (co_val rfl (co_fz 0 rfl co_nil)) (Nat.le_of_ble_eq_true rfl) rfl rfl ?_
     refine al_nt ?_
     refine aw_sr ?_
     refine al_mv rfl rfl ?_
     refine al_mv rfl rfl ?_
     refine al_in rfl rfl rfl rfl ?_
     refine al_nt ?_
     refine aw_cond rfl (fun hb23 => ?_) (fun hb23 => ?_)
     ·replace h := bif_t hb23 h
      refine aw_region ?_
      refine al_mv rfl rfl ?_
      refine al_val (ov_load (i := 0) (v := (ag [(int .i64 u17.weight), s20])) rfl rfl Tryd.underlying204 sz204 rfl rfl rfl rfl) ?_
      refine al_buildSlice (τ := tyS_lumref_bunch) (e := 204) (k := 1) (sz := 0) (by_ := 0) (z := undef) (cs := [(int .i64 u17.weight), s20]) (xs := [u17]) rfl (by decide) (fun w a hm hs => ⟨([(int .i64 u17.weight), s20]).toArray, rfl, by simp only [List.map_toArray, List.map_cons, List.map_nil, hs.ev (x := .tmp 62) rfl]; exact run_bs [(ag [(int .i64 u17.weight), s20])] [(int .i64 u17.weight), s20] Tryd.underlying202 to204 rfl rfl (bs_cons (l := [(int .i64 u17.weight), s20]) (cs := []) (cv_rfl rfl) rfl bs_nil) hm⟩) (fun hm => ⟨_, _, rfl, (fun hm => mknS_lumref_bunch rfl (fz_at (i := 0) hm rfl)) hm, rfl⟩) rfl (fun v24 => ?_)
      obtain ⟨hc25, h⟩ := req_some h
      refine al_append 3 hc25.1 hc25.2 rfl (src_own (i := 3) 0 rfl) rfl rfl Tryd.underlying202 to204 rfl rfl rfl (fun v26 => ?_)
      refine al_as rfl rfl ?_
      refine al_nil ?_
      refine aq_block ?_
      exact aq_join (v26, (l11x7 ++ ([u17]))) h (fun w a hm hs => norm hm hs [2, 3] [3] [(0, v0_0), (2, (ptr g1 0)), (4, (int .i64 j2i4)), (7, v26), (51, v0_0), (52, (int .i64 (a0.length : Int))), (53, (int .i64 l11i53))] (by decide) ⟨rfl, rfl, rfl, rfl, rfl, rfl, rfl, trivial⟩)
     ·replace h := bif_f hb23 h
      refine aw_skip ?_
      refine aq_block ?_
      exact aq_join (l11v7, l11x7) h (fun w a hm hs => norm hm hs [1, 2] [3] [(0, v0_0), (2, (ptr g1 0)), (4, (int .i64 j2i4)), (7, l11v7), (51, v0_0), (52, (int .i64 (a0.length : Int))), (53, (int .i64 l11i53))] (by decide) ⟨rfl, rfl, rfl, rfl, rfl, rfl, rfl, trivial⟩)
   ·replace h := bif_f hb14 h
    refine aw_exit ?_
    refine aq_then_exit ?_
    refine aq_then_exit ?_
    refine aq_block_exit ?_
    exact aq_join (l11v7, l11x7) h (fun w a hm hs => norm hm hs [0, 1] [0] [(0, v0_0), (2, (ptr g1 0)), (4, (int .i64 j2i4)), (7, l11v7)] (by decide) ⟨rfl, rfl, rfl, rfl, trivial⟩)
 ·clear hkk3
  refine aw_sr ?_
  refine al_mv rfl rfl ?_
  refine al_val (ov_lenD 0 rfl rfl Tryd.underlying202 rfl) ?_
  refine al_mv rfl rfl ?_
  refine al_nt ?_
  refine aw_block ?_
  refine aw_state (aw_loop (ι := Int × Int) (fun i => (memOf w0 Z0 [] [(oBox g1 204 [(int .i64 (0 : Int)), (Value.slice none 0 0)])] [(fDat (tyList tyS_lumref_bunch) [v0_0] a0)])) (fun i => (tab [(0, v0_0), (2, (ptr g1 0)), (4, (int .i64 i.2)), (10, v0_0), (11, (int .i64 (a0.length : Int))), (12, (int .i64 i.1))])) (fun q i => f_lumref_least_L29 a0 kk3 q i.1 i.2 = some r) ?_ fu ((0 : Int), (0 : Int)) h) (fun w a hm hs => norm hm hs [0] [0] [(0, v0_0), (2, (ptr g1 0)), (4, (int .i64 (0 : Int))), (10, v0_0), (11, (int .i64 (a0.length : Int))), (12, (int .i64 (0 : Int)))] (by decide) ⟨rfl, rfl, rfl, rfl, rfl, rfl, trivial⟩)
  clear h
  rintro k28 ⟨l27i12, l27i4⟩ h
  have h : f_lumref_least_L29 a0 kk3 k28 l27i12 l27i4 = some r := h
  obtain _ | k28 := k28
  · rw [f_lumref_least_L29] at h; cases h
  rw [f_lumref_least_L29] at h
  refine aw_show (m := (memOf w0 Z0 [] [(oBox g1 204 [(int .i64 (0 : Int)), (Value.slice none 0 0)])] [(fDat (tyList tyS_lumref_bunch) [v0_0] a0)])) (S := (tab [(0, v0_0), (2, (ptr g1 0)), (4, (int .i64 l27i4)), (10, v0_0), (11, (int .i64 (a0.length : Int))), (12, (int .i64 l27i12))])) ?_
  refine aw_sr ?_
  refine al_in rfl rfl rfl rfl ?_
  refine al_nt ?_
  refine aw_seq ?_
  refine aw_cond rfl (fun hb30 => ?_) (fun hb30 => ?_)
  ·replace h := bif_t hb30 h
   refine aw_skip ?_
   refine aq_then ?_
   obtain ⟨kk32, hkk32, h⟩ := lt_some h
   refine aw_seq_join (ι := Int) (fun i => (memOf w0 Z0 [] [(oBox g1 204 [(int .i64 (0 : Int)), (Value.slice none 0 0)])] [(fDat (tyList tyS_lumref_bunch) [v0_0] a0)])) (fun i => (tab [(0, v0_0), (2, (ptr g1 0)), (4, (int .i64 i)), (10, v0_0), (11, (int .i64 (a0.length : Int))), (12, (int .i64 l27i12))])) (fun i => kk32 i = some r) ?_ ?_
   ·rintro j31i4 h
    have h : kk32 j31i4 = some r := h
    rw [hkk32] at h
    dsimp only at h
    clear hkk32
    refine aw_show (m := (memOf w0 Z0 [] [(oBox g1 204 [(int .i64 (0 : Int)), (Value.slice none 0 0)])] [(fDat (tyList tyS_lumref_bunch) [v0_0] a0)])) (S := (tab [(0, v0_0), (2, (ptr g1 0)), (4, (int .i64 j31i4)), (10, v0_0), (11, (int .i64 (a0.length : Int))), (12, (int .i64 l27i12))])) ?_
    refine aw_region ?_
    refine al_in rfl rfl rfl rfl ?_
    refine al_mv rfl rfl ?_
    refine al_nil ?_
    exact aq_again k28 ((IntKind.i64.wrap (l27i12 + (1 : Int))), j31i4) (Nat.lt_succ_self _) h (fun w a hm hs => norm hm hs [0] [0] [(0, v0_0), (2, (ptr g1 0)), (4, (int .i64 j31i4)), (10, v0_0), (11, (int .i64 (a0.length : Int))), (12, (int .i64 (IntKind.i64.wrap (l27i12 + (1 : Int)))))] (by decide) ⟨rfl, rfl, rfl, rfl, rfl, rfl, trivial⟩)
   ·clear hkk32
    refine aw_block ?_
    refine aw_sr ?_
    refine al_mv rfl rfl ?_
    obtain ⟨u33, hu34, h⟩ := opt_some h
    refine al_idxD 0 hu34 rfl rfl rfl Tryd.underlying202 sz204 rfl (fun p35 => ?_)
    refine al_loadPA 0 rfl rfl Tryd.underlying204 sz204 rfl rfl (fun cs37 => ?_)
    refine al_use (ι := Value) 0 rfl (fun j => cs37 = [(int .i64 u33.weight), j]) (fun j => [(fDat (tyList (tyInt .i64)) [j] u33.signs)]) encnS_lumref_bunch (fun s36 hq => ?_)
    subst hq
    refine al_alloc (zs := [(int .i64 (0 : Int)), (Value.slice none 0 0)]) (zeroOf_to to204) rfl rfl (fun g38 => ?_)
    refine al_as rfl rfl ?_
    refine al_store (i := 0) (vs := [(int .i64 u33.weight), s36]) (cs' := [(int .i64 u33.weight), s36]) rfl rfl rfl sz204 (cv_rfl rfl) rfl (co_val rfl (co_fz 0 rfl co_nil)) (Nat.le_of_ble_eq_true rfl) rfl rfl ?_
    refine al_nt ?_
    obtain ⟨kk40, hkk40, h⟩ := lt_some h
    refine aw_seq_join (ι := Bool) (fun i => (memOf w0 Z0 [] [(oBox g1 204 [(int .i64 (0 : Int)), (Value.slice none 0 0)])] [(fDat (tyList tyS_lumref_bunch) [v0_0] a0), (fDat (tyList (tyInt .i64)) [s36] u33.signs), (fDat tyS_lumref_bunch [(int .i64 u33.weight), s36] u33), (fPtr tyS_lumref_bunch p35 u33)])) (fun i => (tab [(0, v0_0), (2, (ptr g1 0)), (4, (int .i64 l27i4)), (5, (int .i64 l27i12)), (10, v0_0), (11, (int .i64 (a0.length : Int))), (12, (int .i64 l27i12)), (48, (bool i))])) (fun i => kk40 i = some r) ?_ ?_
    ·rintro j39b48 h
     have h : kk40 j39b48 = some r := h
     rw [hkk40] at h
     dsimp only at h
     clear hkk40
     refine aw_show (m := (memOf w0 Z0 [] [(oBox g1 204 [(int .i64 (0 : Int)), (Value.slice none 0 0)])] [(fDat (tyList tyS_lumref_bunch) [v0_0] a0), (fDat (tyList (tyInt .i64)) [s36] u33.signs), (fDat tyS_lumref_bunch [(int .i64 u33.weight), s36] u33), (fPtr tyS_lumref_bunch p35 u33)])) (S := (tab [(0, v0_0), (2, (ptr g1 0)), (4, (int .i64 l27i4)), (5, (int .i64 l27i12)), (10, v0_0), (11, (int .i64 (a0.length : Int))), (12, (int .i64 l27i12)), (48, (bool j39b48))])) ?_
     refine aw_cond rfl (fun hb41 => ?_) (fun hb41 => ?_)
     ·replace h := bif_t hb41 h
      refine aw_region ?_
      refine al_mv rfl rfl ?_
      refine al_as rfl rfl ?_
      refine al_nil ?_
      refine aq_block ?_
      exact aq_join l27i12 h (fun w a hm hs => norm hm hs [0] [0] [(0, v0_0), (2, (ptr g1 0)), (4, (int .i64 l27i12)), (10, v0_0), (11, (int .i64 (a0.length : Int))), (12, (int .i64 l27i12))] (by decide) ⟨rfl, rfl, rfl, rfl, rfl, rfl, trivial⟩)
     ·replace h := bif_f hb41 h
      refine aw_skip ?_
      refine aq_block ?_
      exact aq_join l27i4 h (fun w a hm hs => norm hm hs [0] [0] [(0, v0_0), (2, (ptr g1 0)), (4, (int .i64 l27i4)), (10, v0_0), (11, (int .i64 (a0.length : Int))), (12, (int .i64 l27i12))] (by decide) ⟨rfl, rfl, rfl, rfl, rfl, rfl, trivial⟩)
    ·clear hkk40
     obtain ⟨u42, hu43, h⟩ := opt_some h
     rcases Bool.eq_false_or_eq_true (decide (u33.weight < u42.weight)) with hb46 | hb46
     ·replace h := bif_t hb46 h
      refine aw_region_draw 31 [(17, (fun u => fEq u (ptr g38 0))), (18, (fun u => fEq u (int .i64 u33.weight))), (19, (fun u => fEq u v0_0)), (20, (fun u => fEq u (int .i64 l27i4))), (21, (fun p44 => (fPtr tyS_lumref_bunch p44 u42))), (22, (fun p45 => (fPtr (tyInt .i64) p45 u42.weight))), (23, (fun u => fEq u (int .i64 u42.weight))), (24, (fun u => fEq u (bool true))), (25, (fun u => fEq u (bool true))), (26, (fun u => fEq u undef)), (27, (fun u => fEq u undef)), (28, (fun u => fEq u undef)), (29, (fun u => fEq u undef)), (30, (fun u => fEq u undef)), (31, (fun u => fEq u undef)), (32, (fun u => fEq u undef)), (33, (fun u => fEq u undef)), (34, (fun u => fEq u undef)), (35, (fun u => fEq u undef)), (36, (fun u => fEq u undef)), (37, (fun u => fEq u undef)), (38, (fun u => fEq u undef)), (39, (fun u => fEq u undef)), (40, (fun u => fEq u undef)), (41, (fun u => fEq u undef)), (42, (fun u => fEq u undef)), (43, (fun u => fEq u undef)), (44, (fun u => fEq u undef)), (45, (fun u => fEq u undef)), (46, (fun u => fEq u undef)), (47, (fun u => fEq u undef))] (tab [(0, v0_0), (2, (ptr g1 0)), (4, (int .i64 l27i4)), (5, (int .i64 l27i12)), (6, (ptr g38 0)), (10, v0_0), (11, (int .i64 (a0.length : Int))), (12, (int .i64 l27i12))]) mixed (by kernel_rfl) rfl rfl rfl (fun a hs => hs.tab _ (allT_mem ⟨rfl, rfl, rfl, rfl, rfl, rfl, rfl, rfl, trivial⟩)) ⟨⟨rfl, ld_val (ov_fieldA (p := 0) rfl Tryd.underlying204 rfl sz3 rfl rfl rfl)⟩, ⟨rfl, ld_eq (j := 0) rfl rfl (ld_val (ov_load (i := 0) (v := (int .i64 u33.weight)) rfl rfl Tryd.underlying3 sz3 rfl rfl rfl rfl))⟩, ⟨rfl, ld_val (ov_move rfl rfl)⟩, ⟨rfl, ld_val (ov_move rfl rfl)⟩, ⟨rfl, ld_eq (j := 2) rfl rfl (ld_eq (j := 3) rfl rfl (ld_of (of_idxD 3 hu43 rfl rfl rfl Tryd.underlying202 sz204 rfl)))⟩, ⟨rfl, ld_fact (j := 4) rfl rfl (fun p44 => ld_of (of_fieldD (pr := fun (y : S_lumref_bunch) => y.weight) 0 rfl subS_lumref_bunch_0 rfl Tryd.underlying204 rfl sz3 rfl rfl))⟩, ⟨rfl, ld_fact (j := 5) rfl rfl (fun p45 => ld_val (ov_loadP (ds := [(int .i64 u42.weight)]) 0 rfl (fun h => h) rfl Tryd.underlying3 sz3 rfl rfl rfl))⟩, ⟨rfl, ld_eq (j := 1) rfl rfl (ld_eq (j := 6) rfl rfl (ld_val (ov_cast (by first | rw [hb46] | rfl) (ov_int rfl rfl rfl rfl))))⟩, ⟨rfl, ld_eq (j := 7) rfl rfl (ld_val (ov_cast (by first | rw [hb46] | rfl) (ov_move rfl rfl)))⟩, ⟨rfl, ld_eq (j := 8) rfl rfl (ld_skip)⟩, ⟨rfl, ld_eq (j := 8) rfl rfl (ld_skip)⟩, ⟨rfl, ld_eq (j := 8) rfl rfl (ld_skip)⟩, ⟨rfl, ld_eq (j := 8) rfl rfl (ld_skip)⟩, ⟨rfl, ld_eq (j := 8) rfl rfl (ld_skip)⟩, ⟨rfl, ld_eq (j := 8) rfl rfl (ld_skip)⟩, ⟨rfl, ld_eq (j := 8) rfl rfl (ld_skip)⟩, ⟨rfl, ld_eq (j := 8) rfl rfl (ld_skip)⟩, ⟨rfl, ld_eq (j := 8) rfl rfl (ld_skip)⟩, ⟨rfl, ld_eq (j := 17) rfl rfl (ld_skip)⟩, ⟨rfl, ld_eq (j := 17) rfl rfl (ld_skip)⟩, ⟨rfl, ld_eq (j := 17) rfl rfl (ld_skip)⟩, ⟨rfl, ld_eq (j := 17) rfl rfl (ld_skip)⟩, ⟨rfl, ld_eq (j := 17) rfl rfl (ld_skip)⟩, ⟨rfl, ld_eq (j := 17) rfl rfl (ld_skip)⟩, ⟨rfl, ld_eq (j := 17) rfl rfl (ld_skip)⟩, ⟨rfl, ld_eq (j := 17) rfl rfl (ld_skip)⟩, ⟨rfl, ld_eq (j := 17) rfl rfl (ld_skip)⟩, ⟨rfl, ld_eq (j := 17) rfl rfl (ld_skip)⟩, ⟨rfl, ld_eq (j := 17) rfl rfl (ld_skip)⟩, ⟨rfl, ld_eq (j := 17) rfl rfl (ld_skip)⟩, ⟨rfl, ld_eq (j := 8) rfl rfl (ld_skip)⟩, trivial⟩ ?_
      refine tl_eq 8 rfl ?_
      refine tl_eq 30 rfl ?_
      refine tl_done ?_
      refine al_val (ov_pick_t rfl rfl rfl) ?_
      refine al_nil ?_
      exact aq_join true h (fun w a hm hs => norm hm hs [1] [3, 0, 1, 2] [(0, v0_0), (2, (ptr g1 0)), (4, (int .i64 l27i4)), (5, (int .i64 l27i12)), (10, v0_0), (11, (int .i64 (a0.length : Int))), (12, (int .i64 l27i12)), (48, (bool true))] (by decide) ⟨rfl, rfl, rfl, rfl, rfl, rfl, rfl, rfl, trivial⟩)
     ·replace h := bif_f hb46 h
      obtain ⟨u47, hu48, h⟩ := opt_some h
      rcases Bool.eq_false_or_eq_true (u33.weight == u47.weight) with hb51 | hb51
      ·replace h := bif_t hb51 h
       obtain ⟨u52, hu53, h⟩ := opt_some h
       obtain ⟨u55, hu56, h⟩ := opt_some h
       obtain ⟨u60, hu61, h⟩ := opt_some h
       refine aw_region_draw 31 [(17, (fun u => fEq u (ptr g38 0))), (18, (fun u => fEq u (int .i64 u33.weight))), (19, (fun u => fEq u v0_0)), (20, (fun u => fEq u (int .i64 l27i4))), (21, (fun p44 => (fPtr tyS_lumref_bunch p44 u42))), (22, (fun p45 => (fPtr (tyInt .i64) p45 u42.weight))), (23, (fun u => fEq u (int .i64 u42.weight))), (24, (fun u => fEq u (bool false))), (25, (fun u => fEq u (bool false))), (26, (fun u => fEq u (ptr g38 0))), (27, (fun u => fEq u (int .i64 u33.weight))), (28, (fun u => fEq u v0_0)), (29, (fun u => fEq u (int .i64 l27i4))), (30, (fun p49 => (fPtr tyS_lumref_bunch p49 u47))), (31, (fun p50 => (fPtr (tyInt .i64) p50 u47.weight))), (32, (fun u => fEq u (int .i64 u47.weight))), (33, (fun u => fEq u (bool true))), (34, (fun u => fEq u (bool true))), (35, (fun u => fEq u (ptr g38 1))), (36, (fun u => fEq u s36)), (37, (fun p54 => (fPtr (tyInt .i64) p54 u52))), (38, (fun u => fEq u (int .i64 u52))), (39, (fun u => fEq u v0_0)), (40, (fun u => fEq u (int .i64 l27i4))), (41, (fun p57 => (fPtr tyS_lumref_bunch p57 u55))), (42, (fun p58 => (fPtr (tyList (tyInt .i64)) p58 u55.signs))), (43, (fun s59 => (fDat (tyList (tyInt .i64)) [s59] u55.signs))), (44, (fun p62 => (fPtr (tyInt .i64) p62 u60))), (45, (fun u => fEq u (int .i64 u60))), (46, (fun u => fEq u (bool (decide (u52 < u60))))), (47, (fun u => fEq u (bool (decide (u52 < u60)))))] (tab [(0, v0_0), (2, (ptr g1 0)), (4, (int .i64 l27i4)), (5, (int .i64 l27i12)), (6, (ptr g38 0)), (10, v0_0), (11, (int .i64 (a0.length : Int))), (12, (int .i64 l27i12))]) mixed (by kernel_rfl) rfl rfl rfl (fun a hs => hs.tab _ (allT_mem ⟨rfl, rfl, rfl, rfl, rfl, rfl, rfl, rfl, trivial⟩)) ⟨⟨rfl, ld_val (ov_fieldA (p := 0) rfl Tryd.underlying204 rfl sz3 rfl rfl rfl)⟩, ⟨rfl, ld_eq (j := 0) rfl rfl (ld_val (ov_load (i := 0) (v := (int .i64 u33.weight)) rfl rfl Tryd.underlying3 sz3 rfl rfl rfl rfl))⟩, ⟨rfl, ld_val (ov_move rfl rfl)⟩, ⟨rfl, ld_val (ov_move rfl rfl)⟩, ⟨rfl, ld_eq (j := 2) rfl rfl (ld_eq (j := 3) rfl rfl (ld_of (of_idxD 3 hu43 rfl rfl rfl Tryd.underlying202 sz204 rfl)))⟩, ⟨rfl, ld_fact (j := 4) rfl rfl (fun p44 => ld_of (of_fieldD (pr := fun (y : S_lumref_bunch) => y.weight) 0 rfl subS_lumref_bunch_0 rfl Tryd.underlying204 rfl sz3 rfl rfl))⟩, ⟨rfl, ld_fact (j := 5) rfl rfl (fun p45 => ld_val (ov_loadP (ds := [(int .i64 u42.weight)]) 0 rfl (fun h => h) rfl Tryd.underlying3 sz3 rfl rfl rfl))⟩, ⟨rfl, ld_eq (j := 1) rfl rfl (ld_eq (j := 6) rfl rfl (ld_val (ov_cast (by first | rw [hb46] | rfl) (ov_int rfl rfl rfl rfl))))⟩, ⟨rfl, ld_eq (j := 7) rfl rfl (ld_val (ov_cast (by first | rw [hb46] | rfl) (ov_move rfl rfl)))⟩, ⟨rfl, ld_eq (j := 8) rfl rfl (ld_val (ov_fieldA (p := 0) rfl Tryd.underlying204 rfl sz3 rfl rfl rfl))⟩, ⟨rfl, ld_eq (j := 8) rfl rfl (ld_eq (j := 9) rfl rfl (ld_val (ov_load (i := 0) (v := (int .i64 u33.weight)) rfl rfl Tryd.underlying3 sz3 rfl rfl rfl rfl)))⟩, ⟨rfl, ld_eq (j := 8) rfl rfl (ld_val (ov_move rfl rfl))⟩, ⟨rfl, ld_eq (j := 8) rfl rfl (ld_val (ov_move rfl rfl))⟩, ⟨rfl, ld_eq (j := 8) rfl rfl (ld_eq (j := 11) rfl rfl (ld_eq (j := 12) rfl rfl (ld_of (of_idxD 3 hu48 rfl rfl rfl Tryd.underlying202 sz204 rfl))))⟩, ⟨rfl, ld_eq (j := 8) rfl rfl (ld_fact (j := 13) rfl rfl (fun p49 => ld_of (of_fieldD (pr := fun (y : S_lumref_bunch) => y.weight) 0 rfl subS_lumref_bunch_0 rfl Tryd.underlying204 rfl sz3 rfl rfl)))⟩, ⟨rfl, ld_eq (j := 8) rfl rfl (ld_fact (j := 14) rfl rfl (fun p50 => ld_val (ov_loadP (ds := [(int .i64 u47.weight)]) 0 rfl (fun h => h) rfl Tryd.underlying3 sz3 rfl rfl rfl)))⟩, ⟨rfl, ld_eq (j := 8) rfl rfl (ld_eq (j := 10) rfl rfl (ld_eq (j := 15) rfl rfl (ld_val (ov_cast (by first | rw [hb51] | rfl) (ov_int rfl rfl rfl rfl)))))⟩, ⟨rfl, ld_eq (j := 8) rfl rfl (ld_eq (j := 16) rfl rfl (ld_val (ov_cast (by first | rw [hb51] | rfl) (ov_move rfl rfl))))⟩, ⟨rfl, ld_eq (j := 17) rfl rfl (ld_val (ov_fieldA (p := 1) rfl Tryd.underlying204 rfl sz71 rfl rfl rfl))⟩, ⟨rfl, ld_eq (j := 17) rfl rfl (ld_eq (j := 18) rfl rfl (ld_val (ov_load (i := 0) (v := s36) rfl rfl Tryd.underlying71 sz71 rfl rfl rfl rfl)))⟩, ⟨rfl, ld_eq (j := 17) rfl rfl (ld_eq (j := 19) rfl rfl (ld_of (of_idxD 0 hu53 rfl rfl rfl Tryd.underlying71 sz3 rfl)))⟩, ⟨rfl, ld_eq (j := 17) rfl rfl (ld_fact (j := 20) rfl rfl (fun p54 => ld_val (ov_loadP (ds := [(int .i64 u52)]) 0 rfl (fun h => h) rfl Tryd.underlying3 sz3 rfl rfl rfl)))⟩, ⟨rfl, ld_eq (j := 17) rfl rfl (ld_val (ov_move rfl rfl))⟩, ⟨rfl, ld_eq (j := 17) rfl rfl (ld_val (ov_move rfl rfl))⟩, ⟨rfl, ld_eq (j := 17) rfl rfl (ld_eq (j := 22) rfl rfl (ld_eq (j := 23) rfl rfl (ld_of (of_idxD 3 hu56 rfl rfl rfl Tryd.underlying202 sz204 rfl))))⟩, ⟨rfl, ld_eq (j := 17) rfl rfl (ld_fact (j := 24) rfl rfl (fun p57 => ld_of (of_fieldD (pr := fun (y : S_lumref_bunch) => y.signs) 0 rfl subS_lumref_bunch_1 rfl Tryd.underlying204 rfl sz71 rfl rfl)))⟩, ⟨rfl, ld_eq (j := 17) rfl rfl (ld_fact (j := 25) rfl rfl (fun p58 => ld_of (of_loadP1 0 rfl rfl Tryd.underlying71 sz71 rfl rfl rfl)))⟩, ⟨rfl, ld_eq (j := 17) rfl rfl (ld_fact (j := 26) rfl rfl (fun s59 => ld_of (of_idxD 0 hu61 rfl rfl rfl Tryd.underlying71 sz3 rfl)))⟩, ⟨rfl, ld_eq (j := 17) rfl rfl (ld_fact (j := 27) rfl rfl (fun p62 => ld_val (ov_loadP (ds := [(int .i64 u60)]) 0 rfl (fun h => h) rfl Tryd.underlying3 sz3 rfl rfl rfl)))⟩, ⟨rfl, ld_eq (j := 17) rfl rfl (ld_eq (j := 21) rfl rfl (ld_eq (j := 28) rfl rfl (ld_val (ov_int rfl rfl rfl rfl))))⟩, ⟨rfl, ld_eq (j := 8) rfl rfl (ld_eq (j := 17) rfl rfl (ld_eq (j := 29) rfl rfl (ld_val (ov_pick_t rfl rfl rfl))))⟩, trivial⟩ ?_
       refine tl_eq 8 rfl ?_
       refine tl_eq 30 rfl ?_
       refine tl_done ?_
       refine al_val (ov_pick_f rfl rfl rfl) ?_
       refine al_nil ?_
       exact aq_join (decide (u52 < u60)) h (fun w a hm hs => norm hm hs [1] [3, 0, 1, 2] [(0, v0_0), (2, (ptr g1 0)), (4, (int .i64 l27i4)), (5, (int .i64 l27i12)), (10, v0_0), (11, (int .i64 (a0.length : Int))), (12, (int .i64 l27i12)), (48, (bool (decide (u52 < u60))))] (by decide) ⟨rfl, rfl, rfl, rfl, rfl, rfl, rfl, rfl, trivial⟩)
      ·replace h := bif_f hb51 h
       refine aw_region_draw 31 [(17, (fun u => fEq u (ptr g38 0))), (18, (fun u => fEq u (int .i64 u33.weight))), (19, (fun u => fEq u v0_0)), (20, (fun u => fEq u (int .i64 l27i4))), (21, (fun p44 => (fPtr tyS_lumref_bunch p44 u42))), (22, (fun p45 => (fPtr (tyInt .i64) p45 u42.weight))), (23, (fun u => fEq u (int .i64 u42.weight))), (24, (fun u => fEq u (bool false))), (25, (fun u => fEq u (bool false))), (26, (fun u => fEq u (ptr g38 0))), (27, (fun u => fEq u (int .i64 u33.weight))), (28, (fun u => fEq u v0_0)), (29, (fun u => fEq u (int .i64 l27i4))), (30, (fun p49 => (fPtr tyS_lumref_bunch p49 u47))), (31, (fun p50 => (fPtr (tyInt .i64) p50 u47.weight))), (32, (fun u => fEq u (int .i64 u47.weight))), (33, (fun u => fEq u (bool false))), (34, (fun u => fEq u (bool false))), (35, (fun u => fEq u undef)), (36, (fun u => fEq u undef)), (37, (fun u => fEq u undef)), (38, (fun u => fEq u undef)), (39, (fun u => fEq u undef)), (40, (fun u => fEq u undef)), (41, (fun u => fEq u undef)), (42, (fun u => fEq u undef)), (43, (fun u => fEq u undef)), (44, (fun u => fEq u undef)), (45, (fun u => fEq u undef)), (46, (fun u => fEq u undef)), (47, (fun u => fEq u (bool false)))] (tab [(0, v0_0), (2, (ptr g1 0)), (4, (int .i64 l27i4)), (5, (int .i64 l27i12)), (6, (ptr g38 0)), (10, v0_0), (11, (int .i64 (a0.length : Int))), (12, (int .i64 l27i12))]) mixed (by kernel_rfl) rfl rfl rfl (fun a hs => hs.tab _ (allT_mem ⟨rfl, rfl, rfl, rfl, rfl, rfl, rfl, rfl, trivial⟩)) ⟨⟨rfl, ld_val (ov_fieldA (p := 0) rfl Tryd.underlying204 rfl sz3 rfl rfl rfl)⟩, ⟨rfl, ld_eq (j := 0) rfl rfl (ld_val (ov_load (i := 0) (v := (int .i64 u33.weight)) rfl rfl Tryd.underlying3 sz3 rfl rfl rfl rfl))⟩, ⟨rfl, ld_val (ov_move rfl rfl)⟩, ⟨rfl, ld_val (ov_move rfl rfl)⟩, ⟨rfl, ld_eq (j := 2) rfl rfl (ld_eq (j := 3) rfl rfl (ld_of (of_idxD 3 hu43 rfl rfl rfl Tryd.underlying202 sz204 rfl)))⟩, ⟨rfl, ld_fact (j := 4) rfl rfl (fun p44 => ld_of (of_fieldD (pr := fun (y : S_lumref_bunch) => y.weight) 0 rfl subS_lumref_bunch_0 rfl Tryd.underlying204 rfl sz3 rfl rfl))⟩, ⟨rfl, ld_fact (j := 5) rfl rfl (fun p45 => ld_val (ov_loadP (ds := [(int .i64 u42.weight)]) 0 rfl (fun h => h) rfl Tryd.underlying3 sz3 rfl rfl rfl))⟩, ⟨rfl, ld_eq (j := 1) rfl rfl (ld_eq (j := 6) rfl rfl (ld_val (ov_cast (by first | rw [hb46] | rfl) (ov_int rfl rfl rfl rfl))))⟩, ⟨rfl, ld_eq (j := 7) rfl rfl (ld_val (ov_cast (by first | rw [hb46] | rfl) (ov_move rfl rfl)))⟩, ⟨rfl, ld_eq (j := 8) rfl rfl (ld_val (ov_fieldA (p := 0) rfl Tryd.underlying204 rfl sz3 rfl rfl rfl))⟩, ⟨rfl, ld_eq (j := 8) rfl rfl (ld_eq (j := 9) rfl rfl (ld_val (ov_load (i := 0) (v := (int .i64 u33.weight)) rfl rfl Tryd.underlying3 sz3 rfl rfl rfl rfl)))⟩, ⟨rfl, ld_eq (j := 8) rfl rfl (ld_val (ov_move rfl rfl))⟩, ⟨rfl, ld_eq (j := 8) rfl rfl (ld_val (ov_move rfl rfl))⟩, ⟨rfl, ld_eq (j := 8) rfl rfl (ld_eq (j := 11) rfl rfl (ld_eq (j := 12) rfl rfl (ld_of (of_idxD 3 hu48 rfl rfl rfl Tryd.underlying202 sz204 rfl))))⟩, ⟨rfl, ld_eq (j := 8) rfl rfl (ld_fact (j := 13) rfl rfl (fun p49 => ld_of (of_fieldD (pr := fun (y : S_lumref_bunch) => y.weight) 0 rfl subS_lumref_bunch_0 rfl Tryd.underlying204 rfl sz3 rfl rfl)))⟩, ⟨rfl, ld_eq (j := 8) rfl rfl (ld_fact (j := 14) rfl rfl (fun p50 => ld_val (ov_loadP (ds := [(int .i64 u47.weight)]) 0 rfl (fun h => h) rfl Tryd.underlying3 sz3 rfl rfl rfl)))⟩, ⟨rfl, ld_eq (j := 8) rfl rfl (ld_eq (j := 10) rfl rfl (ld_eq (j := 15) rfl rfl (ld_val (ov_cast (by first | rw [hb51] | rfl) (ov_int rfl rfl rfl rfl)))))⟩, ⟨rfl, ld_eq (j := 8) rfl rfl (ld_eq (j := 16) rfl rfl (ld_val (ov_cast (by first | rw [hb51] | rfl) (ov_move rfl rfl))))⟩, ⟨rfl, ld_eq (j := 17) rfl rfl (ld_skip)⟩, ⟨rfl, ld_eq (j := 17) rfl rfl (ld_skip)⟩, ⟨rfl, ld_eq (j := 17) rfl rfl (ld_skip)⟩, ⟨rfl, ld_eq (j := 17) rfl rfl (ld_skip)⟩, ⟨rfl, ld_eq (j := 17) rfl rfl (ld_skip)⟩, ⟨rfl, ld_eq (j := 17) rfl rfl (ld_skip)⟩, ⟨rfl, ld_eq (j := 17) rfl rfl (ld_skip)⟩, ⟨rfl, ld_eq (j := 17) rfl rfl (ld_skip)⟩, ⟨rfl, ld_eq (j := 17) rfl rfl (ld_skip)⟩, ⟨rfl, ld_eq (j := 17) rfl rfl (ld_skip)⟩, ⟨rfl, ld_eq (j := 17) rfl rfl (ld_skip)⟩, ⟨rfl, ld_eq (j := 17) rfl rfl (ld_skip)⟩, ⟨rfl, ld_eq (j := 8) rfl rfl (ld_eq (j := 17) rfl rfl (ld_eq (j := 29) rfl rfl (ld_val (ov_pick_f rfl rfl rfl))))⟩, trivial⟩ ?_
       refine tl_eq 8 rfl ?_
       refine tl_eq 30 rfl ?_
       refine tl_done ?_
       refine al_val (ov_pick_f rfl rfl rfl) ?_
       refine al_nil ?_
       exact aq_join false h (fun w a hm hs => norm hm hs [1] [3, 0, 1, 2] [(0, v0_0), (2, (ptr g1 0)), (4, (int .i64 l27i4)), (5, (int .i64 l27i12)), (10, v0_0), (11, (int .i64 (a0.length : Int))), (12, (int .i64 l27i12)), (48, (bool false))] (by decide) ⟨rfl, rfl, rfl, rfl, rfl, rfl, rfl, rfl, trivial⟩)
  ·replace h := bif_f hb30 h
   refine aw_exit ?_
   refine aq_then_exit ?_
   refine aq_then_exit ?_
   refine aq_block_exit ?_
   exact aq_join l27i4 h (fun w a hm hs => norm hm hs [0] [0] [(0, v0_0), (2, (ptr g1 0)), (4, (int .i64 l27i4))] (by decide) ⟨rfl, rfl, rfl, trivial⟩)
def f_lumref_has_L5 (a0 : (List Int)) (a1 : Int) (kk2 : (Unit → Option Bool)) : Nat → Int → Option Bool
  | 0, _ => none
  | k4 + 1, l3i9 => (bif (decide (l3i9 < (a0.length : Int))) then (opt (at? a0 l3i9) fun (u7 : Int) => (bif (u7 == a1) then (some true) else (f_lumref_has_L5 a0 a1 kk2 k4 (IntKind.i64.wrap (l3i9 + (1 : Int)))))) else (kk2 ()))
def f_lumref_has (fu : Nat) (a0 : (List Int)) (a1 : Int) : Option Bool := (lt (fun (_ : Unit) => (some false)) fun (kk2 : Unit → Option Bool) => (f_lumref_has_L5 a0 a1 kk2 fu (0 : Int)))
set_option maxRecDepth 100000 in
theorem f_lumref_has_ok (fu : Nat) (v0_0 : Value) (a0 : (List Int)) (a1 : Int) {r : Bool} (h : f_lumref_has fu a0 a1 = some r) : FnOk Tryd.prog 149 [v0_0, (int .i64 a1)] [(fDat (tyList (tyInt .i64)) [v0_0] a0)] [] (fun (i : Unit) => { val := (bool r) }) := by
 unfold f_lumref_has at h
 refine fn_enter Tryd.func149 rfl Tryd.ntmps149 rfl (fun w0 Z0 => ?_)
 refine aw_sr ?_
 refine al_as rfl rfl ?_
 refine al_nt ?_
 obtain ⟨kk2, hkk2, h⟩ := lt_some h
 refine aw_seq_join (ι := Unit) (fun i => (memOf w0 Z0 [] [] [(fDat (tyList (tyInt .i64)) [v0_0] a0)])) (fun i => (tab [])) (fun i => kk2 () = some r) ?_ ?_
 ·rintro _ h
  have h : kk2 () = some r := h
  rw [hkk2] at h
  dsimp only at h
  clear hkk2
  refine aw_show (m := (memOf w0 Z0 [] [] [(fDat (tyList (tyInt .i64)) [v0_0] a0)])) (S := (tab [])) ?_
  refine aw_sr ?_
  refine al_as rfl rfl ?_
  refine al_nt ?_
  refine aw_ret ?_
  obtain rfl := Option.some.inj h
  exact fn_ret () [] [] rfl rfl rfl rfl (res1 rfl rfl) rfl rfl rfl (by decide)
 ·clear hkk2
  refine aw_sr ?_
  refine al_mv rfl rfl ?_
  refine al_val (ov_lenD 0 rfl rfl Tryd.underlying71 rfl) ?_
  refine al_mv rfl rfl ?_
  refine al_nt ?_
  refine aw_block ?_
  refine aw_state (aw_loop (ι := Int) (fun i => (memOf w0 Z0 [] [] [(fDat (tyList (tyInt .i64)) [v0_0] a0)])) (fun i => (tab [(1, (int .i64 a1)), (7, v0_0), (8, (int .i64 (a0.length : Int))), (9, (int .i64 i))])) (fun q i => f_lumref_has_L5 a0 a1 kk2 q i = some r) ?_ fu (0 : Int) h) (fun w a hm hs => norm hm hs [] [0] [(1, (int .i64 a1)), (7, v0_0), (8, (int .i64 (a0.length : Int))), (9, (int .i64 (0 : Int)))] (by decide) ⟨rfl, rfl, rfl, rfl, trivial⟩)
  clear h
  rintro k4 l3i9 h
  have h : f_lumref_has_L5 a0 a1 kk2 k4 l3i9 = some r := h
  obtain _ | k4 := k4
  · rw [f_lumref_has_L5] at h; cases h
  rw [f_lumref_has_L5] at h
  refine aw_show (m := (memOf w0 Z0 [] [] [(fDat (tyList (tyInt .i64)) [v0_0] a0)])) (S := (tab [(1, (int .i64 a1)), (7, v0_0), (8, (int .i64 (a0.length : Int))), (9, (int .i64 l3i9))])) ?_
  refine aw_sr ?_
  refine al_in rfl rfl rfl rfl ?_
  refine al_nt ?_
  refine aw_seq ?_
  refine aw_cond rfl (fun hb6 => ?_) (fun hb6 => ?_)
  ·replace h := bif_t hb6 h
   refine aw_skip ?_
   refine aq_then ?_
   refine aw_seq ?_
   refine aw_block ?_
   refine aw_sr ?_
   obtain ⟨u7, hu8, h⟩ := opt_some h
   refine al_idxD 0 hu8 rfl rfl rfl Tryd.underlying71 sz3 rfl (fun p9 => ?_)
   refine al_val (ov_loadP (ds := [(int .i64 u7)]) 0 rfl (fun h => h) rfl Tryd.underlying3 sz3 rfl rfl rfl) ?_
   refine al_as rfl rfl ?_
   refine al_nt ?_
   refine aw_sr ?_
   refine al_mv rfl rfl ?_
   refine al_mv rfl rfl ?_
   refine al_in rfl rfl rfl rfl ?_
   refine al_nt ?_
   refine aw_cond rfl (fun hb10 => ?_) (fun hb10 => ?_)
   ·replace h := bif_t hb10 h
    refine aw_sr ?_
    refine al_as rfl rfl ?_
    refine al_nt ?_
    refine aw_ret ?_
    refine aq_block_ret ?_
    refine aq_then_ret ?_
    refine aq_then_ret ?_
    refine aq_block_ret ?_
    refine aq_then_ret ?_
    obtain rfl := Option.some.inj h
    exact fn_ret () [] [] rfl rfl rfl rfl (res1 rfl rfl) rfl rfl rfl (by decide)
   ·replace h := bif_f hb10 h
    refine aw_skip ?_
    refine aq_block ?_
    refine aq_then ?_
    refine aw_region ?_
    refine al_in rfl rfl rfl rfl ?_
    refine al_mv rfl rfl ?_
    refine al_nil ?_
    exact aq_again k4 (IntKind.i64.wrap (l3i9 + (1 : Int))) (Nat.lt_succ_self _) h (fun w a hm hs => norm hm hs [] [1] [(1, (int .i64 a1)), (7, v0_0), (8, (int .i64 (a0.length : Int))), (9, (int .i64 (IntKind.i64.wrap (l3i9 + (1 : Int)))))] (by decide) ⟨rfl, rfl, rfl, rfl, trivial⟩)
  ·replace h := bif_f hb6 h
   refine aw_exit ?_
   refine aq_then_exit ?_
   refine aq_then_exit ?_
   refine aq_block_exit ?_
   exact aq_join () h (fun w a hm hs => norm hm hs [] [0] [] (by decide) trivial)
def f_lumref_Lengths_L35 (a0 : (List Int)) (r20 : (S_lumref_bunch × (List S_lumref_bunch))) (r24 : (S_lumref_bunch × (List S_lumref_bunch))) (kk29 : ((List Int) → (List Int) → Option ((List Int) × Int))) (fu : Nat) : Nat → (List Int) → (List Int) → Int → Option ((List Int) × Int)
  | 0, _, _, _ => none
  | k34 + 1, l33x7, l33x10_1, l33i78 => (bif (decide (l33i78 < (a0.length : Int))) then (lt (fun (j37x7 : (List Int)) (j37x10_1 : (List Int)) => (f_lumref_Lengths_L35 a0 r20 r24 kk29 fu k34 j37x7 j37x10_1 (IntKind.i64.wrap (l33i78 + (1 : Int))))) fun (kk38 : (List Int) → (List Int) → Option ((List Int) × Int)) => (lt (fun (j39b90 : Bool) => (bif j39b90 then (req (((l33x10_1.length + ([l33i78]).length) * 8 : Nat) ≤ 140737488355328 ∧ l33x10_1.length + ([l33i78]).length ≤ 9223372036854775807) (opt (at? l33x7 l33i78) fun (u45 : Int) => (opt (at? l33x7 l33i78) fun (u49 : Int) => (kk38 (l33x7.set (l33i78).toNat (IntKind.i64.wrap (u45 + (1 : Int)))) (l33x10_1 ++ ([l33i78])))))) else (kk38 l33x7 l33x10_1))) fun (kk40 : Bool → Option ((List Int) × Int)) => (opt (f_lumref_has fu r20.1.signs l33i78) fun (r54 : Bool) => (bif r54 then (kk40 true) else (opt (f_lumref_has fu r24.1.signs l33i78) fun (r57 : Bool) => (kk40 r57)))))) else (kk29 l33x7 l33x10_1))
def f_lumref_Lengths_L14 (a0 : (List Int)) (kk11 : ((List Int) → Option ((List Int) × Int))) (fu : Nat) : Nat → (List S_lumref_bunch) → (List Int) → Option ((List Int) × Int)
  | 0, _, _ => none
  | k13 + 1, l12x4, l12x7 => (lt (fun (l12x4 : (List S_lumref_bunch)) (l12x7 : (List Int)) => (f_lumref_Lengths_L14 a0 kk11 fu k13 l12x4 l12x7)) fun (kk15 : (List S_lumref_bunch) → (List Int) → Option ((List Int) × Int)) => (bif (decide ((l12x4.length : Int) > (1 : Int))) then (opt (f_lumref_least fu l12x4) fun (r20 : (S_lumref_bunch × (List S_lumref_bunch))) => (opt (f_lumref_least fu r20.2) fun (r24 : (S_lumref_bunch × (List S_lumref_bunch))) => (lt (fun (j28x7 : (List Int)) (j28x10_1 : (List Int)) => (req (((r24.2.length + ([(S_lumref_bunch.mk (IntKind.i64.wrap (r20.1.weight + r24.1.weight)) j28x10_1)]).length) * 32 : Nat) ≤ 140737488355328 ∧ r24.2.length + ([(S_lumref_bunch.mk (IntKind.i64.wrap (r20.1.weight + r24.1.weight)) j28x10_1)]).length ≤ 9223372036854775807) (kk15 (r24.2 ++ ([(S_lumref_bunch.mk (IntKind.i64.wrap (r20.1.weight + r24.1.weight)) j28x10_1)])) j28x7))) fun (kk29 : (List Int) → (List Int) → Option ((List Int) × Int)) => (f_lumref_Lengths_L35 a0 r20 r24 kk29 fu fu l12x7 ([] : List Int) (0 : Int))))) else (kk11 l12x7)))
def f_lumref_Lengths_L75 (a0 : (List Int)) (kk5 : ((List S_lumref_bunch) → Option ((List Int) × Int))) : Nat → (List S_lumref_bunch) → Int → Option ((List Int) × Int)
  | 0, _, _ => none
  | k74 + 1, l73x4, l73i22 => (bif (decide (l73i22 < (a0.length : Int))) then (lt (fun (j77x4 : (List S_lumref_bunch)) => (f_lumref_Lengths_L75 a0 kk5 k74 j77x4 (IntKind.i64.wrap (l73i22 + (1 : Int))))) fun (kk78 : (List S_lumref_bunch) → Option ((List Int) × Int)) => (opt (at? a0 l73i22) fun (u79 : Int) => (lt (fun (j82b32 : Bool) => (bif j82b32 then (some (([] : List Int), (1 : Int))) else (bif (decide (u79 > (0 : Int))) then (req (((l73x4.length + ([(S_lumref_bunch.mk u79 ([l73i22]))]).length) * 32 : Nat) ≤ 140737488355328 ∧ l73x4.length + ([(S_lumref_bunch.mk u79 ([l73i22]))]).length ≤ 9223372036854775807) (kk78 (l73x4 ++ ([(S_lumref_bunch.mk u79 ([l73i22]))])))) else (kk78 l73x4)))) fun (kk83 : Bool → Option ((List Int) × Int)) => (bif (decide (u79 < (0 : Int))) then (kk83 true) else (kk83 (decide (u79 > (1048576 : Int)))))))) else (kk5 l73x4))
def f_lumref_Lengths (fu : Nat) (a0 : (List Int)) : Option ((List Int) × Int) := (lt (fun (j1b19 : Bool) => (bif j1b19 then (some (([] : List Int), (1 : Int))) else (lt (fun (j4x4 : (List S_lumref_bunch)) => (req (0 ≤ (a0.length : Int) ∧ 8 * (a0.length : Int) ≤ 281474976710656 ∧ (a0.length : Int) ≤ 9223372036854775807) (lt (fun (j8x7 : (List Int)) => (lt (fun (j10x7 : (List Int)) => (some (j10x7, (0 : Int)))) fun (kk11 : (List Int) → Option ((List Int) × Int)) => (f_lumref_Lengths_L14 a0 kk11 fu fu j4x4 j8x7))) fun (kk9 : (List Int) → Option ((List Int) × Int)) => (bif ((j4x4.length : Int) == (1 : Int)) then (opt (at? j4x4 (0 : Int)) fun (u59 : S_lumref_bunch) => (opt (at? u59.signs (0 : Int)) fun (u66 : Int) => (opt (at? (List.replicate ((a0.length : Int)).toNat 0) u66) fun (u69 : Int) => (kk9 ((List.replicate ((a0.length : Int)).toNat 0).set (u66).toNat (1 : Int)))))) else (kk9 (List.replicate ((a0.length : Int)).toNat 0)))))) fun (kk5 : (List S_lumref_bunch) → Option ((List Int) × Int)) => (f_lumref_Lengths_L75 a0 kk5 fu ([] : List S_lumref_bunch) (0 : Int))))) fun (kk2 : Bool → Option ((List Int) × Int)) => (bif ((a0.length : Int) == (0 : Int)) then (kk2 true) else (kk2 (decide ((a0.length : Int) > (256 : Int))))))
set_option maxRecDepth 100000 in
set_option maxHeartbeats 2000000 in
theorem f_lumref_Lengths_ok (fu : Nat) (v0_0 : Value) (a0 : (List Int)) {r : ((List Int) × Int)} (h : f_lumref_Lengths fu a0 = some r) : FnOk Tryd.prog 97 [v0_0] [(fDat (tyList (tyInt .i64)) [v0_0] a0)] [] (fun (i : Value) => { val := (Value.tuple #[i, (int .i64 r.2)]), own := [(oRow i 3 (tyInt .i64) r.1)] }) := by
 unfold f_lumref_Lengths at h
 refine fn_enter Tryd.func97 rfl Tryd.ntmps97 rfl (fun w0 Z0 => ?_)
 refine aw_sr ?_
 refine al_as rfl rfl ?_
 refine al_as rfl rfl ?_
 refine al_nt ?_
 refine aw_seq ?_
 obtain ⟨kk2, hkk2, h⟩ := lt_some h
 refine aw_seq_join (ι := Bool) (fun i => (memOf w0 Z0 [] [] [(fDat (tyList (tyInt .i64)) [v0_0] a0)])) (fun i => (tab [(0, v0_0), (19, (bool i))])) (fun i => kk2 i = some r) ?_ ?_
 ·rintro j1b19 h
  have h : kk2 j1b19 = some r := h
  rw [hkk2] at h
  dsimp only at h
  clear hkk2
  refine aw_show (m := (memOf w0 Z0 [] [] [(fDat (tyList (tyInt .i64)) [v0_0] a0)])) (S := (tab [(0, v0_0), (19, (bool j1b19))])) ?_
  refine aw_cond rfl (fun hb3 => ?_) (fun hb3 => ?_)
  ·replace h := bif_t hb3 h
   refine aw_sr ?_
   refine al_as rfl rfl ?_
   refine al_as rfl rfl ?_
   refine al_nt ?_
   refine aw_ret ?_
   refine aq_then_ret ?_
   refine aq_nilR 3 (tyInt .i64) ?_
   obtain rfl := Option.some.inj h
   exact fn_ret (Value.slice none 0 0) [0] [] rfl rfl rfl rfl (res2 rfl rfl rfl) rfl rfl rfl (by decide)
  ·replace h := bif_f hb3 h
   refine aw_skip ?_
   refine aq_tr ?_
   refine al_as rfl rfl ?_
   refine al_nt ?_
   obtain ⟨kk5, hkk5, h⟩ := lt_some h
   refine aw_seq_join (ι := Value × (List S_lumref_bunch)) (fun i => (memOf w0 Z0 [] [(oRow i.1 204 tyS_lumref_bunch i.2)] [(fDat (tyList (tyInt .i64)) [v0_0] a0)])) (fun i => (tab [(0, v0_0), (4, i.1)])) (fun i => kk5 i.2 = some r) ?_ ?_
   ·rintro ⟨j4v4, j4x4⟩ h
    have h : kk5 j4x4 = some r := h
    rw [hkk5] at h
    dsimp only at h
    clear hkk5
    refine aw_show (m := (memOf w0 Z0 [] [(oRow j4v4 204 tyS_lumref_bunch j4x4)] [(fDat (tyList (tyInt .i64)) [v0_0] a0)])) (S := (tab [(0, v0_0), (4, j4v4)])) ?_
    refine aw_sr ?_
    refine al_mv rfl rfl ?_
    refine al_val (ov_lenD 0 rfl rfl Tryd.underlying71 rfl) ?_
    obtain ⟨hc6, h⟩ := req_some h
    refine al_make (τ := (tyInt .i64)) (x0 := 0) hc6.1 hc6.2.1 hc6.2.2 rfl rfl Tryd.underlying71 to3 (fun _ _ => rfl) rfl rfl (fun v7 => ?_)
    refine al_as rfl rfl ?_
    refine al_nt ?_
    obtain ⟨kk9, hkk9, h⟩ := lt_some h
    refine aw_seq_join (ι := (List Int)) (fun i => (memOf w0 Z0 [] [(oRow j4v4 204 tyS_lumref_bunch j4x4), (oRow v7 3 (tyInt .i64) i)] [(fDat (tyList (tyInt .i64)) [v0_0] a0)])) (fun i => (tab [(0, v0_0), (4, j4v4), (7, v7)])) (fun i => kk9 i = some r) ?_ ?_
    ·rintro j8x7 h
     have h : kk9 j8x7 = some r := h
     rw [hkk9] at h
     dsimp only at h
     clear hkk9
     refine aw_show (m := (memOf w0 Z0 [] [(oRow j4v4 204 tyS_lumref_bunch j4x4), (oRow v7 3 (tyInt .i64) j8x7)] [(fDat (tyList (tyInt .i64)) [v0_0] a0)])) (S := (tab [(0, v0_0), (4, j4v4), (7, v7)])) ?_
     obtain ⟨kk11, hkk11, h⟩ := lt_some h
     refine aw_seq_join (ι := (List Int)) (fun i => (memOf w0 Z0 [] [(oRow v7 3 (tyInt .i64) i)] [(fDat (tyList (tyInt .i64)) [v0_0] a0)])) (fun i => (tab [(7, v7)])) (fun i => kk11 i = some r) ?_ ?_
     ·rintro j10x7 h
      have h : kk11 j10x7 = some r := h
      rw [hkk11] at h
      dsimp only at h
      clear hkk11
      refine aw_show (m := (memOf w0 Z0 [] [(oRow v7 3 (tyInt .i64) j10x7)] [(fDat (tyList (tyInt .i64)) [v0_0] a0)])) (S := (tab [(7, v7)])) ?_
      refine aw_sr ?_
      refine al_mv rfl rfl ?_
      refine al_as rfl rfl ?_
      refine al_as rfl rfl ?_
      refine al_nt ?_
      refine aw_ret ?_
      obtain rfl := Option.some.inj h
      exact fn_ret v7 [0] [] rfl rfl rfl rfl (res2 rfl rfl rfl) rfl rfl rfl (by decide)
     ·clear hkk11
      refine aw_block ?_
      refine aw_state (aw_loop (ι := Value × (List S_lumref_bunch) × (List Int)) (fun i => (memOf w0 Z0 [] [(oRow i.1 204 tyS_lumref_bunch i.2.1), (oRow v7 3 (tyInt .i64) i.2.2)] [(fDat (tyList (tyInt .i64)) [v0_0] a0)])) (fun i => (tab [(0, v0_0), (4, i.1), (7, v7)])) (fun q i => f_lumref_Lengths_L14 a0 kk11 fu q i.2.1 i.2.2 = some r) ?_ fu (j4v4, j4x4, j8x7) h) (fun w a hm hs => norm hm hs [0, 1] [0] [(0, v0_0), (4, j4v4), (7, v7)] (by decide) ⟨rfl, rfl, rfl, trivial⟩)
      clear h
      rintro k13 ⟨l12v4, l12x4, l12x7⟩ h
      have h : f_lumref_Lengths_L14 a0 kk11 fu k13 l12x4 l12x7 = some r := h
      obtain _ | k13 := k13
      · rw [f_lumref_Lengths_L14] at h; cases h
      rw [f_lumref_Lengths_L14] at h
      refine aw_show (m := (memOf w0 Z0 [] [(oRow l12v4 204 tyS_lumref_bunch l12x4), (oRow v7 3 (tyInt .i64) l12x7)] [(fDat (tyList (tyInt .i64)) [v0_0] a0)])) (S := (tab [(0, v0_0), (4, l12v4), (7, v7)])) ?_
      obtain ⟨kk15, hkk15, h⟩ := lt_some h
      refine aw_body_join (ι := Value × (List S_lumref_bunch) × (List Int)) (fun i => (memOf w0 Z0 [] [(oRow i.1 204 tyS_lumref_bunch i.2.1), (oRow v7 3 (tyInt .i64) i.2.2)] [(fDat (tyList (tyInt .i64)) [v0_0] a0)])) (fun i => (tab [(0, v0_0), (4, i.1), (7, v7)])) (fun i => kk15 i.2.1 i.2.2 = some r) (fun i h => aq_again k13 i (Nat.lt_succ_self _) (by rw [hkk15] at h; exact h) (fun w a hm hs => ⟨hm, hs⟩)) ?_
      clear hkk15
      refine aw_seq ?_
      refine aw_sr ?_
      refine al_mv rfl rfl ?_
      refine al_val (ov_lenR 0 rfl rfl Tryd.underlying202 rfl) ?_
      refine al_in rfl rfl rfl rfl ?_
      refine al_nt ?_
      refine aw_cond rfl (fun hb16 => ?_) (fun hb16 => ?_)
      ·replace h := bif_t hb16 h
       refine aw_skip ?_
       refine aq_then ?_
       refine aw_block ?_
       refine aw_sr ?_
       refine al_alloc (zs := [(int .i64 (0 : Int)), (Value.slice none 0 0)]) (zeroOf_to to204) rfl rfl (fun g17 => ?_)
       refine al_alloc (zs := [(int .i64 (0 : Int)), (Value.slice none 0 0)]) (zeroOf_to to204) rfl rfl (fun g18 => ?_)
       refine al_nt ?_
       refine aw_sr ?_
       refine al_mv rfl rfl ?_
       refine al_freeze 2 rfl rfl ?_
       obtain ⟨r20, hc19, h⟩ := opt_some h
       refine al_call (vs := [l12v4]) (f_lumref_least_ok fu l12v4 l12x4 hc19) [] [] [0, 1, 2] (pre_fz 0 rfl pre_nil) rfl (by simp) (by decide) (.inl rfl) rfl Tryd.func148 rfl rfl rfl (fun ⟨v21, v22⟩ => ?_)
       refine al_mv rfl rfl ?_
       refine al_ex rfl rfl rfl ?_
       refine al_ex rfl rfl rfl ?_
       refine al_store (i := 2) (vs := [(int .i64 r20.1.weight), v21]) (cs' := [(int .i64 r20.1.weight), v21]) rfl rfl rfl sz204 (cv_rfl rfl) rfl (co_val rfl (co_fz 0 rfl co_nil)) (Nat.le_of_ble_eq_true rfl) rfl rfl ?_
       refine al_as rfl rfl ?_
       refine al_nt ?_
       refine aw_sr ?_
       refine al_mv rfl rfl ?_
       refine al_freeze 0 rfl rfl ?_
       obtain ⟨r24, hc23, h⟩ := opt_some h
       refine al_call (vs := [v22]) (f_lumref_least_ok fu v22 r20.2 hc23) [] [] [0, 1, 2] (pre_fz 0 rfl pre_nil) rfl (by simp) (by decide) (.inl rfl) rfl Tryd.func148 rfl rfl rfl (fun ⟨v25, v26⟩ => ?_)
       refine al_mv rfl rfl ?_
       refine al_ex rfl rfl rfl ?_
       refine al_ex rfl rfl rfl ?_
       refine al_store (i := 1) (vs := [(int .i64 r24.1.weight), v25]) (cs' := [(int .i64 r24.1.weight), v25]) rfl rfl rfl sz204 (cv_rfl rfl) rfl (co_val rfl (co_fz 0 rfl co_nil)) (Nat.le_of_ble_eq_true rfl) rfl rfl ?_
       refine al_as rfl rfl ?_
       refine al_nt ?_
       refine aw_sr ?_
       refine al_val (ov_fieldA (p := 0) rfl Tryd.underlying204 rfl sz3 rfl rfl rfl) ?_
       refine al_val (ov_load (i := 2) (v := (int .i64 r20.1.weight)) rfl rfl Tryd.underlying3 sz3 rfl rfl rfl rfl) ?_
       refine al_val (ov_fieldA (p := 0) rfl Tryd.underlying204 rfl sz3 rfl rfl rfl) ?_
       refine al_val (ov_load (i := 1) (v := (int .i64 r24.1.weight)) rfl rfl Tryd.underlying3 sz3 rfl rfl rfl rfl) ?_
       refine al_in rfl rfl rfl rfl ?_
       refine al_val (ov_build (cells := ([(int .i64 (IntKind.i64.wrap (r20.1.weight + r24.1.weight))), (Value.slice none 0 0)]).toArray) (cs := [(int .i64 (IntKind.i64.wrap (r20.1.weight + r24.1.weight))), (Value.slice none 0 0)]) rfl (fun w a hm hs => by simp only [List.map_toArray, List.map_cons, List.map_nil, List.toList_toArray, hs.ev (x := .tmp 74) rfl]; kernel_rfl)) ?_
       refine al_alloc (zs := [(int .i64 (0 : Int)), (Value.slice none 0 0)]) (zeroOf_to to204) rfl rfl (fun g27 => ?_)
       refine al_store (i := 0) (vs := [(int .i64 (IntKind.i64.wrap (r20.1.weight + r24.1.weight))), (Value.slice none 0 0)]) (cs' := [(int .i64 (IntKind.i64.wrap (r20.1.weight + r24.1.weight))), (Value.slice none 0 0)]) rfl rfl rfl sz204 (cv_rfl rfl) rfl (co_val rfl (co_val rfl co_nil)) (Nat.le_of_ble_eq_true rfl) rfl rfl ?_
       refine al_nt ?_
       obtain ⟨kk29, hkk29, h⟩ := lt_some h
       refine aw_seq_join (ι := (List Int) × Value × (List Int)) (fun i => (memOf w0 Z0 [] [(oRow v26 204 tyS_lumref_bunch r24.2), (oRow v7 3 (tyInt .i64) i.1), (oRow i.2.1 3 (tyInt .i64) i.2.2), (oBox g27 204 [(int .i64 (IntKind.i64.wrap (r20.1.weight + r24.1.weight))), i.2.1])] [(fDat (tyList (tyInt .i64)) [v0_0] a0), (fDat (tyList (tyInt .i64)) [v25] r24.1.signs), (fDat (tyList tyS_lumref_bunch) [v22] r20.2), (fDat (tyList (tyInt .i64)) [v21] r20.1.signs), (fDat (tyList tyS_lumref_bunch) [l12v4] l12x4)])) (fun i => (tab [(0, v0_0), (4, v26), (7, v7), (10, (ptr g27 0))])) (fun i => kk29 i.1 i.2.2 = some r) ?_ ?_
       ·rintro ⟨j28x7, j28v10_1, j28x10_1⟩ h
        have h : kk29 j28x7 j28x10_1 = some r := h
        rw [hkk29] at h
        dsimp only at h
        clear hkk29
        refine aw_show (m := (memOf w0 Z0 [] [(oRow v26 204 tyS_lumref_bunch r24.2), (oRow v7 3 (tyInt .i64) j28x7), (oRow j28v10_1 3 (tyInt .i64) j28x10_1), (oBox g27 204 [(int .i64 (IntKind.i64.wrap (r20.1.weight + r24.1.weight))), j28v10_1])] [(fDat (tyList (tyInt .i64)) [v0_0] a0), (fDat (tyList (tyInt .i64)) [v25] r24.1.signs), (fDat (tyList tyS_lumref_bunch) [v22] r20.2), (fDat (tyList (tyInt .i64)) [v21] r20.1.signs), (fDat (tyList tyS_lumref_bunch) [l12v4] l12x4)])) (S := (tab [(0, v0_0), (4, v26), (7, v7), (10, (ptr g27 0))])) ?_
        refine aw_region ?_
        refine al_mv rfl rfl ?_
        refine al_val (ov_load (i := 3) (v := (ag [(int .i64 (IntKind.i64.wrap (r20.1.weight + r24.1.weight))), j28v10_1])) rfl rfl Tryd.underlying204 sz204 rfl rfl rfl rfl) ?_
        refine al_freeze 2 rfl rfl ?_
        refine al_buildSlice (τ := tyS_lumref_bunch) (e := 204) (k := 1) (sz := 0) (by_ := 0) (z := undef) (cs := [(int .i64 (IntKind.i64.wrap (r20.1.weight + r24.1.weight))), j28v10_1]) (xs := [(S_lumref_bunch.mk (IntKind.i64.wrap (r20.1.weight + r24.1.weight)) j28x10_1)]) rfl (by decide) (fun w a hm hs => ⟨([(int .i64 (IntKind.i64.wrap (r20.1.weight + r24.1.weight))), j28v10_1]).toArray, rfl, by simp only [List.map_toArray, List.map_cons, List.map_nil, hs.ev (x := .tmp 105) rfl]; exact run_bs [(ag [(int .i64 (IntKind.i64.wrap (r20.1.weight + r24.1.weight))), j28v10_1])] [(int .i64 (IntKind.i64.wrap (r20.1.weight + r24.1.weight))), j28v10_1] Tryd.underlying202 to204 rfl rfl (bs_cons (l := [(int .i64 (IntKind.i64.wrap (r20.1.weight + r24.1.weight))), j28v10_1]) (cs := []) (cv_rfl rfl) rfl bs_nil) hm⟩) (fun hm => ⟨_, _, rfl, (fun hm => mknS_lumref_bunch rfl (fz_at (i := 0) hm rfl)) hm, rfl⟩) rfl (fun v30 => ?_)
        obtain ⟨hc31, h⟩ := req_some h
        refine al_append 1 hc31.1 hc31.2 rfl (src_own (i := 1) 0 rfl) rfl rfl Tryd.underlying202 to204 rfl rfl rfl (fun v32 => ?_)
        refine al_as rfl rfl ?_
        refine al_nil ?_
        refine aq_block ?_
        exact aq_join (v32, (r24.2 ++ ([(S_lumref_bunch.mk (IntKind.i64.wrap (r20.1.weight + r24.1.weight)) j28x10_1)])), j28x7) h (fun w a hm hs => norm hm hs [1, 2] [1] [(0, v0_0), (4, v32), (7, v7)] (by decide) ⟨rfl, rfl, rfl, trivial⟩)
       ·clear hkk29
        refine aw_sr ?_
        refine al_mv rfl rfl ?_
        refine al_val (ov_lenD 4 rfl rfl Tryd.underlying71 rfl) ?_
        refine al_mv rfl rfl ?_
        refine al_nt ?_
        refine aw_block ?_
        refine aw_nilR 3 (tyInt .i64) ?_
        refine aw_state (aw_loop (ι := (List Int) × Value × (List Int) × Int) (fun i => (memOf w0 Z0 [] [(oRow v26 204 tyS_lumref_bunch r24.2), (oRow v7 3 (tyInt .i64) i.1), (oBox g17 204 [(int .i64 r20.1.weight), v21]), (oBox g18 204 [(int .i64 r24.1.weight), v25]), (oRow i.2.1 3 (tyInt .i64) i.2.2.1), (oBox g27 204 [(int .i64 (IntKind.i64.wrap (r20.1.weight + r24.1.weight))), i.2.1])] [(fDat (tyList (tyInt .i64)) [v0_0] a0), (fDat (tyList (tyInt .i64)) [v21] r20.1.signs), (fDat (tyList (tyInt .i64)) [v25] r24.1.signs), (fDat (tyList tyS_lumref_bunch) [v22] r20.2), (fDat (tyList tyS_lumref_bunch) [l12v4] l12x4)])) (fun i => (tab [(0, v0_0), (4, v26), (7, v7), (8, (ptr g17 0)), (9, (ptr g18 0)), (10, (ptr g27 0)), (77, (int .i64 (a0.length : Int))), (78, (int .i64 i.2.2.2))])) (fun q i => f_lumref_Lengths_L35 a0 r20 r24 kk29 fu q i.1 i.2.2.1 i.2.2.2 = some r) ?_ fu (l12x7, (Value.slice none 0 0), ([] : List Int), (0 : Int)) h) (fun w a hm hs => norm hm hs [2, 5, 4, 3, 0, 1] [4, 2, 0, 1, 3] [(0, v0_0), (4, v26), (7, v7), (8, (ptr g17 0)), (9, (ptr g18 0)), (10, (ptr g27 0)), (77, (int .i64 (a0.length : Int))), (78, (int .i64 (0 : Int)))] (by decide) ⟨rfl, rfl, rfl, rfl, rfl, rfl, rfl, rfl, trivial⟩)
        clear h
        rintro k34 ⟨l33x7, l33v10_1, l33x10_1, l33i78⟩ h
        have h : f_lumref_Lengths_L35 a0 r20 r24 kk29 fu k34 l33x7 l33x10_1 l33i78 = some r := h
        obtain _ | k34 := k34
        · rw [f_lumref_Lengths_L35] at h; cases h
        rw [f_lumref_Lengths_L35] at h
        refine aw_show (m := (memOf w0 Z0 [] [(oRow v26 204 tyS_lumref_bunch r24.2), (oRow v7 3 (tyInt .i64) l33x7), (oBox g17 204 [(int .i64 r20.1.weight), v21]), (oBox g18 204 [(int .i64 r24.1.weight), v25]), (oRow l33v10_1 3 (tyInt .i64) l33x10_1), (oBox g27 204 [(int .i64 (IntKind.i64.wrap (r20.1.weight + r24.1.weight))), l33v10_1])] [(fDat (tyList (tyInt .i64)) [v0_0] a0), (fDat (tyList (tyInt .i64)) [v21] r20.1.signs), (fDat (tyList (tyInt .i64)) [v25] r24.1.signs), (fDat (tyList tyS_lumref_bunch) [v22] r20.2), (fDat (tyList tyS_lumref_bunch) [l12v4] l12x4)])) (S := (tab [(0, v0_0), (4, v26), (7, v7), (8, (ptr g17 0)), (9, (ptr g18 0)), (10, (ptr g27 0)), (77, (int .i64 (a0.length : Int))), (78, (int .i64 l33i78))])) ?_
        refine aw_sr ?_
        refine al_in rfl rfl rfl rfl ?_
        refine al_nt ?_
        refine aw_seq ?_
        refine aw_cond rfl (fun hb36 => ?_) (fun hb36 => ?_)
        ·replace h := bif_t hb36 h
         refine aw_skip ?_
         refine aq_then ?_
         obtain ⟨kk38, hkk38, h⟩ := lt_some h
         refine aw_seq_join (ι := (List Int) × Value × (List Int)) (fun i => (memOf w0 Z0 [] [(oRow v26 204 tyS_lumref_bunch r24.2), (oRow v7 3 (tyInt .i64) i.1), (oBox g17 204 [(int .i64 r20.1.weight), v21]), (oBox g18 204 [(int .i64 r24.1.weight), v25]), (oRow i.2.1 3 (tyInt .i64) i.2.2), (oBox g27 204 [(int .i64 (IntKind.i64.wrap (r20.1.weight + r24.1.weight))), i.2.1])] [(fDat (tyList (tyInt .i64)) [v0_0] a0), (fDat (tyList (tyInt .i64)) [v21] r20.1.signs), (fDat (tyList (tyInt .i64)) [v25] r24.1.signs), (fDat (tyList tyS_lumref_bunch) [v22] r20.2), (fDat (tyList tyS_lumref_bunch) [l12v4] l12x4)])) (fun i => (tab [(0, v0_0), (4, v26), (7, v7), (8, (ptr g17 0)), (9, (ptr g18 0)), (10, (ptr g27 0)), (77, (int .i64 (a0.length : Int))), (78, (int .i64 l33i78))])) (fun i => kk38 i.1 i.2.2 = some r) ?_ ?_
         ·rintro ⟨j37x7, j37v10_1, j37x10_1⟩ h
          have h : kk38 j37x7 j37x10_1 = some r := h
          rw [hkk38] at h
          dsimp only at h
          clear hkk38
          refine aw_show (m := (memOf w0 Z0 [] [(oRow v26 204 tyS_lumref_bunch r24.2), (oRow v7 3 (tyInt .i64) j37x7), (oBox g17 204 [(int .i64 r20.1.weight), v21]), (oBox g18 204 [(int .i64 r24.1.weight), v25]), (oRow j37v10_1 3 (tyInt .i64) j37x10_1), (oBox g27 204 [(int .i64 (IntKind.i64.wrap (r20.1.weight + r24.1.weight))), j37v10_1])] [(fDat (tyList (tyInt .i64)) [v0_0] a0), (fDat (tyList (tyInt .i64)) [v21] r20.1.signs), (fDat (tyList (tyInt .i64)) [v25] r24.1.signs), (fDat (tyList tyS_lumref_bunch) [v22] r20.2), (fDat (tyList tyS_lumref_bunch) [l12v4] l12x4)])) (S := (tab [(0, v0_0), (4, v26), (7, v7), (8, (ptr g17 0)), (9, (ptr g18 0)), (10, (ptr g27 0)), (77, (int .i64 (a0.length : Int))), (78, (int .i64 l33i78))])) ?_
          refine aw_region ?_
          refine al_in rfl rfl rfl rfl ?_
          refine al_mv rfl rfl ?_
          refine al_nil ?_
          exact aq_again k34 (j37x7, j37v10_1, j37x10_1, (IntKind.i64.wrap (l33i78 + (1 : Int)))) (Nat.lt_succ_self _) h (fun w a hm hs => norm hm hs [0, 1, 2, 3, 4, 5] [0, 1, 2, 3, 4] [(0, v0_0), (4, v26), (7, v7), (8, (ptr g17 0)), (9, (ptr g18 0)), (10, (ptr g27 0)), (77, (int .i64 (a0.length : Int))), (78, (int .i64 (IntKind.i64.wrap (l33i78 + (1 : Int)))))] (by decide) ⟨rfl, rfl, rfl, rfl, rfl, rfl, rfl, rfl, trivial⟩)
         ·clear hkk38
          refine aw_block ?_
          refine aw_sr ?_
          refine al_mv rfl rfl ?_
          refine al_as rfl rfl ?_
          refine al_nt ?_
          obtain ⟨kk40, hkk40, h⟩ := lt_some h
          refine aw_seq_join (ι := Bool) (fun i => (memOf w0 Z0 [] [(oRow v26 204 tyS_lumref_bunch r24.2), (oRow v7 3 (tyInt .i64) l33x7), (oBox g17 204 [(int .i64 r20.1.weight), v21]), (oBox g18 204 [(int .i64 r24.1.weight), v25]), (oRow l33v10_1 3 (tyInt .i64) l33x10_1), (oBox g27 204 [(int .i64 (IntKind.i64.wrap (r20.1.weight + r24.1.weight))), l33v10_1])] [(fDat (tyList (tyInt .i64)) [v0_0] a0), (fDat (tyList (tyInt .i64)) [v21] r20.1.signs), (fDat (tyList (tyInt .i64)) [v25] r24.1.signs), (fDat (tyList tyS_lumref_bunch) [v22] r20.2), (fDat (tyList tyS_lumref_bunch) [l12v4] l12x4)])) (fun i => (tab [(0, v0_0), (4, v26), (7, v7), (8, (ptr g17 0)), (9, (ptr g18 0)), (10, (ptr g27 0)), (11, (int .i64 l33i78)), (77, (int .i64 (a0.length : Int))), (78, (int .i64 l33i78)), (90, (bool i))])) (fun i => kk40 i = some r) ?_ ?_
          ·rintro j39b90 h
           have h : kk40 j39b90 = some r := h
           rw [hkk40] at h
           dsimp only at h
           clear hkk40
           refine aw_show (m := (memOf w0 Z0 [] [(oRow v26 204 tyS_lumref_bunch r24.2), (oRow v7 3 (tyInt .i64) l33x7), (oBox g17 204 [(int .i64 r20.1.weight), v21]), (oBox g18 204 [(int .i64 r24.1.weight), v25]), (oRow l33v10_1 3 (tyInt .i64) l33x10_1), (oBox g27 204 [(int .i64 (IntKind.i64.wrap (r20.1.weight + r24.1.weight))), l33v10_1])] [(fDat (tyList (tyInt .i64)) [v0_0] a0), (fDat (tyList (tyInt .i64)) [v21] r20.1.signs), (fDat (tyList (tyInt .i64)) [v25] r24.1.signs), (fDat (tyList tyS_lumref_bunch) [v22] r20.2), (fDat (tyList tyS_lumref_bunch) [l12v4] l12x4)])) (S := (tab [(0, v0_0), (4, v26), (7, v7), (8, (ptr g17 0)), (9, (ptr g18 0)), (10, (ptr g27 0)), (11, (int .i64 l33i78)), (77, (int .i64 (a0.length : Int))), (78, (int .i64 l33i78)), (90, (bool j39b90))])) ?_
           refine aw_cond rfl (fun hb41 => ?_) (fun hb41 => ?_)
           ·replace h := bif_t hb41 h
            refine aw_sr ?_
            refine al_val (ov_fieldA (p := 1) rfl Tryd.underlying204 rfl sz71 rfl rfl rfl) ?_
            refine al_val (ov_load (i := 5) (v := l33v10_1) rfl rfl Tryd.underlying71 sz71 rfl rfl rfl rfl) ?_
            refine al_mv rfl rfl ?_
            refine al_buildSlice (τ := (tyInt .i64)) (e := 3) (k := 1) (sz := 0) (by_ := 0) (z := undef) (cs := [(int .i64 l33i78)]) (xs := [l33i78]) rfl (by decide) (fun w a hm hs => ⟨([(int .i64 l33i78)]).toArray, rfl, by simp only [List.map_toArray, List.map_cons, List.map_nil, hs.ev (x := .tmp 93) rfl]; exact run_bs [(int .i64 l33i78)] [(int .i64 l33i78)] Tryd.underlying71 to3 rfl rfl (bs_cons (l := [(int .i64 l33i78)]) (cs := []) (cv_rfl rfl) rfl bs_nil) hm⟩) (fun hm => ⟨_, _, rfl, (fun _ => rfl) hm, rfl⟩) rfl (fun v42 => ?_)
            obtain ⟨hc43, h⟩ := req_some h
            refine al_append 5 hc43.1 hc43.2 rfl (src_own (i := 5) 0 rfl) rfl rfl Tryd.underlying71 to3 rfl rfl rfl (fun v44 => ?_)
            refine al_val (ov_fieldA (p := 1) rfl Tryd.underlying204 rfl sz71 rfl rfl rfl) ?_
            refine al_store (i := 6) (vs := [v44]) (cs' := [(int .i64 (IntKind.i64.wrap (r20.1.weight + r24.1.weight))), v44]) rfl rfl rfl sz71 (cv_own 5 rfl) rfl (co_own 5 rfl co_nil) (Nat.le_of_ble_eq_true rfl) rfl rfl ?_
            refine al_nt ?_
            refine aw_region ?_
            refine al_mv rfl rfl ?_
            refine al_mv rfl rfl ?_
            obtain ⟨u45, hu46, h⟩ := opt_some h
            refine al_idxR 2 (at_some hu46).1 (at_some hu46).2.1 rfl rfl rfl Tryd.underlying71 sz3 rfl (fun p47 hp48 => ?_)
            refine al_val (ov_loadR (ds := [(int .i64 u45)]) 2 rfl hp48 (at_some hu46).2.2 (fun h => h) rfl Tryd.underlying3 sz3 rfl rfl rfl) ?_
            refine al_in rfl rfl rfl rfl ?_
            obtain ⟨u49, hu50, h⟩ := opt_some h
            refine al_idxR 2 (at_some hu50).1 (at_some hu50).2.1 rfl rfl rfl Tryd.underlying71 sz3 rfl (fun p51 hp52 => ?_)
            refine al_storeR (k := (l33i78).toNat) (x := (IntKind.i64.wrap (u45 + (1 : Int)))) (vs := [(int .i64 (IntKind.i64.wrap (u45 + (1 : Int))))]) 2 rfl hp52 (idx_lt hu50) rfl rfl (cv_rfl rfl) (fun _ => rfl) sz3 rfl ?_
            refine al_nil ?_
            refine aq_block ?_
            exact aq_join ((l33x7.set (l33i78).toNat (IntKind.i64.wrap (u45 + (1 : Int)))), v44, (l33x10_1 ++ ([l33i78]))) h (fun w a hm hs => norm hm hs [1, 2, 3, 4, 5, 6] [0, 1, 2, 3, 4] [(0, v0_0), (4, v26), (7, v7), (8, (ptr g17 0)), (9, (ptr g18 0)), (10, (ptr g27 0)), (77, (int .i64 (a0.length : Int))), (78, (int .i64 l33i78))] (by decide) ⟨rfl, rfl, rfl, rfl, rfl, rfl, rfl, rfl, trivial⟩)
           ·replace h := bif_f hb41 h
            refine aw_skip ?_
            refine aq_block ?_
            exact aq_join (l33x7, l33v10_1, l33x10_1) h (fun w a hm hs => norm hm hs [0, 1, 2, 3, 4, 5] [0, 1, 2, 3, 4] [(0, v0_0), (4, v26), (7, v7), (8, (ptr g17 0)), (9, (ptr g18 0)), (10, (ptr g27 0)), (77, (int .i64 (a0.length : Int))), (78, (int .i64 l33i78))] (by decide) ⟨rfl, rfl, rfl, rfl, rfl, rfl, rfl, rfl, trivial⟩)
          ·clear hkk40
           refine aw_region ?_
           refine al_val (ov_fieldA (p := 1) rfl Tryd.underlying204 rfl sz71 rfl rfl rfl) ?_
           refine al_val (ov_load (i := 2) (v := v21) rfl rfl Tryd.underlying71 sz71 rfl rfl rfl rfl) ?_
           refine al_mv rfl rfl ?_
           obtain ⟨r54, hc53, h⟩ := opt_some h
           refine al_call (vs := [v21, (int .i64 l33i78)]) (f_lumref_has_ok fu v21 r20.1.signs l33i78 hc53) [] [] [0, 1, 2, 3, 4, 5] (pre_fz 1 rfl pre_nil) rfl (by simp) (by decide) (.inl rfl) rfl Tryd.func149 rfl rfl rfl (fun _ => ?_)
           refine al_mv rfl rfl ?_
           refine al_caseB 85 rfl (fun hb55 => ?_) (fun hb55 => ?_)
           ·replace h := bif_t hb55 h
            refine al_skip ?_
            refine al_skip ?_
            refine al_skip ?_
            refine al_skip ?_
            refine al_val (ov_pick_t rfl rfl rfl) ?_
            refine al_nil ?_
            exact aq_join true h (fun w a hm hs => norm hm hs [0, 1, 2, 3, 4, 5] [0, 1, 2, 3, 4] [(0, v0_0), (4, v26), (7, v7), (8, (ptr g17 0)), (9, (ptr g18 0)), (10, (ptr g27 0)), (11, (int .i64 l33i78)), (77, (int .i64 (a0.length : Int))), (78, (int .i64 l33i78)), (90, (bool true))] (by decide) ⟨rfl, rfl, rfl, rfl, rfl, rfl, rfl, rfl, rfl, rfl, trivial⟩)
           ·replace h := bif_f hb55 h
            refine al_val (ov_fieldA (p := 1) rfl Tryd.underlying204 rfl sz71 rfl rfl rfl) ?_
            refine al_val (ov_load (i := 3) (v := v25) rfl rfl Tryd.underlying71 sz71 rfl rfl rfl rfl) ?_
            refine al_mv rfl rfl ?_
            obtain ⟨r57, hc56, h⟩ := opt_some h
            refine al_call (vs := [v25, (int .i64 l33i78)]) (f_lumref_has_ok fu v25 r24.1.signs l33i78 hc56) [] [] [0, 1, 2, 3, 4, 5] (pre_fz 2 rfl pre_nil) rfl (by simp) (by decide) (.inl rfl) rfl Tryd.func149 rfl rfl rfl (fun _ => ?_)
            refine al_val (ov_pick_f rfl rfl rfl) ?_
            refine al_nil ?_
            exact aq_join r57 h (fun w a hm hs => norm hm hs [0, 1, 2, 3, 4, 5] [0, 1, 2, 3, 4] [(0, v0_0), (4, v26), (7, v7), (8, (ptr g17 0)), (9, (ptr g18 0)), (10, (ptr g27 0)), (11, (int .i64 l33i78)), (77, (int .i64 (a0.length : Int))), (78, (int .i64 l33i78)), (90, (bool r57))] (by decide) ⟨rfl, rfl, rfl, rfl, rfl, rfl, rfl, rfl, rfl, rfl, trivial⟩)
        ·replace h := bif_f hb36 h
         refine aw_exit ?_
         refine aq_then_exit ?_
         refine aq_then_exit ?_
         refine aq_block_exit ?_
         exact aq_join (l33x7, l33v10_1, l33x10_1) h (fun w a hm hs => norm hm hs [0, 1, 4, 5] [0, 2, 3, 1, 4] [(0, v0_0), (4, v26), (7, v7), (10, (ptr g27 0))] (by decide) ⟨rfl, rfl, rfl, rfl, trivial⟩)
      ·replace h := bif_f hb16 h
       refine aw_exit ?_
       refine aq_then_exit ?_
       refine aq_then_exit ?_
       refine aq_block_exit ?_
       exact aq_join l12x7 h (fun w a hm hs => norm hm hs [1] [0] [(7, v7)] (by decide) ⟨rfl, trivial⟩)
    ·clear hkk9
     refine aw_sr ?_
     refine al_mv rfl rfl ?_
     refine al_val (ov_lenR 1 rfl rfl Tryd.underlying202 rfl) ?_
     refine al_in rfl rfl rfl rfl ?_
     refine al_nt ?_
     refine aw_cond rfl (fun hb58 => ?_) (fun hb58 => ?_)
     ·replace h := bif_t hb58 h
      refine aw_region ?_
      refine al_mv rfl rfl ?_
      refine al_mv rfl rfl ?_
      obtain ⟨u59, hu60, h⟩ := opt_some h
      refine al_idxR 1 (at_some hu60).1 (at_some hu60).2.1 rfl rfl rfl Tryd.underlying202 sz204 rfl (fun p61 hp62 => ?_)
      refine al_fieldR hp62 rfl Tryd.underlying204 rfl sz71 rfl rfl (fun p63 hp64 => ?_)
      refine al_loadF1 1 rfl hp64 (at_some hu60).2.2 subS_lumref_bunch_1 rfl Tryd.underlying71 sz71 rfl rfl rfl (fun s65 => ?_)
      obtain ⟨u66, hu67, h⟩ := opt_some h
      refine al_idxD 0 hu67 rfl rfl rfl Tryd.underlying71 sz3 rfl (fun p68 => ?_)
      refine al_val (ov_loadP (ds := [(int .i64 u66)]) 0 rfl (fun h => h) rfl Tryd.underlying3 sz3 rfl rfl rfl) ?_
      obtain ⟨u69, hu70, h⟩ := opt_some h
      refine al_idxR 0 (at_some hu70).1 (at_some hu70).2.1 rfl rfl rfl Tryd.underlying71 sz3 rfl (fun p71 hp72 => ?_)
      refine al_storeR (k := (u66).toNat) (x := (1 : Int)) (vs := [(int .i64 (1 : Int))]) 0 rfl hp72 (idx_lt hu70) rfl rfl (cv_rfl rfl) (fun _ => rfl) sz3 rfl ?_
      refine al_nil ?_
      exact aq_join ((List.replicate ((a0.length : Int)).toNat 0).set (u66).toNat (1 : Int)) h (fun w a hm hs => norm hm hs [1, 0] [2] [(0, v0_0), (4, j4v4), (7, v7)] (by decide) ⟨rfl, rfl, rfl, trivial⟩)
     ·replace h := bif_f hb58 h
      refine aw_skip ?_
      exact aq_join (List.replicate ((a0.length : Int)).toNat 0) h (fun w a hm hs => norm hm hs [1, 0] [0] [(0, v0_0), (4, j4v4), (7, v7)] (by decide) ⟨rfl, rfl, rfl, trivial⟩)
   ·clear hkk5
    refine aw_sr ?_
    refine al_mv rfl rfl ?_
    refine al_val (ov_lenD 0 rfl rfl Tryd.underlying71 rfl) ?_
    refine al_mv rfl rfl ?_
    refine al_nt ?_
    refine aw_block ?_
    refine aw_nilR 204 tyS_lumref_bunch ?_
    refine aw_state (aw_loop (ι := Value × (List S_lumref_bunch) × Int) (fun i => (memOf w0 Z0 [] [(oRow i.1 204 tyS_lumref_bunch i.2.1)] [(fDat (tyList (tyInt .i64)) [v0_0] a0)])) (fun i => (tab [(0, v0_0), (4, i.1), (20, v0_0), (21, (int .i64 (a0.length : Int))), (22, (int .i64 i.2.2))])) (fun q i => f_lumref_Lengths_L75 a0 kk5 q i.2.1 i.2.2 = some r) ?_ fu ((Value.slice none 0 0), ([] : List S_lumref_bunch), (0 : Int)) h) (fun w a hm hs => norm hm hs [0] [0] [(0, v0_0), (4, (Value.slice none 0 0)), (20, v0_0), (21, (int .i64 (a0.length : Int))), (22, (int .i64 (0 : Int)))] (by decide) ⟨rfl, rfl, rfl, rfl, rfl, trivial⟩)
    clear h
    rintro k74 ⟨l73v4, l73x4, l73i22⟩ h
    have h : f_lumref_Lengths_L75 a0 kk5 k74 l73x4 l73i22 = some r := h
    obtain _ | k74 := k74
    · rw [f_lumref_Lengths_L75] at h; cases h
    rw [f_lumref_Lengths_L75] at h
    refine aw_show (m := (memOf w0 Z0 [] [(oRow l73v4 204 tyS_lumref_bunch l73x4)] [(fDat (tyList (tyInt .i64)) [v0_0] a0)])) (S := (tab [(0, v0_0), (4, l73v4), (20, v0_0), (21, (int .i64 (a0.length : Int))), (22, (int .i64 l73i22))])) ?_
    refine aw_sr ?_
    refine al_in rfl rfl rfl rfl ?_
    refine al_nt ?_
    refine aw_seq ?_
    refine aw_cond rfl (fun hb76 => ?_) (fun hb76 => ?_)
    ·replace h := bif_t hb76 h
     refine aw_skip ?_
     refine aq_then ?_
     obtain ⟨kk78, hkk78, h⟩ := lt_some h
     refine aw_seq_join (ι := Value × (List S_lumref_bunch)) (fun i => (memOf w0 Z0 [] [(oRow i.1 204 tyS_lumref_bunch i.2)] [(fDat (tyList (tyInt .i64)) [v0_0] a0)])) (fun i => (tab [(0, v0_0), (4, i.1), (20, v0_0), (21, (int .i64 (a0.length : Int))), (22, (int .i64 l73i22))])) (fun i => kk78 i.2 = some r) ?_ ?_
     ·rintro ⟨j77v4, j77x4⟩ h
      have h : kk78 j77x4 = some r := h
      rw [hkk78] at h
      dsimp only at h
      clear hkk78
      refine aw_show (m := (memOf w0 Z0 [] [(oRow j77v4 204 tyS_lumref_bunch j77x4)] [(fDat (tyList (tyInt .i64)) [v0_0] a0)])) (S := (tab [(0, v0_0), (4, j77v4), (20, v0_0), (21, (int .i64 (a0.length : Int))), (22, (int .i64 l73i22))])) ?_
      refine aw_region ?_
      refine al_in rfl rfl rfl rfl ?_
      refine al_mv rfl rfl ?_
      refine al_nil ?_
      exact aq_again k74 (j77v4, j77x4, (IntKind.i64.wrap (l73i22 + (1 : Int)))) (Nat.lt_succ_self _) h (fun w a hm hs => norm hm hs [0] [0] [(0, v0_0), (4, j77v4), (20, v0_0), (21, (int .i64 (a0.length : Int))), (22, (int .i64 (IntKind.i64.wrap (l73i22 + (1 : Int)))))] (by decide) ⟨rfl, rfl, rfl, rfl, rfl, trivial⟩)
     ·clear hkk78
      refine aw_block ?_
      refine aw_sr ?_
      refine al_mv rfl rfl ?_
      obtain ⟨u79, hu80, h⟩ := opt_some h
      refine al_idxD 0 hu80 rfl rfl rfl Tryd.underlying71 sz3 rfl (fun p81 => ?_)
      refine al_val (ov_loadP (ds := [(int .i64 u79)]) 0 rfl (fun h => h) rfl Tryd.underlying3 sz3 rfl rfl rfl) ?_
      refine al_as rfl rfl ?_
      refine al_as rfl rfl ?_
      refine al_nt ?_
      refine aw_seq ?_
      obtain ⟨kk83, hkk83, h⟩ := lt_some h
      refine aw_seq_join (ι := Bool) (fun i => (memOf w0 Z0 [] [(oRow l73v4 204 tyS_lumref_bunch l73x4)] [(fDat (tyList (tyInt .i64)) [v0_0] a0), (fPtr (tyInt .i64) p81 u79)])) (fun i => (tab [(0, v0_0), (4, l73v4), (5, (int .i64 l73i22)), (6, (int .i64 u79)), (20, v0_0), (21, (int .i64 (a0.length : Int))), (22, (int .i64 l73i22)), (32, (bool i))])) (fun i => kk83 i = some r) ?_ ?_
      ·rintro j82b32 h
       have h : kk83 j82b32 = some r := h
       rw [hkk83] at h
       dsimp only at h
       clear hkk83
       refine aw_show (m := (memOf w0 Z0 [] [(oRow l73v4 204 tyS_lumref_bunch l73x4)] [(fDat (tyList (tyInt .i64)) [v0_0] a0), (fPtr (tyInt .i64) p81 u79)])) (S := (tab [(0, v0_0), (4, l73v4), (5, (int .i64 l73i22)), (6, (int .i64 u79)), (20, v0_0), (21, (int .i64 (a0.length : Int))), (22, (int .i64 l73i22)), (32, (bool j82b32))])) ?_
       refine aw_cond rfl (fun hb84 => ?_) (fun hb84 => ?_)
       ·replace h := bif_t hb84 h
        refine aw_sr ?_
        refine al_as rfl rfl ?_
        refine al_as rfl rfl ?_
        refine al_nt ?_
        refine aw_ret ?_
        refine aq_then_ret ?_
        refine aq_block_ret ?_
        refine aq_then_ret ?_
        refine aq_then_ret ?_
        refine aq_block_ret ?_
        refine aq_then_ret ?_
        refine aq_nilR 3 (tyInt .i64) ?_
        obtain rfl := Option.some.inj h
        exact fn_ret (Value.slice none 0 0) [0] [] rfl rfl rfl rfl (res2 rfl rfl rfl) rfl rfl rfl (by decide)
       ·replace h := bif_f hb84 h
        refine aw_skip ?_
        refine aq_tr ?_
        refine al_mv rfl rfl ?_
        refine al_in rfl rfl rfl rfl ?_
        refine al_nt ?_
        refine aw_cond rfl (fun hb85 => ?_) (fun hb85 => ?_)
        ·replace h := bif_t hb85 h
         refine aw_region ?_
         refine al_mv rfl rfl ?_
         refine al_mv rfl rfl ?_
         refine al_mv rfl rfl ?_
         refine al_buildSlice (τ := (tyInt .i64)) (e := 3) (k := 1) (sz := 0) (by_ := 0) (z := undef) (cs := [(int .i64 l73i22)]) (xs := [l73i22]) rfl (by decide) (fun w a hm hs => ⟨([(int .i64 l73i22)]).toArray, rfl, by simp only [List.map_toArray, List.map_cons, List.map_nil, hs.ev (x := .tmp 37) rfl]; exact run_bs [(int .i64 l73i22)] [(int .i64 l73i22)] Tryd.underlying71 to3 rfl rfl (bs_cons (l := [(int .i64 l73i22)]) (cs := []) (cv_rfl rfl) rfl bs_nil) hm⟩) (fun hm => ⟨_, _, rfl, (fun _ => rfl) hm, rfl⟩) rfl (fun v86 => ?_)
         refine al_val (ov_build (cells := ([(int .i64 u79), v86]).toArray) (cs := [(int .i64 u79), v86]) rfl (fun w a hm hs => by simp only [List.map_toArray, List.map_cons, List.map_nil, List.toList_toArray, hs.ev (x := .tmp 36) rfl, hs.ev (x := .tmp 38) rfl]; obtain ⟨A0, l0, c0, e0⟩ := sl_own 0 rfl hm; rw [e0]; kernel_rfl)) ?_
         refine al_freeze 0 rfl rfl ?_
         refine al_buildSlice (τ := tyS_lumref_bunch) (e := 204) (k := 1) (sz := 0) (by_ := 0) (z := undef) (cs := [(int .i64 u79), v86]) (xs := [(S_lumref_bunch.mk u79 ([l73i22]))]) rfl (by decide) (fun w a hm hs => ⟨([(int .i64 u79), v86]).toArray, rfl, by simp only [List.map_toArray, List.map_cons, List.map_nil, hs.ev (x := .tmp 39) rfl]; exact run_bs [(ag [(int .i64 u79), v86])] [(int .i64 u79), v86] Tryd.underlying202 to204 rfl rfl (bs_cons (l := [(int .i64 u79), v86]) (cs := []) (cv_rfl rfl) rfl bs_nil) hm⟩) (fun hm => ⟨_, _, rfl, (fun hm => mknS_lumref_bunch rfl (fz_at (i := 0) hm rfl)) hm, rfl⟩) rfl (fun v87 => ?_)
         obtain ⟨hc88, h⟩ := req_some h
         refine al_append 1 hc88.1 hc88.2 rfl (src_own (i := 1) 0 rfl) rfl rfl Tryd.underlying202 to204 rfl rfl rfl (fun v89 => ?_)
         refine al_as rfl rfl ?_
         refine al_nil ?_
         refine aq_block ?_
         exact aq_join (v89, (l73x4 ++ ([(S_lumref_bunch.mk u79 ([l73i22]))]))) h (fun w a hm hs => norm hm hs [1] [1] [(0, v0_0), (4, v89), (20, v0_0), (21, (int .i64 (a0.length : Int))), (22, (int .i64 l73i22))] (by decide) ⟨rfl, rfl, rfl, rfl, rfl, trivial⟩)
        ·replace h := bif_f hb85 h
         refine aw_skip ?_
         refine aq_block ?_
         exact aq_join (l73v4, l73x4) h (fun w a hm hs => norm hm hs [0] [0] [(0, v0_0), (4, l73v4), (20, v0_0), (21, (int .i64 (a0.length : Int))), (22, (int .i64 l73i22))] (by decide) ⟨rfl, rfl, rfl, rfl, rfl, trivial⟩)
      ·clear hkk83
       refine aw_region ?_
       refine al_mv rfl rfl ?_
       refine al_in rfl rfl rfl rfl ?_
       refine al_mv rfl rfl ?_
       refine al_caseB 29 rfl (fun hb90 => ?_) (fun hb90 => ?_)
       ·replace h := bif_t hb90 h
        refine al_skip ?_
        refine al_skip ?_
        refine al_val (ov_pick_t rfl rfl rfl) ?_
        refine al_nil ?_
        exact aq_join true h (fun w a hm hs => norm hm hs [0] [1, 0] [(0, v0_0), (4, l73v4), (5, (int .i64 l73i22)), (6, (int .i64 u79)), (20, v0_0), (21, (int .i64 (a0.length : Int))), (22, (int .i64 l73i22)), (32, (bool true))] (by decide) ⟨rfl, rfl, rfl, rfl, rfl, rfl, rfl, rfl, trivial⟩)
       ·replace h := bif_f hb90 h
        refine al_mv rfl rfl ?_
        refine al_in rfl rfl rfl rfl ?_
        refine al_val (ov_pick_f rfl rfl rfl) ?_
        refine al_nil ?_
        exact aq_join (decide (u79 > (1048576 : Int))) h (fun w a hm hs => norm hm hs [0] [1, 0] [(0, v0_0), (4, l73v4), (5, (int .i64 l73i22)), (6, (int .i64 u79)), (20, v0_0), (21, (int .i64 (a0.length : Int))), (22, (int .i64 l73i22)), (32, (bool (decide (u79 > (1048576 : Int)))))] (by decide) ⟨rfl, rfl, rfl, rfl, rfl, rfl, rfl, rfl, trivial⟩)
    ·replace h := bif_f hb76 h
     refine aw_exit ?_
     refine aq_then_exit ?_
     refine aq_then_exit ?_
     refine aq_block_exit ?_
     exact aq_join (l73v4, l73x4) h (fun w a hm hs => norm hm hs [0] [0] [(0, v0_0), (4, l73v4)] (by decide) ⟨rfl, rfl, trivial⟩)
 ·clear hkk2
  refine aw_region ?_
  refine al_mv rfl rfl ?_
  refine al_val (ov_lenD 0 rfl rfl Tryd.underlying71 rfl) ?_
  refine al_in rfl rfl rfl rfl ?_
  refine al_mv rfl rfl ?_
  refine al_caseB 15 rfl (fun hb91 => ?_) (fun hb91 => ?_)
  ·replace h := bif_t hb91 h
   refine al_skip ?_
   refine al_skip ?_
   refine al_skip ?_
   refine al_val (ov_pick_t rfl rfl rfl) ?_
   refine al_nil ?_
   exact aq_join true h (fun w a hm hs => norm hm hs [] [0] [(0, v0_0), (19, (bool true))] (by decide) ⟨rfl, rfl, trivial⟩)
  ·replace h := bif_f hb91 h
   refine al_mv rfl rfl ?_
   refine al_val (ov_lenD 0 rfl rfl Tryd.underlying71 rfl) ?_
   refine al_in rfl rfl rfl rfl ?_
   refine al_val (ov_pick_f rfl rfl rfl) ?_
   refine al_nil ?_
   exact aq_join (decide ((a0.length : Int) > (256 : Int))) h (fun w a hm hs => norm hm hs [] [0] [(0, v0_0), (19, (bool (decide ((a0.length : Int) > (256 : Int)))))] (by decide) ⟨rfl, rfl, trivial⟩)
def f_lumref_Kraft_L24 (u13 : Int) (kk20 : (Int → Option (Int × Int))) : Nat → Int → Int → Option (Int × Int)
  | 0, _, _ => none
  | k23 + 1, l22i7, l22i30 => (bif (decide (l22i30 < (IntKind.i64.wrap ((48 : Int) - u13)))) then (f_lumref_Kraft_L24 u13 kk20 k23 (IntKind.i64.wrap (l22i7 * (2 : Int))) (IntKind.i64.wrap (l22i30 + (1 : Int)))) else (kk20 l22i7))
def f_lumref_Kraft_L8 (a0 : (List Int)) (kk5 : (Int → Option (Int × Int))) (fu : Nat) : Nat → Int → Int → Option (Int × Int)
  | 0, _, _ => none
  | k7 + 1, l6i4, l6i18 => (lt (fun (l6i4 : Int) (l6i18 : Int) => (f_lumref_Kraft_L8 a0 kk5 fu k7 l6i4 l6i18)) fun (kk9 : Int → Int → Option (Int × Int)) => (bif (decide (l6i18 < (a0.length : Int))) then (lt (fun (j11i4 : Int) => (kk9 j11i4 (IntKind.i64.wrap (l6i18 + (1 : Int))))) fun (kk12 : Int → Option (Int × Int)) => (opt (at? a0 l6i18) fun (u13 : Int) => (lt (fun (j16b27 : Bool) => (bif j16b27 then (some ((0 : Int), (1 : Int))) else (lt (fun (j19i7 : Int) => (bif (decide (u13 > (0 : Int))) then (kk12 (IntKind.i64.wrap (l6i4 + j19i7))) else (kk12 l6i4))) fun (kk20 : Int → Option (Int × Int)) => (f_lumref_Kraft_L24 u13 kk20 fu (1 : Int) (0 : Int))))) fun (kk17 : Bool → Option (Int × Int)) => (bif (decide (u13 < (0 : Int))) then (kk17 true) else (kk17 (decide (u13 > (48 : Int)))))))) else (kk5 l6i4)))
def f_lumref_Kraft (fu : Nat) (a0 : (List Int)) : Option (Int × Int) := (lt (fun (j1b15 : Bool) => (bif j1b15 then (some ((0 : Int), (1 : Int))) else (lt (fun (j4i4 : Int) => (some (j4i4, (0 : Int)))) fun (kk5 : Int → Option (Int × Int)) => (f_lumref_Kraft_L8 a0 kk5 fu fu (0 : Int) (0 : Int))))) fun (kk2 : Bool → Option (Int × Int)) => (bif ((a0.length : Int) == (0 : Int)) then (kk2 true) else (kk2 (decide ((a0.length : Int) > (256 : Int))))))
set_option maxRecDepth 100000 in
set_option maxHeartbeats 2000000 in
theorem f_lumref_Kraft_ok (fu : Nat) (v0_0 : Value) (a0 : (List Int)) {r : (Int × Int)} (h : f_lumref_Kraft fu a0 = some r) : FnOk Tryd.prog 150 [v0_0] [(fDat (tyList (tyInt .i64)) [v0_0] a0)] [] (fun (i : Unit) => { val := (Value.tuple #[(int .i64 r.1), (int .i64 r.2)]) }) := by
 unfold f_lumref_Kraft at h
 refine fn_enter Tryd.func150 rfl Tryd.ntmps150 rfl (fun w0 Z0 => ?_)
 refine aw_sr ?_
 refine al_as rfl rfl ?_
 refine al_as rfl rfl ?_
 refine al_nt ?_
 refine aw_seq ?_
 obtain ⟨kk2, hkk2, h⟩ := lt_some h
 refine aw_seq_join (ι := Bool) (fun i => (memOf w0 Z0 [] [] [(fDat (tyList (tyInt .i64)) [v0_0] a0)])) (fun i => (tab [(0, v0_0), (15, (bool i))])) (fun i => kk2 i = some r) ?_ ?_
 ·rintro j1b15 h
  have h : kk2 j1b15 = some r := h
  rw [hkk2] at h
  dsimp only at h
  clear hkk2
  refine aw_show (m := (memOf w0 Z0 [] [] [(fDat (tyList (tyInt .i64)) [v0_0] a0)])) (S := (tab [(0, v0_0), (15, (bool j1b15))])) ?_
  refine aw_cond rfl (fun hb3 => ?_) (fun hb3 => ?_)
  ·replace h := bif_t hb3 h
   refine aw_sr ?_
   refine al_as rfl rfl ?_
   refine al_as rfl rfl ?_
   refine al_nt ?_
   refine aw_ret ?_
   refine aq_then_ret ?_
   obtain rfl := Option.some.inj h
   exact fn_ret () [] [] rfl rfl rfl rfl (res2 rfl rfl rfl) rfl rfl rfl (by decide)
  ·replace h := bif_f hb3 h
   refine aw_skip ?_
   refine aq_tr ?_
   refine al_as rfl rfl ?_
   refine al_nt ?_
   obtain ⟨kk5, hkk5, h⟩ := lt_some h
   refine aw_seq_join (ι := Int) (fun i => (memOf w0 Z0 [] [] [(fDat (tyList (tyInt .i64)) [v0_0] a0)])) (fun i => (tab [(4, (int .i64 i))])) (fun i => kk5 i = some r) ?_ ?_
   ·rintro j4i4 h
    have h : kk5 j4i4 = some r := h
    rw [hkk5] at h
    dsimp only at h
    clear hkk5
    refine aw_show (m := (memOf w0 Z0 [] [] [(fDat (tyList (tyInt .i64)) [v0_0] a0)])) (S := (tab [(4, (int .i64 j4i4))])) ?_
    refine aw_sr ?_
    refine al_mv rfl rfl ?_
    refine al_as rfl rfl ?_
    refine al_as rfl rfl ?_
    refine al_nt ?_
    refine aw_ret ?_
    obtain rfl := Option.some.inj h
    exact fn_ret () [] [] rfl rfl rfl rfl (res2 rfl rfl rfl) rfl rfl rfl (by decide)
   ·clear hkk5
    refine aw_sr ?_
    refine al_mv rfl rfl ?_
    refine al_val (ov_lenD 0 rfl rfl Tryd.underlying71 rfl) ?_
    refine al_mv rfl rfl ?_
    refine al_nt ?_
    refine aw_block ?_
    refine aw_state (aw_loop (ι := Int × Int) (fun i => (memOf w0 Z0 [] [] [(fDat (tyList (tyInt .i64)) [v0_0] a0)])) (fun i => (tab [(4, (int .i64 i.1)), (16, v0_0), (17, (int .i64 (a0.length : Int))), (18, (int .i64 i.2))])) (fun q i => f_lumref_Kraft_L8 a0 kk5 fu q i.1 i.2 = some r) ?_ fu ((0 : Int), (0 : Int)) h) (fun w a hm hs => norm hm hs [] [0] [(4, (int .i64 (0 : Int))), (16, v0_0), (17, (int .i64 (a0.length : Int))), (18, (int .i64 (0 : Int)))] (by decide) ⟨rfl, rfl, rfl, rfl, trivial⟩)
    clear h
    rintro k7 ⟨l6i4, l6i18⟩ h
    have h : f_lumref_Kraft_L8 a0 kk5 fu k7 l6i4 l6i18 = some r := h
    obtain _ | k7 := k7
    · rw [f_lumref_Kraft_L8] at h; cases h
    rw [f_lumref_Kraft_L8] at h
    refine aw_show (m := (memOf w0 Z0 [] [] [(fDat (tyList (tyInt .i64)) [v0_0] a0)])) (S := (tab [(4, (int .i64 l6i4)), (16, v0_0), (17, (int .i64 (a0.length : Int))), (18, (int .i64 l6i18))])) ?_
    obtain ⟨kk9, hkk9, h⟩ := lt_some h
    refine aw_body_join (ι := Int × Int) (fun i => (memOf w0 Z0 [] [] [(fDat (tyList (tyInt .i64)) [v0_0] a0)])) (fun i => (tab [(4, (int .i64 i.1)), (16, v0_0), (17, (int .i64 (a0.length : Int))), (18, (int .i64 i.2))])) (fun i => kk9 i.1 i.2 = some r) (fun i h => aq_again k7 i (Nat.lt_succ_self _) (by rw [hkk9] at h; exact h) (fun w a hm hs => ⟨hm, hs⟩)) ?_
    clear hkk9
    refine aw_sr ?_
    refine al_in rfl rfl rfl rfl ?_
    refine al_nt ?_
    refine aw_seq ?_
    refine aw_cond rfl (fun hb10 => ?_) (fun hb10 => ?_)
    ·replace h := bif_t hb10 h
     refine aw_skip ?_
     refine aq_then ?_
     obtain ⟨kk12, hkk12, h⟩ := lt_some h
     refine aw_seq_join (ι := Int) (fun i => (memOf w0 Z0 [] [] [(fDat (tyList (tyInt .i64)) [v0_0] a0)])) (fun i => (tab [(4, (int .i64 i)), (16, v0_0), (17, (int .i64 (a0.length : Int))), (18, (int .i64 l6i18))])) (fun i => kk12 i = some r) ?_ ?_
     ·rintro j11i4 h
      have h : kk12 j11i4 = some r := h
      rw [hkk12] at h
      dsimp only at h
      clear hkk12
      refine aw_show (m := (memOf w0 Z0 [] [] [(fDat (tyList (tyInt .i64)) [v0_0] a0)])) (S := (tab [(4, (int .i64 j11i4)), (16, v0_0), (17, (int .i64 (a0.length : Int))), (18, (int .i64 l6i18))])) ?_
      refine aw_region ?_
      refine al_in rfl rfl rfl rfl ?_
      refine al_mv rfl rfl ?_
      refine al_nil ?_
      exact aq_join (j11i4, (IntKind.i64.wrap (l6i18 + (1 : Int)))) h (fun w a hm hs => norm hm hs [] [0] [(4, (int .i64 j11i4)), (16, v0_0), (17, (int .i64 (a0.length : Int))), (18, (int .i64 (IntKind.i64.wrap (l6i18 + (1 : Int)))))] (by decide) ⟨rfl, rfl, rfl, rfl, trivial⟩)
     ·clear hkk12
      refine aw_block ?_
      refine aw_sr ?_
      obtain ⟨u13, hu14, h⟩ := opt_some h
      refine al_idxD 0 hu14 rfl rfl rfl Tryd.underlying71 sz3 rfl (fun p15 => ?_)
      refine al_val (ov_loadP (ds := [(int .i64 u13)]) 0 rfl (fun h => h) rfl Tryd.underlying3 sz3 rfl rfl rfl) ?_
      refine al_as rfl rfl ?_
      refine al_nt ?_
      refine aw_seq ?_
      obtain ⟨kk17, hkk17, h⟩ := lt_some h
      refine aw_seq_join (ι := Bool) (fun i => (memOf w0 Z0 [] [] [(fDat (tyList (tyInt .i64)) [v0_0] a0), (fPtr (tyInt .i64) p15 u13)])) (fun i => (tab [(4, (int .i64 l6i4)), (6, (int .i64 u13)), (16, v0_0), (17, (int .i64 (a0.length : Int))), (18, (int .i64 l6i18)), (27, (bool i))])) (fun i => kk17 i = some r) ?_ ?_
      ·rintro j16b27 h
       have h : kk17 j16b27 = some r := h
       rw [hkk17] at h
       dsimp only at h
       clear hkk17
       refine aw_show (m := (memOf w0 Z0 [] [] [(fDat (tyList (tyInt .i64)) [v0_0] a0), (fPtr (tyInt .i64) p15 u13)])) (S := (tab [(4, (int .i64 l6i4)), (6, (int .i64 u13)), (16, v0_0), (17, (int .i64 (a0.length : Int))), (18, (int .i64 l6i18)), (27, (bool j16b27))])) ?_
       refine aw_cond rfl (fun hb18 => ?_) (fun hb18 => ?_)
       ·replace h := bif_t hb18 h
        refine aw_sr ?_
        refine al_as rfl rfl ?_
        refine al_as rfl rfl ?_
        refine al_nt ?_
        refine aw_ret ?_
        refine aq_then_ret ?_
        refine aq_block_ret ?_
        refine aq_then_ret ?_
        refine aq_then_ret ?_
        refine aq_block_ret ?_
        refine aq_then_ret ?_
        obtain rfl := Option.some.inj h
        exact fn_ret () [] [] rfl rfl rfl rfl (res2 rfl rfl rfl) rfl rfl rfl (by decide)
       ·replace h := bif_f hb18 h
        refine aw_skip ?_
        refine aq_tr ?_
        refine al_as rfl rfl ?_
        refine al_nt ?_
        obtain ⟨kk20, hkk20, h⟩ := lt_some h
        refine aw_seq_join (ι := Int) (fun i => (memOf w0 Z0 [] [] [(fDat (tyList (tyInt .i64)) [v0_0] a0), (fPtr (tyInt .i64) p15 u13)])) (fun i => (tab [(4, (int .i64 l6i4)), (6, (int .i64 u13)), (7, (int .i64 i)), (16, v0_0), (17, (int .i64 (a0.length : Int))), (18, (int .i64 l6i18))])) (fun i => kk20 i = some r) ?_ ?_
        ·rintro j19i7 h
         have h : kk20 j19i7 = some r := h
         rw [hkk20] at h
         dsimp only at h
         clear hkk20
         refine aw_show (m := (memOf w0 Z0 [] [] [(fDat (tyList (tyInt .i64)) [v0_0] a0), (fPtr (tyInt .i64) p15 u13)])) (S := (tab [(4, (int .i64 l6i4)), (6, (int .i64 u13)), (7, (int .i64 j19i7)), (16, v0_0), (17, (int .i64 (a0.length : Int))), (18, (int .i64 l6i18))])) ?_
         refine aw_sr ?_
         refine al_mv rfl rfl ?_
         refine al_in rfl rfl rfl rfl ?_
         refine al_nt ?_
         refine aw_cond rfl (fun hb21 => ?_) (fun hb21 => ?_)
         ·replace h := bif_t hb21 h
          refine aw_region ?_
          refine al_mv rfl rfl ?_
          refine al_mv rfl rfl ?_
          refine al_in rfl rfl rfl rfl ?_
          refine al_as rfl rfl ?_
          refine al_nil ?_
          refine aq_block ?_
          exact aq_join (IntKind.i64.wrap (l6i4 + j19i7)) h (fun w a hm hs => norm hm hs [] [0] [(4, (int .i64 (IntKind.i64.wrap (l6i4 + j19i7)))), (16, v0_0), (17, (int .i64 (a0.length : Int))), (18, (int .i64 l6i18))] (by decide) ⟨rfl, rfl, rfl, rfl, trivial⟩)
         ·replace h := bif_f hb21 h
          refine aw_skip ?_
          refine aq_block ?_
          exact aq_join l6i4 h (fun w a hm hs => norm hm hs [] [0] [(4, (int .i64 l6i4)), (16, v0_0), (17, (int .i64 (a0.length : Int))), (18, (int .i64 l6i18))] (by decide) ⟨rfl, rfl, rfl, rfl, trivial⟩)
        ·clear hkk20
         refine aw_sr ?_
         refine al_mv rfl rfl ?_
         refine al_in rfl rfl rfl rfl ?_
         refine al_mv rfl rfl ?_
         refine al_nt ?_
         refine aw_block ?_
         refine aw_state (aw_loop (ι := Int × Int) (fun i => (memOf w0 Z0 [] [] [(fDat (tyList (tyInt .i64)) [v0_0] a0), (fPtr (tyInt .i64) p15 u13)])) (fun i => (tab [(4, (int .i64 l6i4)), (6, (int .i64 u13)), (7, (int .i64 i.1)), (16, v0_0), (17, (int .i64 (a0.length : Int))), (18, (int .i64 l6i18)), (29, (int .i64 (IntKind.i64.wrap ((48 : Int) - u13)))), (30, (int .i64 i.2))])) (fun q i => f_lumref_Kraft_L24 u13 kk20 q i.1 i.2 = some r) ?_ fu ((1 : Int), (0 : Int)) h) (fun w a hm hs => norm hm hs [] [0, 1] [(4, (int .i64 l6i4)), (6, (int .i64 u13)), (7, (int .i64 (1 : Int))), (16, v0_0), (17, (int .i64 (a0.length : Int))), (18, (int .i64 l6i18)), (29, (int .i64 (IntKind.i64.wrap ((48 : Int) - u13)))), (30, (int .i64 (0 : Int)))] (by decide) ⟨rfl, rfl, rfl, rfl, rfl, rfl, rfl, rfl, trivial⟩)
         clear h
         rintro k23 ⟨l22i7, l22i30⟩ h
         have h : f_lumref_Kraft_L24 u13 kk20 k23 l22i7 l22i30 = some r := h
         obtain _ | k23 := k23
         · rw [f_lumref_Kraft_L24] at h; cases h
         rw [f_lumref_Kraft_L24] at h
         refine aw_show (m := (memOf w0 Z0 [] [] [(fDat (tyList (tyInt .i64)) [v0_0] a0), (fPtr (tyInt .i64) p15 u13)])) (S := (tab [(4, (int .i64 l6i4)), (6, (int .i64 u13)), (7, (int .i64 l22i7)), (16, v0_0), (17, (int .i64 (a0.length : Int))), (18, (int .i64 l6i18)), (29, (int .i64 (IntKind.i64.wrap ((48 : Int) - u13)))), (30, (int .i64 l22i30))])) ?_
         refine aw_sr ?_
         refine al_in rfl rfl rfl rfl ?_
         refine al_nt ?_
         refine aw_seq ?_
         refine aw_cond rfl (fun hb25 => ?_) (fun hb25 => ?_)
         ·replace h := bif_t hb25 h
          refine aw_skip ?_
          refine aq_then ?_
          refine aw_seq ?_
          refine aw_block ?_
          refine aw_region ?_
          refine al_mv rfl rfl ?_
          refine al_in rfl rfl rfl rfl ?_
          refine al_as rfl rfl ?_
          refine al_nil ?_
          refine aq_block ?_
          refine aq_then ?_
          refine aw_region ?_
          refine al_in rfl rfl rfl rfl ?_
          refine al_mv rfl rfl ?_
          refine al_nil ?_
          exact aq_again k23 ((IntKind.i64.wrap (l22i7 * (2 : Int))), (IntKind.i64.wrap (l22i30 + (1 : Int)))) (Nat.lt_succ_self _) h (fun w a hm hs => norm hm hs [] [0, 1] [(4, (int .i64 l6i4)), (6, (int .i64 u13)), (7, (int .i64 (IntKind.i64.wrap (l22i7 * (2 : Int))))), (16, v0_0), (17, (int .i64 (a0.length : Int))), (18, (int .i64 l6i18)), (29, (int .i64 (IntKind.i64.wrap ((48 : Int) - u13)))), (30, (int .i64 (IntKind.i64.wrap (l22i30 + (1 : Int)))))] (by decide) ⟨rfl, rfl, rfl, rfl, rfl, rfl, rfl, rfl, trivial⟩)
         ·replace h := bif_f hb25 h
          refine aw_exit ?_
          refine aq_then_exit ?_
          refine aq_then_exit ?_
          refine aq_block_exit ?_
          exact aq_join l22i7 h (fun w a hm hs => norm hm hs [] [0, 1] [(4, (int .i64 l6i4)), (6, (int .i64 u13)), (7, (int .i64 l22i7)), (16, v0_0), (17, (int .i64 (a0.length : Int))), (18, (int .i64 l6i18))] (by decide) ⟨rfl, rfl, rfl, rfl, rfl, rfl, trivial⟩)
      ·clear hkk17
       refine aw_region ?_
       refine al_mv rfl rfl ?_
       refine al_in rfl rfl rfl rfl ?_
       refine al_mv rfl rfl ?_
       refine al_caseB 24 rfl (fun hb26 => ?_) (fun hb26 => ?_)
       ·replace h := bif_t hb26 h
        refine al_skip ?_
        refine al_skip ?_
        refine al_val (ov_pick_t rfl rfl rfl) ?_
        refine al_nil ?_
        exact aq_join true h (fun w a hm hs => norm hm hs [] [1, 0] [(4, (int .i64 l6i4)), (6, (int .i64 u13)), (16, v0_0), (17, (int .i64 (a0.length : Int))), (18, (int .i64 l6i18)), (27, (bool true))] (by decide) ⟨rfl, rfl, rfl, rfl, rfl, rfl, trivial⟩)
       ·replace h := bif_f hb26 h
        refine al_mv rfl rfl ?_
        refine al_in rfl rfl rfl rfl ?_
        refine al_val (ov_pick_f rfl rfl rfl) ?_
        refine al_nil ?_
        exact aq_join (decide (u13 > (48 : Int))) h (fun w a hm hs => norm hm hs [] [1, 0] [(4, (int .i64 l6i4)), (6, (int .i64 u13)), (16, v0_0), (17, (int .i64 (a0.length : Int))), (18, (int .i64 l6i18)), (27, (bool (decide (u13 > (48 : Int)))))] (by decide) ⟨rfl, rfl, rfl, rfl, rfl, rfl, trivial⟩)
    ·replace h := bif_f hb10 h
     refine aw_exit ?_
     refine aq_then_exit ?_
     refine aq_then_exit ?_
     refine aq_block_exit ?_
     exact aq_join l6i4 h (fun w a hm hs => norm hm hs [] [0] [(4, (int .i64 l6i4))] (by decide) ⟨rfl, trivial⟩)
 ·clear hkk2
  refine aw_region ?_
  refine al_mv rfl rfl ?_
  refine al_val (ov_lenD 0 rfl rfl Tryd.underlying71 rfl) ?_
  refine al_in rfl rfl rfl rfl ?_
  refine al_mv rfl rfl ?_
  refine al_caseB 11 rfl (fun hb27 => ?_) (fun hb27 => ?_)
  ·replace h := bif_t hb27 h
   refine al_skip ?_
   refine al_skip ?_
   refine al_skip ?_
   refine al_val (ov_pick_t rfl rfl rfl) ?_
   refine al_nil ?_
   exact aq_join true h (fun w a hm hs => norm hm hs [] [0] [(0, v0_0), (15, (bool true))] (by decide) ⟨rfl, rfl, trivial⟩)
  ·replace h := bif_f hb27 h
   refine al_mv rfl rfl ?_
   refine al_val (ov_lenD 0 rfl rfl Tryd.underlying71 rfl) ?_
   refine al_in rfl rfl rfl rfl ?_
   refine al_val (ov_pick_f rfl rfl rfl) ?_
   refine al_nil ?_
   exact aq_join (decide ((a0.length : Int) > (256 : Int))) h (fun w a hm hs => norm hm hs [] [0] [(0, v0_0), (15, (bool (decide ((a0.length : Int) > (256 : Int)))))] (by decide) ⟨rfl, rfl, trivial⟩)
def f_lumref_Codes_L21 (a0 : (List Int)) (l9i26 : Int) (kk15 : ((List Int) → Option ((List Int) × Int))) (u16 : Int) : Nat → (List Int) → Int → Option ((List Int) × Int)
  | 0, _, _ => none
  | k20 + 1, l19x6, l19i33 => (bif (decide (l19i33 < (a0.length : Int))) then (lt (fun (j23x6 : (List Int)) => (f_lumref_Codes_L21 a0 l9i26 kk15 u16 k20 j23x6 (IntKind.i64.wrap (l19i33 + (1 : Int))))) fun (kk24 : (List Int) → Option ((List Int) × Int)) => (opt (at? a0 l19i33) fun (u25 : Int) => (lt (fun (j28b58 : Bool) => (bif j28b58 then (opt (at? l19x6 l9i26) fun (u31 : Int) => (req (0 ≤ (IntKind.i64.wrap (u16 - u25))) (opt (at? l19x6 l9i26) fun (u36 : Int) => (kk24 (l19x6.set (l9i26).toNat (IntKind.i64.wrap (u31 + (IntKind.i64.wrap ((1 : Int) * 2 ^ min ((IntKind.i64.wrap (u16 - u25))).toNat (IntKind.bits .i64)))))))))) else (kk24 l19x6))) fun (kk29 : Bool → Option ((List Int) × Int)) => (bif (decide (u16 > (0 : Int))) then (bif (decide (u25 > (0 : Int))) then (bif (decide (u25 < u16)) then (kk29 true) else (bif (u25 == u16) then (kk29 (decide (l19i33 < l9i26))) else (kk29 false))) else (kk29 false)) else (kk29 false))))) else (kk15 l19x6))
def f_lumref_Codes_L11 (a0 : (List Int)) (kk8 : ((List Int) → Option ((List Int) × Int))) (fu : Nat) : Nat → (List Int) → Int → Option ((List Int) × Int)
  | 0, _, _ => none
  | k10 + 1, l9x6, l9i26 => (lt (fun (l9x6 : (List Int)) (l9i26 : Int) => (f_lumref_Codes_L11 a0 kk8 fu k10 l9x6 l9i26)) fun (kk12 : (List Int) → Int → Option ((List Int) × Int)) => (bif (decide (l9i26 < (a0.length : Int))) then (lt (fun (j14x6 : (List Int)) => (kk12 j14x6 (IntKind.i64.wrap (l9i26 + (1 : Int))))) fun (kk15 : (List Int) → Option ((List Int) × Int)) => (opt (at? a0 l9i26) fun (u16 : Int) => (f_lumref_Codes_L21 a0 l9i26 kk15 u16 fu l9x6 (0 : Int)))) else (kk8 l9x6)))
def f_lumref_Codes (fu : Nat) (a0 : (List Int)) : Option ((List Int) × Int) := (opt (f_lumref_Kraft fu a0) fun (r2 : (Int × Int)) => (bif (r2.2 != (0 : Int)) then (some (([] : List Int), r2.2)) else (bif (decide (r2.1 > (281474976710656 : Int))) then (some (([] : List Int), (4 : Int))) else (req (0 ≤ (a0.length : Int) ∧ 8 * (a0.length : Int) ≤ 281474976710656 ∧ (a0.length : Int) ≤ 9223372036854775807) (lt (fun (j7x6 : (List Int)) => (some (j7x6, (0 : Int)))) fun (kk8 : (List Int) → Option ((List Int) × Int)) => (f_lumref_Codes_L11 a0 kk8 fu fu (List.replicate ((a0.length : Int)).toNat 0) (0 : Int)))))))
set_option maxRecDepth 100000 in
set_option maxHeartbeats 2000000 in
theorem f_lumref_Codes_ok (fu : Nat) (v0_0 : Value) (a0 : (List Int)) {r : ((List Int) × Int)} (h : f_lumref_Codes fu a0 = some r) : FnOk Tryd.prog 98 [v0_0] [(fDat (tyList (tyInt .i64)) [v0_0] a0)] [] (fun (i : Value) => { val := (Value.tuple #[i, (int .i64 r.2)]), own := [(oRow i 3 (tyInt .i64) r.1)] }) := by
 unfold f_lumref_Codes at h
 refine fn_enter Tryd.func98 rfl Tryd.ntmps98 rfl (fun w0 Z0 => ?_)
 refine aw_sr ?_
 refine al_as rfl rfl ?_
 refine al_as rfl rfl ?_
 refine al_nt ?_
 refine aw_sr ?_
 refine al_mv rfl rfl ?_
 obtain ⟨r2, hc1, h⟩ := opt_some h
 refine al_call (vs := [v0_0]) (f_lumref_Kraft_ok fu v0_0 a0 hc1) [] [] [] (pre_fz 0 rfl pre_nil) rfl (by simp) (by decide) (.inl rfl) rfl Tryd.func150 rfl rfl rfl (fun _ => ?_)
 refine al_mv rfl rfl ?_
 refine al_ex rfl rfl rfl ?_
 refine al_ex rfl rfl rfl ?_
 refine al_as rfl rfl ?_
 refine al_as rfl rfl ?_
 refine al_nt ?_
 refine aw_seq ?_
 refine aw_sr ?_
 refine al_mv rfl rfl ?_
 refine al_in rfl rfl rfl rfl ?_
 refine al_nt ?_
 refine aw_cond rfl (fun hb3 => ?_) (fun hb3 => ?_)
 ·replace h := bif_t hb3 h
  refine aw_sr ?_
  refine al_mv rfl rfl ?_
  refine al_as rfl rfl ?_
  refine al_as rfl rfl ?_
  refine al_nt ?_
  refine aw_ret ?_
  refine aq_then_ret ?_
  refine aq_nilR 3 (tyInt .i64) ?_
  obtain rfl := Option.some.inj h
  exact fn_ret (Value.slice none 0 0) [0] [] rfl rfl rfl rfl (res2 rfl rfl rfl) rfl rfl rfl (by decide)
 ·replace h := bif_f hb3 h
  refine aw_skip ?_
  refine aq_then ?_
  refine aw_seq ?_
  refine aw_sr ?_
  refine al_mv rfl rfl ?_
  refine al_in rfl rfl rfl rfl ?_
  refine al_nt ?_
  refine aw_cond rfl (fun hb4 => ?_) (fun hb4 => ?_)
  ·replace h := bif_t hb4 h
   refine aw_sr ?_
   refine al_as rfl rfl ?_
   refine al_as rfl rfl ?_
   refine al_nt ?_
   refine aw_ret ?_
   refine aq_then_ret ?_
   refine aq_nilR 3 (tyInt .i64) ?_
   obtain rfl := Option.some.inj h
   exact fn_ret (Value.slice none 0 0) [0] [] rfl rfl rfl rfl (res2 rfl rfl rfl) rfl rfl rfl (by decide)
  ·replace h := bif_f hb4 h
   refine aw_skip ?_
   refine aq_tr ?_
   refine al_mv rfl rfl ?_
   refine al_val (ov_lenD 0 rfl rfl Tryd.underlying71 rfl) ?_
   obtain ⟨hc5, h⟩ := req_some h
   refine al_make (τ := (tyInt .i64)) (x0 := 0) hc5.1 hc5.2.1 hc5.2.2 rfl rfl Tryd.underlying71 to3 (fun _ _ => rfl) rfl rfl (fun v6 => ?_)
   refine al_as rfl rfl ?_
   refine al_nt ?_
   obtain ⟨kk8, hkk8, h⟩ := lt_some h
   refine aw_seq_join (ι := (List Int)) (fun i => (memOf w0 Z0 [] [(oRow v6 3 (tyInt .i64) i)] [(fDat (tyList (tyInt .i64)) [v0_0] a0)])) (fun i => (tab [(6, v6)])) (fun i => kk8 i = some r) ?_ ?_
   ·rintro j7x6 h
    have h : kk8 j7x6 = some r := h
    rw [hkk8] at h
    dsimp only at h
    clear hkk8
    refine aw_show (m := (memOf w0 Z0 [] [(oRow v6 3 (tyInt .i64) j7x6)] [(fDat (tyList (tyInt .i64)) [v0_0] a0)])) (S := (tab [(6, v6)])) ?_
    refine aw_sr ?_
    refine al_mv rfl rfl ?_
    refine al_as rfl rfl ?_
    refine al_as rfl rfl ?_
    refine al_nt ?_
    refine aw_ret ?_
    obtain rfl := Option.some.inj h
    exact fn_ret v6 [0] [] rfl rfl rfl rfl (res2 rfl rfl rfl) rfl rfl rfl (by decide)
   ·clear hkk8
    refine aw_sr ?_
    refine al_mv rfl rfl ?_
    refine al_val (ov_lenD 0 rfl rfl Tryd.underlying71 rfl) ?_
    refine al_mv rfl rfl ?_
    refine al_nt ?_
    refine aw_block ?_
    refine aw_state (aw_loop (ι := (List Int) × Int) (fun i => (memOf w0 Z0 [] [(oRow v6 3 (tyInt .i64) i.1)] [(fDat (tyList (tyInt .i64)) [v0_0] a0)])) (fun i => (tab [(0, v0_0), (6, v6), (24, v0_0), (25, (int .i64 (a0.length : Int))), (26, (int .i64 i.2))])) (fun q i => f_lumref_Codes_L11 a0 kk8 fu q i.1 i.2 = some r) ?_ fu ((List.replicate ((a0.length : Int)).toNat 0), (0 : Int)) h) (fun w a hm hs => norm hm hs [0] [0] [(0, v0_0), (6, v6), (24, v0_0), (25, (int .i64 (a0.length : Int))), (26, (int .i64 (0 : Int)))] (by decide) ⟨rfl, rfl, rfl, rfl, rfl, trivial⟩)
    clear h
    rintro k10 ⟨l9x6, l9i26⟩ h
    have h : f_lumref_Codes_L11 a0 kk8 fu k10 l9x6 l9i26 = some r := h
    obtain _ | k10 := k10
    · rw [f_lumref_Codes_L11] at h; cases h
    rw [f_lumref_Codes_L11] at h
    refine aw_show (m := (memOf w0 Z0 [] [(oRow v6 3 (tyInt .i64) l9x6)] [(fDat (tyList (tyInt .i64)) [v0_0] a0)])) (S := (tab [(0, v0_0), (6, v6), (24, v0_0), (25, (int .i64 (a0.length : Int))), (26, (int .i64 l9i26))])) ?_
    obtain ⟨kk12, hkk12, h⟩ := lt_some h
    refine aw_body_join (ι := (List Int) × Int) (fun i => (memOf w0 Z0 [] [(oRow v6 3 (tyInt .i64) i.1)] [(fDat (tyList (tyInt .i64)) [v0_0] a0)])) (fun i => (tab [(0, v0_0), (6, v6), (24, v0_0), (25, (int .i64 (a0.length : Int))), (26, (int .i64 i.2))])) (fun i => kk12 i.1 i.2 = some r) (fun i h => aq_again k10 i (Nat.lt_succ_self _) (by rw [hkk12] at h; exact h) (fun w a hm hs => ⟨hm, hs⟩)) ?_
    clear hkk12
    refine aw_sr ?_
    refine al_in rfl rfl rfl rfl ?_
    refine al_nt ?_
    refine aw_seq ?_
    refine aw_cond rfl (fun hb13 => ?_) (fun hb13 => ?_)
    ·replace h := bif_t hb13 h
     refine aw_skip ?_
     refine aq_then ?_
     obtain ⟨kk15, hkk15, h⟩ := lt_some h
     refine aw_seq_join (ι := (List Int)) (fun i => (memOf w0 Z0 [] [(oRow v6 3 (tyInt .i64) i)] [(fDat (tyList (tyInt .i64)) [v0_0] a0)])) (fun i => (tab [(0, v0_0), (6, v6), (24, v0_0), (25, (int .i64 (a0.length : Int))), (26, (int .i64 l9i26))])) (fun i => kk15 i = some r) ?_ ?_
     ·rintro j14x6 h
      have h : kk15 j14x6 = some r := h
      rw [hkk15] at h
      dsimp only at h
      clear hkk15
      refine aw_show (m := (memOf w0 Z0 [] [(oRow v6 3 (tyInt .i64) j14x6)] [(fDat (tyList (tyInt .i64)) [v0_0] a0)])) (S := (tab [(0, v0_0), (6, v6), (24, v0_0), (25, (int .i64 (a0.length : Int))), (26, (int .i64 l9i26))])) ?_
      refine aw_region ?_
      refine al_in rfl rfl rfl rfl ?_
      refine al_mv rfl rfl ?_
      refine al_nil ?_
      exact aq_join (j14x6, (IntKind.i64.wrap (l9i26 + (1 : Int)))) h (fun w a hm hs => norm hm hs [0] [0] [(0, v0_0), (6, v6), (24, v0_0), (25, (int .i64 (a0.length : Int))), (26, (int .i64 (IntKind.i64.wrap (l9i26 + (1 : Int)))))] (by decide) ⟨rfl, rfl, rfl, rfl, rfl, trivial⟩)
     ·clear hkk15
      refine aw_block ?_
      refine aw_sr ?_
      refine al_mv rfl rfl ?_
      obtain ⟨u16, hu17, h⟩ := opt_some h
      refine al_idxD 0 hu17 rfl rfl rfl Tryd.underlying71 sz3 rfl (fun p18 => ?_)
      refine al_val (ov_loadP (ds := [(int .i64 u16)]) 0 rfl (fun h => h) rfl Tryd.underlying3 sz3 rfl rfl rfl) ?_
      refine al_as rfl rfl ?_
      refine al_as rfl rfl ?_
      refine al_nt ?_
      refine aw_sr ?_
      refine al_mv rfl rfl ?_
      refine al_val (ov_lenD 1 rfl rfl Tryd.underlying71 rfl) ?_
      refine al_mv rfl rfl ?_
      refine al_nt ?_
      refine aw_block ?_
      refine aw_state (aw_loop (ι := (List Int) × Int) (fun i => (memOf w0 Z0 [] [(oRow v6 3 (tyInt .i64) i.1)] [(fDat (tyList (tyInt .i64)) [v0_0] a0), (fPtr (tyInt .i64) p18 u16)])) (fun i => (tab [(0, v0_0), (6, v6), (7, (int .i64 l9i26)), (8, (int .i64 u16)), (24, v0_0), (25, (int .i64 (a0.length : Int))), (26, (int .i64 l9i26)), (31, v0_0), (32, (int .i64 (a0.length : Int))), (33, (int .i64 i.2))])) (fun q i => f_lumref_Codes_L21 a0 l9i26 kk15 u16 q i.1 i.2 = some r) ?_ fu (l9x6, (0 : Int)) h) (fun w a hm hs => norm hm hs [0] [1, 0] [(0, v0_0), (6, v6), (7, (int .i64 l9i26)), (8, (int .i64 u16)), (24, v0_0), (25, (int .i64 (a0.length : Int))), (26, (int .i64 l9i26)), (31, v0_0), (32, (int .i64 (a0.length : Int))), (33, (int .i64 (0 : Int)))] (by decide) ⟨rfl, rfl, rfl, rfl, rfl, rfl, rfl, rfl, rfl, rfl, trivial⟩)
      clear h
      rintro k20 ⟨l19x6, l19i33⟩ h
      have h : f_lumref_Codes_L21 a0 l9i26 kk15 u16 k20 l19x6 l19i33 = some r := h
      obtain _ | k20 := k20
      · rw [f_lumref_Codes_L21] at h; cases h
      rw [f_lumref_Codes_L21] at h
      refine aw_show (m := (memOf w0 Z0 [] [(oRow v6 3 (tyInt .i64) l19x6)] [(fDat (tyList (tyInt .i64)) [v0_0] a0), (fPtr (tyInt .i64) p18 u16)])) (S := (tab [(0, v0_0), (6, v6), (7, (int .i64 l9i26)), (8, (int .i64 u16)), (24, v0_0), (25, (int .i64 (a0.length : Int))), (26, (int .i64 l9i26)), (31, v0_0), (32, (int .i64 (a0.length : Int))), (33, (int .i64 l19i33))])) ?_
      refine aw_sr ?_
      refine al_in rfl rfl rfl rfl ?_
      refine al_nt ?_
      refine aw_seq ?_
      refine aw_cond rfl (fun hb22 => ?_) (fun hb22 => ?_)
      ·replace h := bif_t hb22 h
       refine aw_skip ?_
       refine aq_then ?_
       obtain ⟨kk24, hkk24, h⟩ := lt_some h
       refine aw_seq_join (ι := (List Int)) (fun i => (memOf w0 Z0 [] [(oRow v6 3 (tyInt .i64) i)] [(fDat (tyList (tyInt .i64)) [v0_0] a0), (fPtr (tyInt .i64) p18 u16)])) (fun i => (tab [(0, v0_0), (6, v6), (7, (int .i64 l9i26)), (8, (int .i64 u16)), (24, v0_0), (25, (int .i64 (a0.length : Int))), (26, (int .i64 l9i26)), (31, v0_0), (32, (int .i64 (a0.length : Int))), (33, (int .i64 l19i33))])) (fun i => kk24 i = some r) ?_ ?_
       ·rintro j23x6 h
        have h : kk24 j23x6 = some r := h
        rw [hkk24] at h
        dsimp only at h
        clear hkk24
        refine aw_show (m := (memOf w0 Z0 [] [(oRow v6 3 (tyInt .i64) j23x6)] [(fDat (tyList (tyInt .i64)) [v0_0] a0), (fPtr (tyInt .i64) p18 u16)])) (S := (tab [(0, v0_0), (6, v6), (7, (int .i64 l9i26)), (8, (int .i64 u16)), (24, v0_0), (25, (int .i64 (a0.length : Int))), (26, (int .i64 l9i26)), (31, v0_0), (32, (int .i64 (a0.length : Int))), (33, (int .i64 l19i33))])) ?_
        refine aw_region ?_
        refine al_in rfl rfl rfl rfl ?_
        refine al_mv rfl rfl ?_
        refine al_nil ?_
        exact aq_again k20 (j23x6, (IntKind.i64.wrap (l19i33 + (1 : Int)))) (Nat.lt_succ_self _) h (fun w a hm hs => norm hm hs [0] [0, 1] [(0, v0_0), (6, v6), (7, (int .i64 l9i26)), (8, (int .i64 u16)), (24, v0_0), (25, (int .i64 (a0.length : Int))), (26, (int .i64 l9i26)), (31, v0_0), (32, (int .i64 (a0.length : Int))), (33, (int .i64 (IntKind.i64.wrap (l19i33 + (1 : Int)))))] (by decide) ⟨rfl, rfl, rfl, rfl, rfl, rfl, rfl, rfl, rfl, rfl, trivial⟩)
       ·clear hkk24
        refine aw_block ?_
        refine aw_sr ?_
        refine al_mv rfl rfl ?_
        obtain ⟨u25, hu26, h⟩ := opt_some h
        refine al_idxD 0 hu26 rfl rfl rfl Tryd.underlying71 sz3 rfl (fun p27 => ?_)
        refine al_val (ov_loadP (ds := [(int .i64 u25)]) 0 rfl (fun h => h) rfl Tryd.underlying3 sz3 rfl rfl rfl) ?_
        refine al_as rfl rfl ?_
        refine al_as rfl rfl ?_
        refine al_nt ?_
        obtain ⟨kk29, hkk29, h⟩ := lt_some h
        refine aw_seq_join (ι := Bool) (fun i => (memOf w0 Z0 [] [(oRow v6 3 (tyInt .i64) l19x6)] [(fDat (tyList (tyInt .i64)) [v0_0] a0), (fPtr (tyInt .i64) p27 u25), (fPtr (tyInt .i64) p18 u16)])) (fun i => (tab [(0, v0_0), (6, v6), (7, (int .i64 l9i26)), (8, (int .i64 u16)), (10, (int .i64 u25)), (24, v0_0), (25, (int .i64 (a0.length : Int))), (26, (int .i64 l9i26)), (31, v0_0), (32, (int .i64 (a0.length : Int))), (33, (int .i64 l19i33)), (58, (bool i))])) (fun i => kk29 i = some r) ?_ ?_
        ·rintro j28b58 h
         have h : kk29 j28b58 = some r := h
         rw [hkk29] at h
         dsimp only at h
         clear hkk29
         refine aw_show (m := (memOf w0 Z0 [] [(oRow v6 3 (tyInt .i64) l19x6)] [(fDat (tyList (tyInt .i64)) [v0_0] a0), (fPtr (tyInt .i64) p27 u25), (fPtr (tyInt .i64) p18 u16)])) (S := (tab [(0, v0_0), (6, v6), (7, (int .i64 l9i26)), (8, (int .i64 u16)), (10, (int .i64 u25)), (24, v0_0), (25, (int .i64 (a0.length : Int))), (26, (int .i64 l9i26)), (31, v0_0), (32, (int .i64 (a0.length : Int))), (33, (int .i64 l19i33)), (58, (bool j28b58))])) ?_
         refine aw_cond rfl (fun hb30 => ?_) (fun hb30 => ?_)
         ·replace h := bif_t hb30 h
          obtain ⟨u31, hu32, h⟩ := opt_some h
          obtain ⟨hc35, h⟩ := req_some h
          obtain ⟨u36, hu37, h⟩ := opt_some h
          refine aw_region_draw 10 [(59, (fun u => fEq u v6)), (60, (fun u => fEq u (int .i64 l9i26))), (61, (fun p => fElt v6 p ((l9i26).toNat * Ty.size (tyInt .i64)))), (62, (fun u => fEq u (int .i64 u31))), (63, (fun u => fEq u (int .i64 u16))), (64, (fun u => fEq u (int .i64 u25))), (65, (fun u => fEq u (int .i64 (IntKind.i64.wrap (u16 - u25))))), (66, (fun u => fEq u (int .i64 (IntKind.i64.wrap ((1 : Int) * 2 ^ min ((IntKind.i64.wrap (u16 - u25))).toNat (IntKind.bits .i64)))))), (67, (fun u => fEq u (int .i64 (IntKind.i64.wrap (u31 + (IntKind.i64.wrap ((1 : Int) * 2 ^ min ((IntKind.i64.wrap (u16 - u25))).toNat (IntKind.bits .i64)))))))), (68, (fun p => fElt v6 p ((l9i26).toNat * Ty.size (tyInt .i64))))] (tab [(0, v0_0), (6, v6), (7, (int .i64 l9i26)), (8, (int .i64 u16)), (10, (int .i64 u25)), (24, v0_0), (25, (int .i64 (a0.length : Int))), (26, (int .i64 l9i26)), (31, v0_0), (32, (int .i64 (a0.length : Int))), (33, (int .i64 l19i33))]) mixed (by kernel_rfl) rfl rfl rfl (fun a hs => hs.tab _ (allT_mem ⟨rfl, rfl, rfl, rfl, rfl, rfl, rfl, rfl, rfl, rfl, rfl, trivial⟩)) ⟨⟨rfl, ld_val (ov_move rfl rfl)⟩, ⟨rfl, ld_val (ov_move rfl rfl)⟩, ⟨rfl, ld_eq (j := 0) rfl rfl (ld_eq (j := 1) rfl rfl (ld_of (of_idxR 0 (at_some hu32).1 (at_some hu32).2.1 rfl rfl rfl Tryd.underlying71 sz3 rfl)))⟩, ⟨rfl, ld_elt (j := 2) rfl rfl (fun p33 hp34 => ld_val (ov_loadR (ds := [(int .i64 u31)]) 0 rfl hp34 (at_some hu32).2.2 (fun h => h) rfl Tryd.underlying3 sz3 rfl rfl rfl))⟩, ⟨rfl, ld_val (ov_move rfl rfl)⟩, ⟨rfl, ld_val (ov_move rfl rfl)⟩, ⟨rfl, ld_eq (j := 4) rfl rfl (ld_eq (j := 5) rfl rfl (ld_val (ov_int rfl rfl rfl rfl)))⟩, ⟨rfl, ld_eq (j := 6) rfl rfl (ld_val (ov_shl hc35 rfl rfl rfl))⟩, ⟨rfl, ld_eq (j := 3) rfl rfl (ld_eq (j := 7) rfl rfl (ld_val (ov_int rfl rfl rfl rfl)))⟩, ⟨rfl, ld_eq (j := 0) rfl rfl (ld_eq (j := 1) rfl rfl (ld_of (of_idxR 0 (at_some hu37).1 (at_some hu37).2.1 rfl rfl rfl Tryd.underlying71 sz3 rfl)))⟩, trivial⟩ ?_
          refine tl_eq 8 rfl ?_
          refine tl_elt 9 rfl (fun p38 hp39 => ?_)
          refine tl_done ?_
          refine al_storeR (k := (l9i26).toNat) (x := (IntKind.i64.wrap (u31 + (IntKind.i64.wrap ((1 : Int) * 2 ^ min ((IntKind.i64.wrap (u16 - u25))).toNat (IntKind.bits .i64)))))) (vs := [(int .i64 (IntKind.i64.wrap (u31 + (IntKind.i64.wrap ((1 : Int) * 2 ^ min ((IntKind.i64.wrap (u16 - u25))).toNat (IntKind.bits .i64))))))]) 0 rfl hp39 (idx_lt hu37) rfl rfl (cv_rfl rfl) (fun _ => rfl) sz3 rfl ?_
          refine al_nil ?_
          refine aq_block ?_
          exact aq_join (l19x6.set (l9i26).toNat (IntKind.i64.wrap (u31 + (IntKind.i64.wrap ((1 : Int) * 2 ^ min ((IntKind.i64.wrap (u16 - u25))).toNat (IntKind.bits .i64)))))) h (fun w a hm hs => norm hm hs [0] [0, 2] [(0, v0_0), (6, v6), (7, (int .i64 l9i26)), (8, (int .i64 u16)), (24, v0_0), (25, (int .i64 (a0.length : Int))), (26, (int .i64 l9i26)), (31, v0_0), (32, (int .i64 (a0.length : Int))), (33, (int .i64 l19i33))] (by decide) ⟨rfl, rfl, rfl, rfl, rfl, rfl, rfl, rfl, rfl, rfl, trivial⟩)
         ·replace h := bif_f hb30 h
          refine aw_skip ?_
          refine aq_block ?_
          exact aq_join l19x6 h (fun w a hm hs => norm hm hs [0] [0, 2] [(0, v0_0), (6, v6), (7, (int .i64 l9i26)), (8, (int .i64 u16)), (24, v0_0), (25, (int .i64 (a0.length : Int))), (26, (int .i64 l9i26)), (31, v0_0), (32, (int .i64 (a0.length : Int))), (33, (int .i64 l19i33))] (by decide) ⟨rfl, rfl, rfl, rfl, rfl, rfl, rfl, rfl, rfl, rfl, trivial⟩)
        ·clear hkk29
         refine aw_region ?_
         refine al_mv rfl rfl ?_
         refine al_in rfl rfl rfl rfl ?_
         refine al_mv rfl rfl ?_
         refine al_caseB 40 rfl (fun hb40 => ?_) (fun hb40 => ?_)
         ·replace h := bif_t hb40 h
          refine al_mv rfl rfl ?_
          refine al_in rfl rfl rfl rfl ?_
          refine al_val (ov_pick_t rfl rfl rfl) ?_
          refine al_mv rfl rfl ?_
          refine al_caseB 44 rfl (fun hb41 => ?_) (fun hb41 => ?_)
          ·replace h := bif_t hb41 h
           refine al_mv rfl rfl ?_
           refine al_mv rfl rfl ?_
           refine al_in rfl rfl rfl rfl ?_
           refine al_mv rfl rfl ?_
           refine al_caseB 48 rfl (fun hb42 => ?_) (fun hb42 => ?_)
           ·replace h := bif_t hb42 h
            refine al_skip ?_
            refine al_skip ?_
            refine al_skip ?_
            refine al_skip ?_
            refine al_skip ?_
            refine al_skip ?_
            refine al_skip ?_
            refine al_skip ?_
            refine al_val (ov_pick_t rfl rfl rfl) ?_
            refine al_val (ov_pick_t rfl rfl rfl) ?_
            refine al_nil ?_
            exact aq_join true h (fun w a hm hs => norm hm hs [0] [1, 0, 2] [(0, v0_0), (6, v6), (7, (int .i64 l9i26)), (8, (int .i64 u16)), (10, (int .i64 u25)), (24, v0_0), (25, (int .i64 (a0.length : Int))), (26, (int .i64 l9i26)), (31, v0_0), (32, (int .i64 (a0.length : Int))), (33, (int .i64 l19i33)), (58, (bool true))] (by decide) ⟨rfl, rfl, rfl, rfl, rfl, rfl, rfl, rfl, rfl, rfl, rfl, rfl, trivial⟩)
           ·replace h := bif_f hb42 h
            refine al_mv rfl rfl ?_
            refine al_mv rfl rfl ?_
            refine al_in rfl rfl rfl rfl ?_
            refine al_mv rfl rfl ?_
            refine al_caseB 52 rfl (fun hb43 => ?_) (fun hb43 => ?_)
            ·replace h := bif_t hb43 h
             refine al_mv rfl rfl ?_
             refine al_mv rfl rfl ?_
             refine al_in rfl rfl rfl rfl ?_
             refine al_val (ov_pick_t rfl rfl rfl) ?_
             refine al_val (ov_pick_f rfl rfl rfl) ?_
             refine al_val (ov_pick_t rfl rfl rfl) ?_
             refine al_nil ?_
             exact aq_join (decide (l19i33 < l9i26)) h (fun w a hm hs => norm hm hs [0] [1, 0, 2] [(0, v0_0), (6, v6), (7, (int .i64 l9i26)), (8, (int .i64 u16)), (10, (int .i64 u25)), (24, v0_0), (25, (int .i64 (a0.length : Int))), (26, (int .i64 l9i26)), (31, v0_0), (32, (int .i64 (a0.length : Int))), (33, (int .i64 l19i33)), (58, (bool (decide (l19i33 < l9i26))))] (by decide) ⟨rfl, rfl, rfl, rfl, rfl, rfl, rfl, rfl, rfl, rfl, rfl, rfl, trivial⟩)
            ·replace h := bif_f hb43 h
             refine al_skip ?_
             refine al_skip ?_
             refine al_skip ?_
             refine al_val (ov_pick_f rfl rfl rfl) ?_
             refine al_val (ov_pick_f rfl rfl rfl) ?_
             refine al_val (ov_pick_t rfl rfl rfl) ?_
             refine al_nil ?_
             exact aq_join false h (fun w a hm hs => norm hm hs [0] [1, 0, 2] [(0, v0_0), (6, v6), (7, (int .i64 l9i26)), (8, (int .i64 u16)), (10, (int .i64 u25)), (24, v0_0), (25, (int .i64 (a0.length : Int))), (26, (int .i64 l9i26)), (31, v0_0), (32, (int .i64 (a0.length : Int))), (33, (int .i64 l19i33)), (58, (bool false))] (by decide) ⟨rfl, rfl, rfl, rfl, rfl, rfl, rfl, rfl, rfl, rfl, rfl, rfl, trivial⟩)
          ·replace h := bif_f hb41 h
           refine al_skip ?_
           refine al_skip ?_
           refine al_skip ?_
           refine al_skip ?_
           refine al_skip ?_
           refine al_skip ?_
           refine al_skip ?_
           refine al_skip ?_
           refine al_skip ?_
           refine al_skip ?_
           refine al_skip ?_
           refine al_skip ?_
           refine al_skip ?_
           refine al_val (ov_pick_f rfl rfl rfl) ?_
           refine al_nil ?_
           exact aq_join false h (fun w a hm hs => norm hm hs [0] [1, 0, 2] [(0, v0_0), (6, v6), (7, (int .i64 l9i26)), (8, (int .i64 u16)), (10, (int .i64 u25)), (24, v0_0), (25, (int .i64 (a0.length : Int))), (26, (int .i64 l9i26)), (31, v0_0), (32, (int .i64 (a0.length : Int))), (33, (int .i64 l19i33)), (58, (bool false))] (by decide) ⟨rfl, rfl, rfl, rfl, rfl, rfl, rfl, rfl, rfl, rfl, rfl, rfl, trivial⟩)
         ·replace h := bif_f hb40 h
          refine al_skip ?_
          refine al_skip ?_
          refine al_val (ov_pick_f rfl rfl rfl) ?_
          refine al_mv rfl rfl ?_
          refine al_skip ?_
          refine al_skip ?_
          refine al_skip ?_
          refine al_skip ?_
          refine al_skip ?_
          refine al_skip ?_
          refine al_skip ?_
          refine al_skip ?_
          refine al_skip ?_
          refine al_skip ?_
          refine al_skip ?_
          refine al_skip ?_
          refine al_skip ?_
          refine al_val (ov_pick_f rfl rfl rfl) ?_
          refine al_nil ?_
          exact aq_join false h (fun w a hm hs => norm hm hs [0] [1, 0, 2] [(0, v0_0), (6, v6), (7, (int .i64 l9i26)), (8, (int .i64 u16)), (10, (int .i64 u25)), (24, v0_0), (25, (int .i64 (a0.length : Int))), (26, (int .i64 l9i26)), (31, v0_0), (32, (int .i64 (a0.length : Int))), (33, (int .i64 l19i33)), (58, (bool false))] (by decide) ⟨rfl, rfl, rfl, rfl, rfl, rfl, rfl, rfl, rfl, rfl, rfl, rfl, trivial⟩)
      ·replace h := bif_f hb22 h
       refine aw_exit ?_
       refine aq_then_exit ?_
       refine aq_then_exit ?_
       refine aq_block_exit ?_
       refine aq_block ?_
       exact aq_join l19x6 h (fun w a hm hs => norm hm hs [0] [0] [(0, v0_0), (6, v6), (24, v0_0), (25, (int .i64 (a0.length : Int))), (26, (int .i64 l9i26))] (by decide) ⟨rfl, rfl, rfl, rfl, rfl, trivial⟩)
    ·replace h := bif_f hb13 h
     refine aw_exit ?_
     refine aq_then_exit ?_
     refine aq_then_exit ?_
     refine aq_block_exit ?_
     exact aq_join l9x6 h (fun w a hm hs => norm hm hs [0] [0] [(6, v6)] (by decide) ⟨rfl, trivial⟩)
def f_lumref_bitsOf : Nat → Int → Int → Option (List UInt8)
  | 0, _, _ => none
  | fu + 1, a0, a1 => (bif (a1 == (0 : Int)) then (some ([] : List UInt8)) else (opt (f_lumref_bitsOf fu (IntKind.i64.wrap ((a0).tdiv (2 : Int))) (IntKind.i64.wrap (a1 - (1 : Int)))) fun (r3 : (List UInt8)) => (req (0 ≤ (IntKind.u8.wrap ((48 : Int) + (IntKind.u8.wrap ((a0).tmod (2 : Int))))) ∧ (IntKind.u8.wrap ((48 : Int) + (IntKind.u8.wrap ((a0).tmod (2 : Int))))) ≤ 255) (req (r3.length + ([(UInt8.ofNat ((IntKind.u8.wrap ((48 : Int) + (IntKind.u8.wrap ((a0).tmod (2 : Int)))))).toNat)]).length ≤ 9223372036854775807) (some (r3 ++ ([(UInt8.ofNat ((IntKind.u8.wrap ((48 : Int) + (IntKind.u8.wrap ((a0).tmod (2 : Int)))))).toNat)])))))))
set_option maxRecDepth 100000 in
theorem f_lumref_bitsOf_ok (fu : Nat) (a0 : Int) (a1 : Int) {r : (List UInt8)} (h : f_lumref_bitsOf fu a0 a1 = some r) : FnOk Tryd.prog 99 [(int .i64 a0), (int .i64 a1)] [] [] (fun (i : Unit) => { val := (str r) }) := by
 cases fu with
 | zero => rw [f_lumref_bitsOf] at h; cases h
 | succ fu =>
  rw [f_lumref_bitsOf] at h
  refine fn_enter Tryd.func99 rfl Tryd.ntmps99 rfl (fun w0 Z0 => ?_)
  refine aw_sr ?_
  refine al_as rfl rfl ?_
  refine al_nt ?_
  refine aw_seq ?_
  refine aw_sr ?_
  refine al_mv rfl rfl ?_
  refine al_in rfl rfl rfl rfl ?_
  refine al_nt ?_
  refine aw_cond rfl (fun hb1 => ?_) (fun hb1 => ?_)
  ·replace h := bif_t hb1 h
   refine aw_sr ?_
   refine al_as rfl rfl ?_
   refine al_nt ?_
   refine aw_ret ?_
   refine aq_then_ret ?_
   obtain rfl := Option.some.inj h
   exact fn_ret () [] [] rfl rfl rfl rfl (res1 rfl rfl) rfl rfl rfl (by decide)
  ·replace h := bif_f hb1 h
   refine aw_skip ?_
   refine aq_then ?_
   refine aw_seq ?_
   obtain ⟨r3, hc2, h⟩ := opt_some h
   obtain ⟨hc5, h⟩ := req_some h
   obtain ⟨hc6, h⟩ := req_some h
   refine aw_region_draw 12 [(7, (fun u => fEq u (int .i64 a0))), (8, (fun u => fEq u (int .i64 (IntKind.i64.wrap ((a0).tdiv (2 : Int)))))), (9, (fun u => fEq u (int .i64 a1))), (10, (fun u => fEq u (int .i64 (IntKind.i64.wrap (a1 - (1 : Int)))))), (11, (fun u => fEq u (str r3))), (12, (fun u => fEq u (int .i64 a0))), (13, (fun u => fEq u (int .i64 ((a0).tmod (2 : Int))))), (14, (fun u => fEq u (int .u8 (IntKind.u8.wrap ((a0).tmod (2 : Int)))))), (15, (fun u => fEq u (int .u8 (IntKind.u8.wrap ((48 : Int) + (IntKind.u8.wrap ((a0).tmod (2 : Int)))))))), (16, (fun v4 => (fDat (tyList tyU8) [v4] [(UInt8.ofNat ((IntKind.u8.wrap ((48 : Int) + (IntKind.u8.wrap ((a0).tmod (2 : Int)))))).toNat)]))), (17, (fun u => fEq u (str [(UInt8.ofNat ((IntKind.u8.wrap ((48 : Int) + (IntKind.u8.wrap ((a0).tmod (2 : Int)))))).toNat)]))), (18, (fun u => fEq u (str (r3 ++ ([(UInt8.ofNat ((IntKind.u8.wrap ((48 : Int) + (IntKind.u8.wrap ((a0).tmod (2 : Int)))))).toNat)])))))] (tab [(0, (int .i64 a0)), (1, (int .i64 a1)), (4, (str ([] : List UInt8)))]) mixed (by kernel_rfl) rfl rfl rfl (fun a hs => hs.tab _ (allT_mem ⟨rfl, rfl, rfl, trivial⟩)) ⟨⟨rfl, ld_val (ov_move rfl rfl)⟩, ⟨rfl, ld_eq (j := 0) rfl rfl (ld_val (ov_quo (by decide) rfl rfl rfl))⟩, ⟨rfl, ld_val (ov_move rfl rfl)⟩, ⟨rfl, ld_eq (j := 2) rfl rfl (ld_val (ov_int rfl rfl rfl rfl))⟩, ⟨rfl, ld_eq (j := 1) rfl rfl (ld_eq (j := 3) rfl rfl (ld_callV (vs := [(int .i64 (IntKind.i64.wrap ((a0).tdiv (2 : Int)))), (int .i64 (IntKind.i64.wrap (a1 - (1 : Int))))]) (f_lumref_bitsOf_ok fu (IntKind.i64.wrap ((a0).tdiv (2 : Int))) (IntKind.i64.wrap (a1 - (1 : Int))) hc2) [] pre_nil rfl Tryd.func99 rfl rfl rfl))⟩, ⟨rfl, ld_val (ov_move rfl rfl)⟩, ⟨rfl, ld_eq (j := 5) rfl rfl (ld_val (ov_rem (by decide) rfl rfl rfl))⟩, ⟨rfl, ld_eq (j := 6) rfl rfl (ld_val (ov_convInt (by rw [Tryd.underlying3]; rfl) Tryd.underlying5 rfl rfl))⟩, ⟨rfl, ld_eq (j := 7) rfl rfl (ld_val (ov_int rfl rfl rfl rfl))⟩, ⟨rfl, ld_eq (j := 8) rfl rfl (ld_buildSlice (τ := tyU8) (e := 5) (k := 1) (cs := [(int .u8 (IntKind.u8.wrap ((48 : Int) + (IntKind.u8.wrap ((a0).tmod (2 : Int))))))]) (xs := [(UInt8.ofNat ((IntKind.u8.wrap ((48 : Int) + (IntKind.u8.wrap ((a0).tmod (2 : Int)))))).toNat)]) rfl (by decide) rfl (fun w a hm hs => ⟨([(int .u8 (IntKind.u8.wrap ((48 : Int) + (IntKind.u8.wrap ((a0).tmod (2 : Int))))))]).toArray, rfl, by simp only [List.map_toArray, List.map_cons, List.map_nil, hs.ev (x := .tmp 15) rfl]; exact run_bs [(int .u8 (IntKind.u8.wrap ((48 : Int) + (IntKind.u8.wrap ((a0).tmod (2 : Int))))))] [(int .u8 (IntKind.u8.wrap ((48 : Int) + (IntKind.u8.wrap ((a0).tmod (2 : Int))))))] Tryd.underlying74 to5 rfl rfl (bs_cons (l := [(int .u8 (IntKind.u8.wrap ((48 : Int) + (IntKind.u8.wrap ((a0).tmod (2 : Int))))))]) (cs := []) (cv_rfl rfl) rfl bs_nil) hm⟩) (fun hm => ⟨_, _, rfl, (fun _ => u8_rep hc5) hm, rfl⟩) rfl)⟩, ⟨rfl, ld_fact (j := 9) rfl rfl (fun v4 => ld_val (ov_toStr 0 rfl rfl Tryd.underlying74 Tryd.underlying5 Tryd.underlying9 rfl))⟩, ⟨rfl, ld_eq (j := 4) rfl rfl (ld_eq (j := 10) rfl rfl (ld_val (ov_strAdd hc6 rfl rfl rfl)))⟩, trivial⟩ ?_
   refine tl_eq 11 rfl ?_
   refine tl_done ?_
   refine al_as rfl rfl ?_
   refine al_nt ?_
   refine aw_ret ?_
   obtain rfl := Option.some.inj h
   exact fn_ret () [] [] rfl rfl rfl rfl (res1 rfl rfl) rfl rfl rfl (by decide)
-- STUCK (*strings.Builder).copyCheck: lty ['pointer', 154]
-- STUCK (*strings.Builder).WriteString: lty ['pointer', 154]
-- STUCK (*strings.Builder).String: lty ['pointer', 154]
def f_strings_Repeat (fu : Nat) (a0 : List UInt8) (a1 : Int) : Option (List UInt8) := req (0 ≤ a1 ∧ a1 ≤ 9223372036854775807 ∧ a0.length * a1.toNat ≤ 140737488355328) (some (Lib.repeatL a0 a1.toNat))
theorem f_strings_Repeat_ok (fu : Nat) (a0 : List UInt8) (a1 : Int) {r : List UInt8} (h : f_strings_Repeat fu a0 a1 = some r) : FnOk Tryd.prog 102 [(str a0), (int .i64 a1)] [] [] (fun (i : Unit) => { val := (str r) }) := by
  unfold f_strings_Repeat at h
  obtain ⟨hc, h⟩ := req_some h
  obtain rfl := Option.some.inj h
  obtain ⟨n, rfl⟩ : ∃ n : Nat, a1 = n := ⟨a1.toNat, by omega⟩
  refine fnok_pure fun w => ?_
  exact (Tryd.strings_Repeat ⟨a0.toArray⟩ n w (by omega) (by simpa [ByteArray.size] using hc.2.2)).mono fun e w' h9 => by simpa [str] using h9
def f_lumref_digits : Nat → Int → Option (List UInt8)
  | 0, _ => none
  | fu + 1, a0 => (bif (a0 == (0 : Int)) then (some ([] : List UInt8)) else (opt (f_lumref_digits fu (IntKind.u64.wrap ((a0).tdiv (256 : Int)))) fun (r3 : (List UInt8)) => (req (0 ≤ (IntKind.u8.wrap ((a0).tmod (256 : Int))) ∧ (IntKind.u8.wrap ((a0).tmod (256 : Int))) ≤ 255) (req (r3.length + ([(UInt8.ofNat ((IntKind.u8.wrap ((a0).tmod (256 : Int)))).toNat)]).length ≤ 9223372036854775807) (some (r3 ++ ([(UInt8.ofNat ((IntKind.u8.wrap ((a0).tmod (256 : Int)))).toNat)])))))))
set_option maxRecDepth 100000 in
theorem f_lumref_digits_ok (fu : Nat) (a0 : Int) {r : (List UInt8)} (h : f_lumref_digits fu a0 = some r) : FnOk Tryd.prog 107 [(int .u64 a0)] [] [] (fun (i : Unit) => { val := (str r) }) := by
 cases fu with
 | zero => rw [f_lumref_digits] at h; cases h
 | succ fu =>
  rw [f_lumref_digits] at h
  refine fn_enter Tryd.func107 rfl Tryd.ntmps107 rfl (fun w0 Z0 => ?_)
  refine aw_sr ?_
  refine al_as rfl rfl ?_
  refine al_nt ?_
  refine aw_seq ?_
  refine aw_sr ?_
  refine al_mv rfl rfl ?_
  refine al_in rfl rfl rfl rfl ?_
  refine al_nt ?_
  refine aw_cond rfl (fun hb1 => ?_) (fun hb1 => ?_)
  ·replace h := bif_t hb1 h
   refine aw_sr ?_
   refine al_as rfl rfl ?_
   refine al_nt ?_
   refine aw_ret ?_
   refine aq_then_ret ?_
   obtain rfl := Option.some.inj h
   exact fn_ret () [] [] rfl rfl rfl rfl (res1 rfl rfl) rfl rfl rfl (by decide)
  ·replace h := bif_f hb1 h
   refine aw_skip ?_
   refine aq_then ?_
   refine aw_seq ?_
   obtain ⟨r3, hc2, h⟩ := opt_some h
   obtain ⟨hc5, h⟩ := req_some h
   obtain ⟨hc6, h⟩ := req_some h
   refine aw_region_draw 9 [(5, (fun u => fEq u (int .u64 a0))), (6, (fun u => fEq u (int .u64 (IntKind.u64.wrap ((a0).tdiv (256 : Int)))))), (7, (fun u => fEq u (str r3))), (8, (fun u => fEq u (int .u64 a0))), (9, (fun u => fEq u (int .u64 ((a0).tmod (256 : Int))))), (10, (fun u => fEq u (int .u8 (IntKind.u8.wrap ((a0).tmod (256 : Int)))))), (11, (fun v4 => (fDat (tyList tyU8) [v4] [(UInt8.ofNat ((IntKind.u8.wrap ((a0).tmod (256 : Int)))).toNat)]))), (12, (fun u => fEq u (str [(UInt8.ofNat ((IntKind.u8.wrap ((a0).tmod (256 : Int)))).toNat)]))), (13, (fun u => fEq u (str (r3 ++ ([(UInt8.ofNat ((IntKind.u8.wrap ((a0).tmod (256 : Int)))).toNat)])))))] (tab [(0, (int .u64 a0)), (2, (str ([] : List UInt8)))]) mixed (by kernel_rfl) rfl rfl rfl (fun a hs => hs.tab _ (allT_mem ⟨rfl, rfl, trivial⟩)) ⟨⟨rfl, ld_val (ov_move rfl rfl)⟩, ⟨rfl, ld_eq (j := 0) rfl rfl (ld_val (ov_quo (by decide) rfl rfl rfl))⟩, ⟨rfl, ld_eq (j := 1) rfl rfl (ld_callV (vs := [(int .u64 (IntKind.u64.wrap ((a0).tdiv (256 : Int))))]) (f_lumref_digits_ok fu (IntKind.u64.wrap ((a0).tdiv (256 : Int))) hc2) [] pre_nil rfl Tryd.func107 rfl rfl rfl)⟩, ⟨rfl, ld_val (ov_move rfl rfl)⟩, ⟨rfl, ld_eq (j := 3) rfl rfl (ld_val (ov_rem (by decide) rfl rfl rfl))⟩, ⟨rfl, ld_eq (j := 4) rfl rfl (ld_val (ov_convInt (by rw [Tryd.underlying76]; rfl) Tryd.underlying5 rfl rfl))⟩, ⟨rfl, ld_eq (j := 5) rfl rfl (ld_buildSlice (τ := tyU8) (e := 5) (k := 1) (cs := [(int .u8 (IntKind.u8.wrap ((a0).tmod (256 : Int))))]) (xs := [(UInt8.ofNat ((IntKind.u8.wrap ((a0).tmod (256 : Int)))).toNat)]) rfl (by decide) rfl (fun w a hm hs => ⟨([(int .u8 (IntKind.u8.wrap ((a0).tmod (256 : Int))))]).toArray, rfl, by simp only [List.map_toArray, List.map_cons, List.map_nil, hs.ev (x := .tmp 10) rfl]; exact run_bs [(int .u8 (IntKind.u8.wrap ((a0).tmod (256 : Int))))] [(int .u8 (IntKind.u8.wrap ((a0).tmod (256 : Int))))] Tryd.underlying74 to5 rfl rfl (bs_cons (l := [(int .u8 (IntKind.u8.wrap ((a0).tmod (256 : Int))))]) (cs := []) (cv_rfl rfl) rfl bs_nil) hm⟩) (fun hm => ⟨_, _, rfl, (fun _ => u8_rep hc5) hm, rfl⟩) rfl)⟩, ⟨rfl, ld_fact (j := 6) rfl rfl (fun v4 => ld_val (ov_toStr 0 rfl rfl Tryd.underlying74 Tryd.underlying5 Tryd.underlying9 rfl))⟩, ⟨rfl, ld_eq (j := 2) rfl rfl (ld_eq (j := 7) rfl rfl (ld_val (ov_strAdd hc6 rfl rfl rfl)))⟩, trivial⟩ ?_
   refine tl_eq 8 rfl ?_
   refine tl_done ?_
   refine al_as rfl rfl ?_
   refine al_nt ?_
   refine aw_ret ?_
   obtain rfl := Option.some.inj h
   exact fn_ret () [] [] rfl rfl rfl rfl (res1 rfl rfl) rfl rfl rfl (by decide)
def f_lumref_Put (fu : Nat) (a0 : Int) : Option (List UInt8) := (opt (f_lumref_digits fu a0) fun (r2 : (List UInt8)) => (req (0 ≤ (IntKind.u8.wrap (r2.length : Int)) ∧ (IntKind.u8.wrap (r2.length : Int)) ≤ 255) (req (([(UInt8.ofNat ((IntKind.u8.wrap (r2.length : Int))).toNat)]).length + r2.length ≤ 9223372036854775807) (some (([(UInt8.ofNat ((IntKind.u8.wrap (r2.length : Int))).toNat)]) ++ r2)))))
set_option maxRecDepth 100000 in
theorem f_lumref_Put_ok (fu : Nat) (a0 : Int) {r : (List UInt8)} (h : f_lumref_Put fu a0 = some r) : FnOk Tryd.prog 49 [(int .u64 a0)] [] [] (fun (i : Unit) => { val := (str r) }) := by
 unfold f_lumref_Put at h
 refine fn_enter Tryd.func49 rfl Tryd.ntmps49 rfl (fun w0 Z0 => ?_)
 refine aw_sr ?_
 refine al_as rfl rfl ?_
 refine al_nt ?_
 refine aw_sr ?_
 refine al_mv rfl rfl ?_
 obtain ⟨r2, hc1, h⟩ := opt_some h
 refine al_call (vs := [(int .u64 a0)]) (f_lumref_digits_ok fu a0 hc1) [] [] [] pre_nil rfl (by simp) (by decide) (.inl rfl) rfl Tryd.func107 rfl rfl rfl (fun _ => ?_)
 refine al_as rfl rfl ?_
 refine al_nt ?_
 refine aw_sr ?_
 refine al_mv rfl rfl ?_
 refine al_val (ov_strLen Tryd.underlying9 rfl rfl) ?_
 refine al_val (ov_convInt (by rw [Tryd.underlying3]; rfl) Tryd.underlying5 rfl rfl) ?_
 obtain ⟨hc4, h⟩ := req_some h
 refine al_buildSlice (τ := tyU8) (e := 5) (k := 1) (sz := 0) (by_ := 0) (z := undef) (cs := [(int .u8 (IntKind.u8.wrap (r2.length : Int)))]) (xs := [(UInt8.ofNat ((IntKind.u8.wrap (r2.length : Int))).toNat)]) rfl (by decide) (fun w a hm hs => ⟨([(int .u8 (IntKind.u8.wrap (r2.length : Int)))]).toArray, rfl, by simp only [List.map_toArray, List.map_cons, List.map_nil, hs.ev (x := .tmp 8) rfl]; exact run_bs [(int .u8 (IntKind.u8.wrap (r2.length : Int)))] [(int .u8 (IntKind.u8.wrap (r2.length : Int)))] Tryd.underlying74 to5 rfl rfl (bs_cons (l := [(int .u8 (IntKind.u8.wrap (r2.length : Int)))]) (cs := []) (cv_rfl rfl) rfl bs_nil) hm⟩) (fun hm => ⟨_, _, rfl, (fun _ => u8_rep hc4) hm, rfl⟩) rfl (fun v3 => ?_)
 refine al_val (ov_toStrR 0 rfl rfl Tryd.underlying74 Tryd.underlying5 Tryd.underlying9 rfl) ?_
 refine al_mv rfl rfl ?_
 obtain ⟨hc5, h⟩ := req_some h
 refine al_val (ov_strAdd hc5 rfl rfl rfl) ?_
 refine al_as rfl rfl ?_
 refine al_nt ?_
 refine aw_ret ?_
 obtain rfl := Option.some.inj h
 exact fn_ret () [] [] rfl rfl rfl rfl (res1 rfl rfl) rfl rfl rfl (by decide)
def f___strings_Builder__WriteString_sb (fu : Nat) (a0 : (List UInt8)) (a1 : (List UInt8)) : Option (Int × Unit × (List UInt8)) := (req (a0.length + a1.length ≤ 140737488355328) (some ((a1.length : Int), (), (a0 ++ a1))))
set_option maxRecDepth 100000 in
theorem f___strings_Builder__WriteString_sb_ok (fu : Nat) (bx0 : Nat) (v0_0 : Value) (a0 : (List UInt8)) (a1 : (List UInt8)) {r : (Int × Unit × (List UInt8))} (h : f___strings_Builder__WriteString_sb fu a0 a1 = some r) : FnOk Tryd.prog 100 [(ptr bx0 0), (str a1)] [] [(oSB bx0 154 v0_0), (oRow v0_0 5 tyU8 a0)] (fun (i : Value) => { val := (Value.tuple #[(int .i64 r.1), Value.nilIface]), own := [(oSB bx0 154 i), (oRow i 5 tyU8 r.2.2)] }) := by
 unfold f___strings_Builder__WriteString_sb at h
 refine fn_enter Tryd.func100 rfl Tryd.ntmps100 rfl (fun w0 Z0 => ?_)
 refine aw_sr ?_
 refine al_as rfl rfl ?_
 refine al_as rfl rfl ?_
 refine al_nt ?_
 refine aw_sr ?_
 refine al_mv rfl rfl ?_
 refine al_call (vs := [(ptr bx0 0)]) (fn_copyCheck bx0 v0_0) [] [0] [1] pre_nil rfl (by simp) (by decide) (.inl rfl) rfl Tryd.func151 rfl rfl rfl (fun _ => ?_)
 refine al_nt ?_
 refine aw_sr ?_
 refine al_mv rfl rfl ?_
 refine al_mv rfl rfl ?_
 refine al_val (ov_nilCheck rfl rfl) ?_
 refine al_val (ov_fieldA (p := 1) rfl Tryd.underlying154 rfl sz74 rfl rfl rfl) ?_
 refine al_val (ov_load (i := 0) (v := v0_0) rfl rfl Tryd.underlying74 sz74 rfl rfl rfl rfl) ?_
 refine al_mv rfl rfl ?_
 obtain ⟨hc1, h⟩ := req_some h
 refine al_appendS 1 hc1 rfl rfl rfl Tryd.underlying74 Tryd.underlying9 to5 rfl (fun v2 => ?_)
 refine al_val (ov_nilCheck rfl rfl) ?_
 refine al_val (ov_fieldA (p := 1) rfl Tryd.underlying154 rfl sz74 rfl rfl rfl) ?_
 refine al_store (i := 0) (vs := [v2]) (cs' := [(ptr bx0 0), v2]) rfl rfl rfl sz74 (cv_own 1 rfl) rfl (co_own 1 rfl co_nil) (Nat.le_of_ble_eq_true rfl) rfl rfl ?_
 refine al_nt ?_
 refine aw_sr ?_
 refine al_mv rfl rfl ?_
 refine al_val (ov_strLen Tryd.underlying9 rfl rfl) ?_
 refine al_as rfl rfl ?_
 refine al_as rfl rfl ?_
 refine al_nt ?_
 refine aw_ret ?_
 refine aq_sb 0 rfl (.inr rfl) ?_
 obtain rfl := Option.some.inj h
 exact fn_ret v2 [0, 1] [] rfl rfl rfl rfl (res2 rfl rfl rfl) rfl rfl rfl (by decide)
def f_lumref_Coded_L58 (l39s19 : (List UInt8)) (kk48 : (Int → Option (List UInt8))) : Nat → Int → Int → Option (List UInt8)
  | 0, _, _ => none
  | k57 + 1, l56i21, l56i112 => (bif (decide (l56i112 < ((l39s19.take ((8 : Int)).toNat).length : Int))) then (opt (at? (l39s19.take ((8 : Int)).toNat) l56i112) fun (u60 : UInt8) => (f_lumref_Coded_L58 l39s19 kk48 k57 (IntKind.i64.wrap ((IntKind.i64.wrap ((2 : Int) * l56i21)) + (IntKind.i64.wrap (IntKind.u8.wrap ((u60.toNat : Int) - (48 : Int)))))) (IntKind.i64.wrap (l56i112 + (1 : Int))))) else (kk48 l56i21))
def f_lumref_Coded_L41 (kk27 : ((List UInt8) → Option (List UInt8))) (fu : Nat) : Nat → (List UInt8) → (List UInt8) → Option (List UInt8)
  | 0, _, _ => none
  | k40 + 1, l39s19, l39x20 => (lt (fun (l39s19 : (List UInt8)) (l39x20 : (List UInt8)) => (f_lumref_Coded_L41 kk27 fu k40 l39s19 l39x20)) fun (kk42 : (List UInt8) → (List UInt8) → Option (List UInt8)) => (bif (!(l39s19 == ([] : List UInt8))) then (lt (fun (j44x20 : (List UInt8)) => (req (0 ≤ (8 : Int) ∧ (8 : Int) ≤ (l39s19.length : Int)) (kk42 (l39s19.drop ((8 : Int)).toNat) j44x20))) fun (kk45 : (List UInt8) → Option (List UInt8)) => (lt (fun (j47i21 : Int) => (req (0 ≤ (IntKind.u8.wrap j47i21) ∧ (IntKind.u8.wrap j47i21) ≤ 255) (req (((l39x20.length + ([(UInt8.ofNat ((IntKind.u8.wrap j47i21)).toNat)]).length) * 1 : Nat) ≤ 140737488355328 ∧ l39x20.length + ([(UInt8.ofNat ((IntKind.u8.wrap j47i21)).toNat)]).length ≤ 9223372036854775807) (kk45 (l39x20 ++ ([(UInt8.ofNat ((IntKind.u8.wrap j47i21)).toNat)])))))) fun (kk48 : Int → Option (List UInt8)) => (req (0 ≤ (8 : Int) ∧ (8 : Int) ≤ (l39s19.length : Int)) (req ((l39s19.take ((8 : Int)).toNat).length ≤ 9223372036854775807) (f_lumref_Coded_L58 l39s19 kk48 fu (0 : Int) (0 : Int)))))) else (kk27 l39x20)))
def f_lumref_Coded_L67 (r5 : (List UInt8)) (j18x11 : (List (List UInt8))) (kk22 : ((List UInt8) → Option (List UInt8))) (fu : Nat) : Nat → (List UInt8) → Int → Option (List UInt8)
  | 0, _, _ => none
  | k66 + 1, l65x16_0, l65i85 => (bif (decide (l65i85 < (r5.length : Int))) then (opt (at? r5 l65i85) fun (u69 : UInt8) => (opt (at? j18x11 (u69.toNat : Int)) fun (u72 : (List UInt8)) => (opt (f___strings_Builder__WriteString_sb fu l65x16_0 u72) fun (r77 : (Int × Unit × (List UInt8))) => (f_lumref_Coded_L67 r5 j18x11 kk22 fu k66 r77.2.2 (IntKind.i64.wrap (l65i85 + (1 : Int))))))) else (kk22 l65x16_0))
def f_lumref_Coded_L81 (r11 : ((List Int) × Int)) (r14 : ((List Int) × Int)) (kk19 : ((List (List UInt8)) → (List UInt8) → Int → Option (List UInt8))) (fu : Nat) : Nat → (List (List UInt8)) → (List UInt8) → Int → Int → Option (List UInt8)
  | 0, _, _, _, _ => none
  | k80 + 1, l79x11, l79s12, l79i13, l79i55 => (bif (decide (l79i55 < (r11.1.length : Int))) then (lt (fun (j83x11 : (List (List UInt8))) (j83s12 : (List UInt8)) (j83i13 : Int) => (f_lumref_Coded_L81 r11 r14 kk19 fu k80 j83x11 j83s12 j83i13 (IntKind.i64.wrap (l79i55 + (1 : Int))))) fun (kk84 : (List (List UInt8)) → (List UInt8) → Int → Option (List UInt8)) => (opt (at? r11.1 l79i55) fun (u85 : Int) => (bif (decide (u85 > (0 : Int))) then (opt (at? r14.1 l79i55) fun (u90 : Int) => (opt (f_lumref_bitsOf fu u90 u85) fun (r95 : (List UInt8)) => (opt (at? l79x11 l79i55) fun (u96 : (List UInt8)) => (req (0 ≤ (IntKind.u8.wrap l79i55) ∧ (IntKind.u8.wrap l79i55) ≤ 255) (req (0 ≤ (IntKind.u8.wrap u85) ∧ (IntKind.u8.wrap u85) ≤ 255) (req (l79s12.length + ([(UInt8.ofNat ((IntKind.u8.wrap l79i55)).toNat), (UInt8.ofNat ((IntKind.u8.wrap u85)).toNat)]).length ≤ 9223372036854775807) (kk84 (l79x11.set (l79i55).toNat r95) (l79s12 ++ ([(UInt8.ofNat ((IntKind.u8.wrap l79i55)).toNat), (UInt8.ofNat ((IntKind.u8.wrap u85)).toNat)])) (IntKind.i64.wrap (l79i13 + (1 : Int)))))))))) else (kk84 l79x11 l79s12 l79i13)))) else (kk19 l79x11 l79s12 l79i13))
def f_lumref_Coded_L108 (r5 : (List UInt8)) (kk9 : ((List Int) → Option (List UInt8))) : Nat → (List Int) → Int → Option (List UInt8)
  | 0, _, _ => none
  | k107 + 1, l106x4, l106i31 => (bif (decide (l106i31 < (r5.length : Int))) then (opt (at? r5 l106i31) fun (u110 : UInt8) => (opt (at? l106x4 (u110.toNat : Int)) fun (u113 : Int) => (opt (at? l106x4 (u110.toNat : Int)) fun (u117 : Int) => (f_lumref_Coded_L108 r5 kk9 k107 (l106x4.set ((u110.toNat : Int)).toNat (IntKind.i64.wrap (u113 + (1 : Int)))) (IntKind.i64.wrap (l106i31 + (1 : Int))))))) else (kk9 l106x4))
def f_lumref_Coded (fu : Nat) (a0 : (List UInt8)) : Option (List UInt8) := (opt (f_lumref_Greedy fu a0) fun (r2 : (List S_api_Token)) => (opt (f_lumref_TokensText fu r2) fun (r5 : (List UInt8)) => (req (0 ≤ (256 : Int) ∧ 8 * (256 : Int) ≤ 281474976710656 ∧ (256 : Int) ≤ 9223372036854775807) (lt (fun (j8x4 : (List Int)) => (opt (f_lumref_Lengths fu j8x4) fun (r11 : ((List Int) × Int)) => (opt (f_lumref_Codes fu r11.1) fun (r14 : ((List Int) × Int)) => (req (0 ≤ (256 : Int) ∧ 16 * (256 : Int) ≤ 281474976710656 ∧ (256 : Int) ≤ 9223372036854775807) (lt (fun (j18x11 : (List (List UInt8))) (j18s12 : (List UInt8)) (j18i13 : Int) => (lt (fun (j21x16_0 : (List UInt8)) => (opt (f_strings_Repeat fu ([48] : List UInt8) (((IntKind.i64.wrap ((8 : Int) - (((j21x16_0.length : Int)).tmod (8 : Int))))).tmod (8 : Int))) fun (r24 : (List UInt8)) => (req (j21x16_0.length + r24.length ≤ 9223372036854775807) (lt (fun (j26x20 : (List UInt8)) => (opt (f_lumref_Put fu (IntKind.u64.wrap (a0.length : Int))) fun (r29 : (List UInt8)) => (req (([1] : List UInt8).length + r29.length ≤ 9223372036854775807) (opt (f_lumref_Put fu (IntKind.u64.wrap (r5.length : Int))) fun (r32 : (List UInt8)) => (req ((([1] : List UInt8) ++ r29).length + r32.length ≤ 9223372036854775807) (opt (f_lumref_Put fu (IntKind.u64.wrap j18i13)) fun (r35 : (List UInt8)) => (req (((([1] : List UInt8) ++ r29) ++ r32).length + r35.length ≤ 9223372036854775807) (req ((((([1] : List UInt8) ++ r29) ++ r32) ++ r35).length + j18s12.length ≤ 9223372036854775807) (req (((((([1] : List UInt8) ++ r29) ++ r32) ++ r35) ++ j18s12).length + j26x20.length ≤ 9223372036854775807) (some (((((([1] : List UInt8) ++ r29) ++ r32) ++ r35) ++ j18s12) ++ j26x20))))))))))) fun (kk27 : (List UInt8) → Option (List UInt8)) => (f_lumref_Coded_L41 kk27 fu fu (j21x16_0 ++ r24) ([] : List UInt8)))))) fun (kk22 : (List UInt8) → Option (List UInt8)) => (req (r5.length ≤ 9223372036854775807) (f_lumref_Coded_L67 r5 j18x11 kk22 fu fu ([] : List UInt8) (0 : Int))))) fun (kk19 : (List (List UInt8)) → (List UInt8) → Int → Option (List UInt8)) => (f_lumref_Coded_L81 r11 r14 kk19 fu fu (List.replicate ((256 : Int)).toNat ([] : (List UInt8))) ([] : List UInt8) (0 : Int) (0 : Int))))))) fun (kk9 : (List Int) → Option (List UInt8)) => (req (r5.length ≤ 9223372036854775807) (f_lumref_Coded_L108 r5 kk9 fu (List.replicate ((256 : Int)).toNat 0) (0 : Int)))))))
end Go.Proofs.YtfhifdmbdkkgaaaDoor
