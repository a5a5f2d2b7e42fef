/- What WasteSays leans on, part 2. No condition. -/
import Derived.Test.YthdifoidlpiikaaQWasteSaysa
import Derived.Test.YthdifoidlpiikaaChecked
namespace Go.Proofs.Ythdifoidlpiikaa
open Go.RowKit Ythdifoidlpiikaa.En
set_option linter.unusedVariables false
set_option linter.unusedSimpArgs false
open Go.Value (int bool)
structure S_api_Waste where
  Size : Int
  Dead : Int
  deriving DecidableEq
def tyS_api_Waste : Ty S_api_Waste := tyVia (fun x => (x.Size, x.Dead)) (tyPair (tyInt .i64) (tyInt .i64))
theorem subS_api_Waste_0 : Sub tyS_api_Waste 0 (tyInt .i64) (fun x => x.Size) := Sub.via (Sub.fst (Sub.whole _))
theorem subS_api_Waste_1 : Sub tyS_api_Waste 1 (tyInt .i64) (fun x => x.Dead) := Sub.via (Sub.snd (Sub.whole _))
theorem encS_api_Waste {Z w cs} {x : S_api_Waste} (h : tyS_api_Waste.rep Z w cs x) : cs = [(int .i64 x.Size), (int .i64 x.Dead)] := by
  obtain ⟨c0, d0, rfl, p0, q0⟩ := h
  rw [show _ = _ from p0]
  rw [show _ = _ from q0]
  rfl
theorem sz3 : szOf Try.prog 3 = some 1 := by kernel_rfl
theorem to3 : tyOf Try.prog 3 = some (1, 8, some (int .i64 (0 : Int))) := by kernel_rfl
theorem to4 : tyOf Try.prog 4 = some (1, 1, some (bool false)) := by kernel_rfl
theorem sz45 : szOf Try.prog 45 = some 1 := by kernel_rfl
theorem sz47 : szOf Try.prog 47 = some 2 := by kernel_rfl
theorem to47 : tyOf Try.prog 47 = some (2, 16, some (ag [(int .i64 (0 : Int)), (int .i64 (0 : Int))])) := by kernel_rfl
theorem mixed : Try.prog.follows .mixedOrders = true := by kernel_rfl
theorem eg47 : Try.prog.eqGuardType Try.prog.depth 47 = false := by kernel_rfl
theorem kt47 : Try.prog.keyTypeAt 20 47 = true := by kernel_rfl
theorem lv47 : leaves Try.prog 20 47 = some [3, 3] := by kernel_rfl
theorem injS_api_Waste {x y : S_api_Waste} : (x == y) = true ↔ [(int .i64 x.Size), (int .i64 x.Dead)] = [(int .i64 y.Size), (int .i64 y.Dead)] := by
  rw [beq_iff_eq]
  constructor
  · rintro rfl; rfl
  · intro h
    obtain ⟨⟩ := x
    obtain ⟨⟩ := y
    simp only [S_api_Waste.mk.injEq, str, List.cons_append, List.nil_append, List.cons.injEq, Value.int.injEq, Value.bool.injEq, Value.string.injEq, ByteArray.mk.injEq, Array.mk.injEq, Int.natCast_inj, UInt8.toNat_inj, true_and, and_true] at h ⊢
    first | exact h | simpa [and_assoc] using h
theorem kd3 : Go.Maps.Keyed Try.prog 3 := Go.Maps.int_keyed Try.underlying3
def okS_api_Waste (x : S_api_Waste) : Prop := ((Lit.int .i64 x.Size).wf = true) ∧ ((Lit.int .i64 x.Dead).wf = true)
set_option maxRecDepth 100000 in
theorem opnS_api_Waste {H : Type} : Opn H Try.prog 47 tyS_api_Waste okS_api_Waste := opn_struct (fun x => (x.Size, x.Dead)) (fun y => S_api_Waste.mk y.1 y.2) (fun _ => rfl) Try.underlying47 sz47 (fields_cons sz3 (opn_int Try.underlying3) (fields_one sz3 (opn_int Try.underlying3)))
def f_waste_Check_L6 (a0 : (List S_api_Waste)) (kk3 : (Unit → Option Int)) : Nat → Int → Option Int
  | 0, _ => none
  | k5 + 1, l4i10 => (bif (decide (l4i10 < (a0.length : Int))) then (opt (at? a0 l4i10) fun (u8 : S_api_Waste) => (lt (fun (j12b33 : Bool) => (bif j12b33 then (some (1 : Int)) else (f_waste_Check_L6 a0 kk3 k5 (IntKind.i64.wrap (l4i10 + (1 : Int)))))) fun (kk13 : Bool → Option Int) => (bif (decide (u8.Size < (0 : Int))) then (kk13 true) else (bif (decide (u8.Size > (1099511627776 : Int))) then (kk13 true) else (bif (decide (u8.Dead < (0 : Int))) then (kk13 true) else (kk13 (decide (u8.Dead > u8.Size)))))))) else (kk3 ()))
def f_waste_Check (fu : Nat) (a0 : (List S_api_Waste)) : Option Int := (bif (decide ((a0.length : Int) > (100 : Int))) then (some (2 : Int)) else (lt (fun (_ : Unit) => (some (0 : Int))) fun (kk3 : Unit → Option Int) => (f_waste_Check_L6 a0 kk3 fu (0 : Int))))
set_option maxHeartbeats 2000000 in
set_option maxRecDepth 100000 in
theorem f_waste_Check_ok (fu : Nat) (v0_0 : Value) (a0 : (List S_api_Waste)) {r : Int} (h : f_waste_Check fu a0 = some r) : FnOk Try.prog 28 [v0_0] [(fDat (tyList tyS_api_Waste) [v0_0] a0)] [] (fun (i : Unit) => { val := (int .i64 r) }) := by
 unfold f_waste_Check at h
 refine fn_enter Try.func28 rfl Try.ntmps28 rfl (fun w0 Z0 => ?_)
 refine aw_sr ?_
 refine al_as rfl rfl ?_
 refine al_nt ?_
 refine aw_seq ?_
 refine aw_sr ?_
 refine al_mv rfl rfl ?_
 refine al_val (ov_lenD 0 rfl rfl Try.underlying45 rfl) ?_
 refine al_in rfl rfl rfl rfl ?_
 refine al_nt ?_
 refine aw_cond rfl (fun hb1 => ?_) (fun hb1 => ?_)
 ·replace h := bif_t hb1 h
  refine aw_sr ?_
  refine al_as rfl rfl ?_
  refine al_nt ?_
  refine aw_ret ?_
  refine aq_then_ret ?_
  obtain rfl := Option.some.inj h
  exact fn_ret () [] [] rfl rfl rfl rfl (res1 rfl rfl) rfl rfl rfl (by decide)
 ·replace h := bif_f hb1 h
  refine aw_skip ?_
  refine aq_then ?_
  obtain ⟨kk3, hkk3, h⟩ := lt_some h
  refine aw_seq_join (ι := Unit) (fun i => (memOf w0 Z0 [] [] [(fDat (tyList tyS_api_Waste) [v0_0] a0)])) (fun i => (tab [])) (fun i => kk3 () = some r) ?_ ?_
  ·rintro _ h
   have h : kk3 () = some r := h
   rw [hkk3] at h
   dsimp only at h
   clear hkk3
   refine aw_show (m := (memOf w0 Z0 [] [] [(fDat (tyList tyS_api_Waste) [v0_0] a0)])) (S := (tab [])) ?_
   refine aw_sr ?_
   refine al_as rfl rfl ?_
   refine al_nt ?_
   refine aw_ret ?_
   obtain rfl := Option.some.inj h
   exact fn_ret () [] [] rfl rfl rfl rfl (res1 rfl rfl) rfl rfl rfl (by decide)
  ·clear hkk3
   refine aw_sr ?_
   refine al_mv rfl rfl ?_
   refine al_val (ov_lenD 0 rfl rfl Try.underlying45 rfl) ?_
   refine al_mv rfl rfl ?_
   refine al_nt ?_
   refine aw_block ?_
   refine aw_state (aw_loop (ι := Int) (fun i => (memOf w0 Z0 [] [] [(fDat (tyList tyS_api_Waste) [v0_0] a0)])) (fun i => (tab [(8, v0_0), (9, (iq (a0.length : Int))), (10, (iq i))])) (fun q i => f_waste_Check_L6 a0 kk3 q i = some r) ?_ fu (0 : Int) h) (fun w a hm hs => norm hm hs [] [0] [(8, v0_0), (9, (iq (a0.length : Int))), (10, (iq (0 : Int)))] (by decide) ⟨rfl, rfl, rfl, trivial⟩)
   clear h
   rintro k5 l4i10 h
   have h : f_waste_Check_L6 a0 kk3 k5 l4i10 = some r := h
   obtain _ | k5 := k5
   · rw [f_waste_Check_L6] at h; cases h
   rw [f_waste_Check_L6] at h
   refine aw_show (m := (memOf w0 Z0 [] [] [(fDat (tyList tyS_api_Waste) [v0_0] a0)])) (S := (tab [(8, v0_0), (9, (iq (a0.length : Int))), (10, (iq l4i10))])) ?_
   refine aw_sr ?_
   refine al_in rfl rfl rfl rfl ?_
   refine al_nt ?_
   refine aw_seq ?_
   refine aw_cond rfl (fun hb7 => ?_) (fun hb7 => ?_)
   ·replace h := bif_t hb7 h
    refine aw_skip ?_
    refine aq_then ?_
    refine aw_seq ?_
    refine aw_block ?_
    refine aw_sr ?_
    obtain ⟨u8, hu9, h⟩ := opt_some h
    refine al_idxD 0 hu9 rfl rfl rfl Try.underlying45 sz47 rfl (fun p10 => ?_)
    refine al_val (ov_loadP (ds := [(iq u8.Size), (iq u8.Dead)]) 0 rfl encS_api_Waste rfl Try.underlying47 sz47 rfl rfl rfl) ?_
    refine al_alloc (zs := [(iq (0 : Int)), (iq (0 : Int))]) (zeroOf_to to47) rfl rfl (fun g11 => ?_)
    refine al_store (i := 0) (vs := [(iq u8.Size), (iq u8.Dead)]) (cs' := [(iq u8.Size), (iq u8.Dead)]) rfl rfl rfl sz47 (cv_rfl rfl) rfl (co_val rfl (co_val rfl co_nil)) (Nat.le_of_ble_eq_true rfl) rfl rfl ?_
    refine al_nt ?_
    obtain ⟨kk13, hkk13, h⟩ := lt_some h
    refine aw_seq_join (ι := Bool) (fun i => (memOf w0 Z0 [] [] [(fDat (tyList tyS_api_Waste) [v0_0] a0), (fPtr tyS_api_Waste p10 u8)])) (fun i => (tab [(8, v0_0), (9, (iq (a0.length : Int))), (10, (iq l4i10)), (33, (bool i))])) (fun i => kk13 i = some r) ?_ ?_
    ·rintro j12b33 h
     have h : kk13 j12b33 = some r := h
     rw [hkk13] at h
     dsimp only at h
     clear hkk13
     refine aw_show (m := (memOf w0 Z0 [] [] [(fDat (tyList tyS_api_Waste) [v0_0] a0), (fPtr tyS_api_Waste p10 u8)])) (S := (tab [(8, v0_0), (9, (iq (a0.length : Int))), (10, (iq l4i10)), (33, (bool j12b33))])) ?_
     refine aw_cond rfl (fun hb14 => ?_) (fun hb14 => ?_)
     ·replace h := bif_t hb14 h
      refine aw_sr ?_
      refine al_as rfl rfl ?_
      refine al_nt ?_
      refine aw_ret ?_
      refine aq_block_ret ?_
      refine aq_then_ret ?_
      refine aq_then_ret ?_
      refine aq_block_ret ?_
      refine aq_then_ret ?_
      obtain rfl := Option.some.inj h
      exact fn_ret () [] [] rfl rfl rfl rfl (res1 rfl rfl) rfl rfl rfl (by decide)
     ·replace h := bif_f hb14 h
      refine aw_skip ?_
      refine aq_block ?_
      refine aq_then ?_
      refine aw_region ?_
      refine al_in rfl rfl rfl rfl ?_
      refine al_mv rfl rfl ?_
      refine al_nil ?_
      exact aq_again k5 (wq (l4i10 + (1 : Int))) (Nat.lt_succ_self _) h (fun w a hm hs => norm hm hs [] [0] [(8, v0_0), (9, (iq (a0.length : Int))), (10, (iq (wq (l4i10 + (1 : Int)))))] (by decide) ⟨rfl, rfl, rfl, trivial⟩)
    ·clear hkk13
     refine aw_region ?_
     refine al_val (ov_fieldA (p := 0) rfl Try.underlying47 rfl sz3 rfl rfl rfl) ?_
     refine al_val (ov_load (i := 0) (v := (iq u8.Size)) rfl rfl Try.underlying3 sz3 rfl rfl rfl rfl) ?_
     refine al_in rfl rfl rfl rfl ?_
     refine al_mv rfl rfl ?_
     refine al_caseB 17 rfl (fun hb15 => ?_) (fun hb15 => ?_)
     ·replace h := bif_t hb15 h
      refine al_skip ?_
      refine al_skip ?_
      refine al_skip ?_
      refine al_val (ov_pick_t rfl rfl rfl) ?_
      refine al_mv rfl rfl ?_
      refine al_skip ?_
      refine al_skip ?_
      refine al_skip ?_
      refine al_val (ov_pick_t rfl rfl rfl) ?_
      refine al_mv rfl rfl ?_
      refine al_skip ?_
      refine al_skip ?_
      refine al_skip ?_
      refine al_skip ?_
      refine al_skip ?_
      refine al_val (ov_pick_t rfl rfl rfl) ?_
      refine al_nil ?_
      exact aq_join true h (fun w a hm hs => norm hm hs [] [1, 0] [(8, v0_0), (9, (iq (a0.length : Int))), (10, (iq l4i10)), (33, (bool true))] (by decide) ⟨rfl, rfl, rfl, rfl, trivial⟩)
     ·replace h := bif_f hb15 h
      refine al_val (ov_fieldA (p := 0) rfl Try.underlying47 rfl sz3 rfl rfl rfl) ?_
      refine al_val (ov_load (i := 0) (v := (iq u8.Size)) rfl rfl Try.underlying3 sz3 rfl rfl rfl rfl) ?_
      refine al_in rfl rfl rfl rfl ?_
      refine al_val (ov_pick_f rfl rfl rfl) ?_
      refine al_mv rfl rfl ?_
      refine al_caseB 22 rfl (fun hb16 => ?_) (fun hb16 => ?_)
      ·replace h := bif_t hb16 h
       refine al_skip ?_
       refine al_skip ?_
       refine al_skip ?_
       refine al_val (ov_pick_t rfl rfl rfl) ?_
       refine al_mv rfl rfl ?_
       refine al_skip ?_
       refine al_skip ?_
       refine al_skip ?_
       refine al_skip ?_
       refine al_skip ?_
       refine al_val (ov_pick_t rfl rfl rfl) ?_
       refine al_nil ?_
       exact aq_join true h (fun w a hm hs => norm hm hs [] [1, 0] [(8, v0_0), (9, (iq (a0.length : Int))), (10, (iq l4i10)), (33, (bool true))] (by decide) ⟨rfl, rfl, rfl, rfl, trivial⟩)
      ·replace h := bif_f hb16 h
       refine al_val (ov_fieldA (p := 1) rfl Try.underlying47 rfl sz3 rfl rfl rfl) ?_
       refine al_val (ov_load (i := 0) (v := (iq u8.Dead)) rfl rfl Try.underlying3 sz3 rfl rfl rfl rfl) ?_
       refine al_in rfl rfl rfl rfl ?_
       refine al_val (ov_pick_f rfl rfl rfl) ?_
       refine al_mv rfl rfl ?_
       refine al_caseB 27 rfl (fun hb17 => ?_) (fun hb17 => ?_)
       ·replace h := bif_t hb17 h
        refine al_skip ?_
        refine al_skip ?_
        refine al_skip ?_
        refine al_skip ?_
        refine al_skip ?_
        refine al_val (ov_pick_t rfl rfl rfl) ?_
        refine al_nil ?_
        exact aq_join true h (fun w a hm hs => norm hm hs [] [1, 0] [(8, v0_0), (9, (iq (a0.length : Int))), (10, (iq l4i10)), (33, (bool true))] (by decide) ⟨rfl, rfl, rfl, rfl, trivial⟩)
       ·replace h := bif_f hb17 h
        refine al_val (ov_fieldA (p := 1) rfl Try.underlying47 rfl sz3 rfl rfl rfl) ?_
        refine al_val (ov_load (i := 0) (v := (iq u8.Dead)) rfl rfl Try.underlying3 sz3 rfl rfl rfl rfl) ?_
        refine al_val (ov_fieldA (p := 0) rfl Try.underlying47 rfl sz3 rfl rfl rfl) ?_
        refine al_val (ov_load (i := 0) (v := (iq u8.Size)) rfl rfl Try.underlying3 sz3 rfl rfl rfl rfl) ?_
        refine al_in rfl rfl rfl rfl ?_
        refine al_val (ov_pick_f rfl rfl rfl) ?_
        refine al_nil ?_
        exact aq_join (decide (u8.Dead > u8.Size)) h (fun w a hm hs => norm hm hs [] [1, 0] [(8, v0_0), (9, (iq (a0.length : Int))), (10, (iq l4i10)), (33, (bool (decide (u8.Dead > u8.Size))))] (by decide) ⟨rfl, rfl, rfl, rfl, trivial⟩)
   ·replace h := bif_f hb7 h
    refine aw_exit ?_
    refine aq_then_exit ?_
    refine aq_then_exit ?_
    refine aq_block_exit ?_
    exact aq_join () h (fun w a hm hs => norm hm hs [] [0] [] (by decide) trivial)
def f_waste_Share (fu : Nat) (a0 : S_api_Waste) : Option Int := (bif (a0.Size == (0 : Int)) then (some (0 : Int)) else (opt (Option.map (fun n : Nat => (n : Int)) (FloatKind.f64.format.div (((FloatKind.f64.nearest a0.Dead : Nat) : Int)).toNat (((FloatKind.f64.nearest a0.Size : Nat) : Int)).toNat)) fun (r3 : Int) => (some r3)))
set_option maxHeartbeats 2000000 in
set_option maxRecDepth 100000 in
theorem f_waste_Share_ok (fu : Nat) (a0 : S_api_Waste) {r : Int} (h : f_waste_Share fu a0 = some r) : FnOk Try.prog 26 [(ag [(int .i64 a0.Size), (int .i64 a0.Dead)])] [] [] (fun (i : Unit) => { val := (Value.float .f64 (r).toNat) }) := by
 unfold f_waste_Share at h
 refine fn_enter Try.func26 rfl Try.ntmps26 rfl (fun w0 Z0 => ?_)
 refine aw_sr ?_
 refine al_box (vs := [(iq a0.Size), (iq a0.Dead)]) rfl (cv_rfl rfl) rfl (fun g1 => ?_)
 refine al_as rfl rfl ?_
 refine al_nt ?_
 refine aw_seq ?_
 refine aw_sr ?_
 refine al_val (ov_fieldA (p := 0) rfl Try.underlying47 rfl sz3 rfl rfl rfl) ?_
 refine al_val (ov_load (i := 0) (v := (iq a0.Size)) rfl rfl Try.underlying3 sz3 rfl rfl rfl rfl) ?_
 refine al_in rfl rfl rfl rfl ?_
 refine al_nt ?_
 refine aw_cond rfl (fun hb2 => ?_) (fun hb2 => ?_)
 ·replace h := bif_t hb2 h
  refine aw_sr ?_
  refine al_as rfl rfl ?_
  refine al_nt ?_
  refine aw_ret ?_
  refine aq_then_ret ?_
  obtain rfl := Option.some.inj h
  exact fn_ret () [] [] rfl rfl rfl rfl (res1 rfl rfl) rfl rfl rfl (by decide)
 ·replace h := bif_f hb2 h
  refine aw_skip ?_
  refine aq_tr ?_
  refine al_val (ov_fieldA (p := 1) rfl Try.underlying47 rfl sz3 rfl rfl rfl) ?_
  refine al_val (ov_load (i := 0) (v := (iq a0.Dead)) rfl rfl Try.underlying3 sz3 rfl rfl rfl rfl) ?_
  refine al_val (ov_convFloat Try.underlying3 Try.underlying48 rfl rfl) ?_
  refine al_val (ov_fieldA (p := 0) rfl Try.underlying47 rfl sz3 rfl rfl rfl) ?_
  refine al_val (ov_load (i := 0) (v := (iq a0.Size)) rfl rfl Try.underlying3 sz3 rfl rfl rfl rfl) ?_
  refine al_val (ov_convFloat Try.underlying3 Try.underlying48 rfl rfl) ?_
  obtain ⟨r3, hc4, h⟩ := opt_some h
  refine al_val (ov_floatQuo hc4 rfl rfl rfl) ?_
  refine al_as rfl rfl ?_
  refine al_nt ?_
  refine aw_ret ?_
  obtain rfl := Option.some.inj h
  exact fn_ret () [] [] rfl rfl rfl rfl (res1 rfl rfl) rfl rfl rfl (by decide)
def f_cmp_isNaN_float64_ (fu : Nat) (a0 : Int) : Option Bool := (some (FloatKind.f64.format.order (a0).toNat (a0).toNat != some .eq))
set_option maxRecDepth 100000 in
theorem f_cmp_isNaN_float64__ok (fu : Nat) (a0 : Int) {r : Bool} (h : f_cmp_isNaN_float64_ fu a0 = some r) : FnOk Try.prog 136 [(Value.float .f64 (a0).toNat)] [] [] (fun (i : Unit) => { val := (bool r) }) := by
 unfold f_cmp_isNaN_float64_ at h
 refine fn_enter Try.func136 rfl Try.ntmps136 rfl (fun w0 Z0 => ?_)
 refine aw_sr ?_
 refine al_as rfl rfl ?_
 refine al_nt ?_
 refine aw_sr ?_
 refine al_mv rfl rfl ?_
 refine al_mv rfl rfl ?_
 refine al_val (ov_floatNe rfl rfl rfl) ?_
 refine al_as rfl rfl ?_
 refine al_nt ?_
 refine aw_ret ?_
 obtain rfl := Option.some.inj h
 exact fn_ret () [] [] rfl rfl rfl rfl (res1 rfl rfl) rfl rfl rfl (by decide)
def f_cmp_Compare_float64_ (fu : Nat) (a0 : Int) (a1 : Int) : Option Int := (opt (f_cmp_isNaN_float64_ fu a0) fun (r2 : Bool) => (opt (f_cmp_isNaN_float64_ fu a1) fun (r4 : Bool) => (bif r2 then (bif r4 then (some (0 : Int)) else (some (-1 : Int))) else (bif r4 then (some (1 : Int)) else (bif (FloatKind.f64.format.order (a0).toNat (a1).toNat == some .lt) then (some (-1 : Int)) else (bif (FloatKind.f64.format.order (a0).toNat (a1).toNat == some .gt) then (some (1 : Int)) else (some (0 : Int))))))))
set_option maxHeartbeats 2000000 in
set_option maxRecDepth 100000 in
theorem f_cmp_Compare_float64__ok (fu : Nat) (a0 : Int) (a1 : Int) {r : Int} (h : f_cmp_Compare_float64_ fu a0 a1 = some r) : FnOk Try.prog 74 [(Value.float .f64 (a0).toNat), (Value.float .f64 (a1).toNat)] [] [] (fun (i : Unit) => { val := (int .i64 r) }) := by
 unfold f_cmp_Compare_float64_ at h
 refine fn_enter Try.func74 rfl Try.ntmps74 rfl (fun w0 Z0 => ?_)
 refine aw_sr ?_
 refine al_as rfl rfl ?_
 refine al_nt ?_
 refine aw_sr ?_
 refine al_mv rfl rfl ?_
 obtain ⟨r2, hc1, h⟩ := opt_some h
 refine al_call (vs := [(Value.float .f64 (a0).toNat)]) (f_cmp_isNaN_float64__ok fu a0 hc1) [] [] [] pre_nil rfl (by simp) (by decide) (.inl rfl) rfl Try.func136 rfl rfl rfl (fun _ => ?_)
 refine al_as rfl rfl ?_
 refine al_nt ?_
 refine aw_sr ?_
 refine al_mv rfl rfl ?_
 obtain ⟨r4, hc3, h⟩ := opt_some h
 refine al_call (vs := [(Value.float .f64 (a1).toNat)]) (f_cmp_isNaN_float64__ok fu a1 hc3) [] [] [] pre_nil rfl (by simp) (by decide) (.inl rfl) rfl Try.func136 rfl rfl rfl (fun _ => ?_)
 refine al_as rfl rfl ?_
 refine al_nt ?_
 refine aw_seq ?_
 refine aw_sr ?_
 refine al_mv rfl rfl ?_
 refine al_nt ?_
 refine aw_cond rfl (fun hb5 => ?_) (fun hb5 => ?_)
 ·replace h := bif_t hb5 h
  refine aw_seq ?_
  refine aw_sr ?_
  refine al_mv rfl rfl ?_
  refine al_nt ?_
  refine aw_cond rfl (fun hb6 => ?_) (fun hb6 => ?_)
  ·replace h := bif_t hb6 h
   refine aw_sr ?_
   refine al_as rfl rfl ?_
   refine al_nt ?_
   refine aw_ret ?_
   refine aq_then_ret ?_
   refine aq_then_ret ?_
   obtain rfl := Option.some.inj h
   exact fn_ret () [] [] rfl rfl rfl rfl (res1 rfl rfl) rfl rfl rfl (by decide)
  ·replace h := bif_f hb6 h
   refine aw_skip ?_
   refine aq_tr ?_
   refine al_as rfl rfl ?_
   refine al_nt ?_
   refine aw_ret ?_
   refine aq_then_ret ?_
   obtain rfl := Option.some.inj h
   exact fn_ret () [] [] rfl rfl rfl rfl (res1 rfl rfl) rfl rfl rfl (by decide)
 ·replace h := bif_f hb5 h
  refine aw_skip ?_
  refine aq_then ?_
  refine aw_seq ?_
  refine aw_sr ?_
  refine al_mv rfl rfl ?_
  refine al_nt ?_
  refine aw_cond rfl (fun hb7 => ?_) (fun hb7 => ?_)
  ·replace h := bif_t hb7 h
   refine aw_sr ?_
   refine al_as rfl rfl ?_
   refine al_nt ?_
   refine aw_ret ?_
   refine aq_then_ret ?_
   obtain rfl := Option.some.inj h
   exact fn_ret () [] [] rfl rfl rfl rfl (res1 rfl rfl) rfl rfl rfl (by decide)
  ·replace h := bif_f hb7 h
   refine aw_skip ?_
   refine aq_then ?_
   refine aw_seq ?_
   refine aw_sr ?_
   refine al_mv rfl rfl ?_
   refine al_mv rfl rfl ?_
   refine al_val (ov_floatCmp rfl rfl rfl rfl) ?_
   refine al_nt ?_
   refine aw_cond rfl (fun hb8 => ?_) (fun hb8 => ?_)
   ·replace h := bif_t hb8 h
    refine aw_sr ?_
    refine al_as rfl rfl ?_
    refine al_nt ?_
    refine aw_ret ?_
    refine aq_then_ret ?_
    obtain rfl := Option.some.inj h
    exact fn_ret () [] [] rfl rfl rfl rfl (res1 rfl rfl) rfl rfl rfl (by decide)
   ·replace h := bif_f hb8 h
    refine aw_skip ?_
    refine aq_then ?_
    refine aw_seq ?_
    refine aw_sr ?_
    refine al_mv rfl rfl ?_
    refine al_mv rfl rfl ?_
    refine al_val (ov_floatCmp rfl rfl rfl rfl) ?_
    refine al_nt ?_
    refine aw_cond rfl (fun hb9 => ?_) (fun hb9 => ?_)
    ·replace h := bif_t hb9 h
     refine aw_sr ?_
     refine al_as rfl rfl ?_
     refine al_nt ?_
     refine aw_ret ?_
     refine aq_then_ret ?_
     obtain rfl := Option.some.inj h
     exact fn_ret () [] [] rfl rfl rfl rfl (res1 rfl rfl) rfl rfl rfl (by decide)
    ·replace h := bif_f hb9 h
     refine aw_skip ?_
     refine aq_tr ?_
     refine al_as rfl rfl ?_
     refine al_nt ?_
     refine aw_ret ?_
     obtain rfl := Option.some.inj h
     exact fn_ret () [] [] rfl rfl rfl rfl (res1 rfl rfl) rfl rfl rfl (by decide)
def f_waste_Choose_1 (fu : Nat) (a0 : Int) (a1 : Int) (a2 : (List S_api_Waste)) : Option Int := (opt (at? a2 a1) fun (u2 : S_api_Waste) => (opt (f_waste_Share fu u2) fun (r6 : Int) => (opt (at? a2 a0) fun (u8 : S_api_Waste) => (opt (f_waste_Share fu u8) fun (r12 : Int) => (opt (f_cmp_Compare_float64_ fu r6 r12) fun (r14 : Int) => (some r14))))))
set_option maxRecDepth 100000 in
theorem f_waste_Choose_1_ok (fu : Nat) (a0 : Int) (a1 : Int) (c2 : Value) (a2 : (List S_api_Waste)) {r : Int} (h : f_waste_Choose_1 fu a0 a1 a2 = some r) : FnOk Try.prog 73 [(int .i64 a0), (int .i64 a1), c2] [(fPtr (tyList tyS_api_Waste) c2 a2)] [] (fun (i : Unit) => { val := (int .i64 r) }) := by
 unfold f_waste_Choose_1 at h
 refine fn_enter Try.func73 rfl Try.ntmps73 rfl (fun w0 Z0 => ?_)
 refine aw_sr ?_
 refine al_as rfl rfl ?_
 refine al_nt ?_
 refine aw_seq ?_
 obtain ⟨u2, hu3, h⟩ := opt_some h
 obtain ⟨r6, hc5, h⟩ := opt_some h
 obtain ⟨u8, hu9, h⟩ := opt_some h
 obtain ⟨r12, hc11, h⟩ := opt_some h
 obtain ⟨r14, hc13, h⟩ := opt_some h
 refine aw_region_draw 11 [(6, (fun s1 => (fDat (tyList tyS_api_Waste) [s1] a2))), (7, (fun u => fEq u (iq a1))), (8, (fun p4 => (fPtr tyS_api_Waste p4 u2))), (9, (fun u => fEq u (ag [(iq u2.Size), (iq u2.Dead)]))), (10, (fun u => fEq u (Value.float .f64 (r6).toNat))), (11, (fun s7 => (fDat (tyList tyS_api_Waste) [s7] a2))), (12, (fun u => fEq u (iq a0))), (13, (fun p10 => (fPtr tyS_api_Waste p10 u8))), (14, (fun u => fEq u (ag [(iq u8.Size), (iq u8.Dead)]))), (15, (fun u => fEq u (Value.float .f64 (r12).toNat))), (16, (fun u => fEq u (iq r14)))] (tab [(0, (iq a0)), (1, (iq a1)), (2, c2), (5, (iq (0 : Int)))]) mixed (by kernel_rfl) rfl rfl rfl (fun a hs => hs.tab _ (allT_mem ⟨rfl, rfl, rfl, rfl, trivial⟩)) ⟨⟨rfl, ld_of (of_loadP1 0 rfl rfl Try.underlying45 sz45 rfl rfl rfl)⟩, ⟨rfl, ld_val (ov_move rfl rfl)⟩, ⟨rfl, ld_fact (j := 0) rfl rfl (fun s1 => ld_eq (j := 1) rfl rfl (ld_of (of_idxD 0 hu3 rfl rfl rfl Try.underlying45 sz47 rfl)))⟩, ⟨rfl, ld_fact (j := 2) rfl rfl (fun p4 => ld_val (ov_loadP (ds := [(iq u2.Size), (iq u2.Dead)]) 0 rfl encS_api_Waste rfl Try.underlying47 sz47 rfl rfl rfl))⟩, ⟨rfl, ld_eq (j := 3) rfl rfl (ld_callV (vs := [(ag [(iq u2.Size), (iq u2.Dead)])]) (f_waste_Share_ok fu u2 hc5) [] pre_nil rfl Try.func26 rfl rfl rfl)⟩, ⟨rfl, ld_of (of_loadP1 0 rfl rfl Try.underlying45 sz45 rfl rfl rfl)⟩, ⟨rfl, ld_val (ov_move rfl rfl)⟩, ⟨rfl, ld_fact (j := 5) rfl rfl (fun s7 => ld_eq (j := 6) rfl rfl (ld_of (of_idxD 0 hu9 rfl rfl rfl Try.underlying45 sz47 rfl)))⟩, ⟨rfl, ld_fact (j := 7) rfl rfl (fun p10 => ld_val (ov_loadP (ds := [(iq u8.Size), (iq u8.Dead)]) 0 rfl encS_api_Waste rfl Try.underlying47 sz47 rfl rfl rfl))⟩, ⟨rfl, ld_eq (j := 8) rfl rfl (ld_callV (vs := [(ag [(iq u8.Size), (iq u8.Dead)])]) (f_waste_Share_ok fu u8 hc11) [] pre_nil rfl Try.func26 rfl rfl rfl)⟩, ⟨rfl, ld_eq (j := 4) rfl rfl (ld_eq (j := 9) rfl rfl (ld_callV (vs := [(Value.float .f64 (r6).toNat), (Value.float .f64 (r12).toNat)]) (f_cmp_Compare_float64__ok fu r6 r12 hc13) [] pre_nil rfl Try.func74 rfl rfl rfl))⟩, trivial⟩ ?_
 refine tl_eq 10 rfl ?_
 refine tl_done ?_
 refine al_as rfl rfl ?_
 refine al_nt ?_
 refine aw_ret ?_
 obtain rfl := Option.some.inj h
 exact fn_ret () [] [] rfl rfl rfl rfl (res1 rfl rfl) rfl rfl rfl (by decide)
-- STUCK slices.insertionSortCmpFunc[int]: lty ['func', [3, 3], [3], False]
-- STUCK slices.swapRangeCmpFunc[int]: lty ['func', [3, 3], [3], False]
-- STUCK slices.rotateCmpFunc[int]: lty ['func', [3, 3], [3], False]
-- STUCK slices.symMergeCmpFunc[int]: lty ['func', [3, 3], [3], False]
-- STUCK slices.stableCmpFunc[int]: lty ['func', [3, 3], [3], False]
-- STUCK slices.SortStableFunc[[]int,int]: lty ['func', [3, 3], [3], False]
def f_slices_insertionSortCmpFunc_int__lent_F73_L10 (a1 : Int) (a3_0 : (List S_api_Waste)) (kk7 : ((List Int) → Option (List Int))) (fu : Nat) : Nat → (List Int) → Int → Option (List Int)
  | 0, _, _ => none
  | k9 + 1, l8x0, l8i9 => (lt (fun (j11b34 : Bool) => (bif j11b34 then (opt (at? l8x0 (IntKind.i64.wrap (l8i9 - (1 : Int)))) fun (u14 : Int) => (opt (at? l8x0 l8i9) fun (u18 : Int) => (opt (at? l8x0 l8i9) fun (u22 : Int) => (opt (at? (l8x0.set (l8i9).toNat u14) (IntKind.i64.wrap (l8i9 - (1 : Int)))) fun (u26 : Int) => (f_slices_insertionSortCmpFunc_int__lent_F73_L10 a1 a3_0 kk7 fu k9 ((l8x0.set (l8i9).toNat u14).set ((IntKind.i64.wrap (l8i9 - (1 : Int)))).toNat u18) (IntKind.i64.wrap (l8i9 - (1 : Int)))))))) else (kk7 l8x0))) fun (kk12 : Bool → Option (List Int)) => (bif (decide (l8i9 > a1)) then (opt (at? l8x0 l8i9) fun (u31 : Int) => (opt (at? l8x0 (IntKind.i64.wrap (l8i9 - (1 : Int)))) fun (u35 : Int) => (opt (f_waste_Choose_1 fu u31 u35 a3_0) fun (r40 : Int) => (kk12 (decide (r40 < (0 : Int))))))) else (kk12 false)))
def f_slices_insertionSortCmpFunc_int__lent_F73_L3 (a1 : Int) (a2 : Int) (a3_0 : (List S_api_Waste)) (fu : Nat) : Nat → (List Int) → Int → Option (List Int)
  | 0, _, _ => none
  | k2 + 1, l1x0, l1i8 => (lt (fun (l1x0 : (List Int)) (l1i8 : Int) => (f_slices_insertionSortCmpFunc_int__lent_F73_L3 a1 a2 a3_0 fu k2 l1x0 l1i8)) fun (kk4 : (List Int) → Int → Option (List Int)) => (bif (decide (l1i8 < a2)) then (lt (fun (j6x0 : (List Int)) => (kk4 j6x0 (IntKind.i64.wrap (l1i8 + (1 : Int))))) fun (kk7 : (List Int) → Option (List Int)) => (f_slices_insertionSortCmpFunc_int__lent_F73_L10 a1 a3_0 kk7 fu fu l1x0 l1i8)) else (some l1x0)))
def f_slices_insertionSortCmpFunc_int__lent_F73 (fu : Nat) (a0 : (List Int)) (a1 : Int) (a2 : Int) (a3_0 : (List S_api_Waste)) : Option (List Int) := (f_slices_insertionSortCmpFunc_int__lent_F73_L3 a1 a2 a3_0 fu fu a0 (IntKind.i64.wrap (a1 + (1 : Int))))
set_option maxHeartbeats 2000000 in
set_option maxRecDepth 100000 in
theorem f_slices_insertionSortCmpFunc_int__lent_F73_ok (fu : Nat) (v0_0 : Value) (a0 : (List Int)) (a1 : Int) (a2 : Int) (c3_0 : Value) (a3_0 : (List S_api_Waste)) {r : (List Int)} (h : f_slices_insertionSortCmpFunc_int__lent_F73 fu a0 a1 a2 a3_0 = some r) : FnOk Try.prog 170 [v0_0, (int .i64 a1), (int .i64 a2), (Value.func (.func 73) #[] #[c3_0])] [(fPtr (tyList tyS_api_Waste) c3_0 a3_0)] [(oRow v0_0 3 (tyInt .i64) a0)] (fun (i : Unit) => { val := (Value.tuple #[]), own := [(oRow v0_0 3 (tyInt .i64) r)] }) := by
 unfold f_slices_insertionSortCmpFunc_int__lent_F73 at h
 refine fn_enter Try.func170 rfl Try.ntmps170 rfl (fun w0 Z0 => ?_)
 refine aw_sr ?_
 refine al_mv rfl rfl ?_
 refine al_in rfl rfl rfl rfl ?_
 refine al_as rfl rfl ?_
 refine al_nt ?_
 refine aw_block ?_
 refine aw_state (aw_loop (ι := (List Int) × Int) (fun i => (memOf w0 Z0 [(oRow v0_0 3 tq a0)] [(oRow v0_0 3 tq i.1)] [(fPtr (tyList tyS_api_Waste) c3_0 a3_0)])) (fun i => (tab [(0, v0_0), (1, (iq a1)), (2, (iq a2)), (3, (Value.func (.func 73) #[] #[c3_0])), (8, (iq i.2))])) (fun q i => f_slices_insertionSortCmpFunc_int__lent_F73_L3 a1 a2 a3_0 fu q i.1 i.2 = some r) ?_ fu (a0, (wq (a1 + (1 : Int)))) h) (fun w a hm hs => norm hm hs [0] [0] [(0, v0_0), (1, (iq a1)), (2, (iq a2)), (3, (Value.func (.func 73) #[] #[c3_0])), (8, (iq (wq (a1 + (1 : Int)))))] (by decide) ⟨rfl, rfl, rfl, rfl, rfl, trivial⟩)
 clear h
 rintro k2 ⟨l1x0, l1i8⟩ h
 have h : f_slices_insertionSortCmpFunc_int__lent_F73_L3 a1 a2 a3_0 fu k2 l1x0 l1i8 = some r := h
 obtain _ | k2 := k2
 · rw [f_slices_insertionSortCmpFunc_int__lent_F73_L3] at h; cases h
 rw [f_slices_insertionSortCmpFunc_int__lent_F73_L3] at h
 refine aw_show (m := (memOf w0 Z0 [(oRow v0_0 3 tq a0)] [(oRow v0_0 3 tq l1x0)] [(fPtr (tyList tyS_api_Waste) c3_0 a3_0)])) (S := (tab [(0, v0_0), (1, (iq a1)), (2, (iq a2)), (3, (Value.func (.func 73) #[] #[c3_0])), (8, (iq l1i8))])) ?_
 obtain ⟨kk4, hkk4, h⟩ := lt_some h
 refine aw_body_join (ι := (List Int) × Int) (fun i => (memOf w0 Z0 [(oRow v0_0 3 tq a0)] [(oRow v0_0 3 tq i.1)] [(fPtr (tyList tyS_api_Waste) c3_0 a3_0)])) (fun i => (tab [(0, v0_0), (1, (iq a1)), (2, (iq a2)), (3, (Value.func (.func 73) #[] #[c3_0])), (8, (iq i.2))])) (fun i => kk4 i.1 i.2 = some r) (fun i h => aq_again k2 i (Nat.lt_succ_self _) (by rw [hkk4] at h; exact h) (fun w a hm hs => ⟨hm, hs⟩)) ?_
 clear hkk4
 refine aw_seq ?_
 refine aw_sr ?_
 refine al_mv rfl rfl ?_
 refine al_mv rfl rfl ?_
 refine al_in rfl rfl rfl rfl ?_
 refine al_nt ?_
 refine aw_cond rfl (fun hb5 => ?_) (fun hb5 => ?_)
 ·replace h := bif_t hb5 h
  refine aw_skip ?_
  refine aq_then ?_
  obtain ⟨kk7, hkk7, h⟩ := lt_some h
  refine aw_seq_join (ι := (List Int)) (fun i => (memOf w0 Z0 [(oRow v0_0 3 tq a0)] [(oRow v0_0 3 tq i)] [(fPtr (tyList tyS_api_Waste) c3_0 a3_0)])) (fun i => (tab [(0, v0_0), (1, (iq a1)), (2, (iq a2)), (3, (Value.func (.func 73) #[] #[c3_0])), (8, (iq l1i8))])) (fun i => kk7 i = some r) ?_ ?_
  ·rintro j6x0 h
   have h : kk7 j6x0 = some r := h
   rw [hkk7] at h
   dsimp only at h
   clear hkk7
   refine aw_show (m := (memOf w0 Z0 [(oRow v0_0 3 tq a0)] [(oRow v0_0 3 tq j6x0)] [(fPtr (tyList tyS_api_Waste) c3_0 a3_0)])) (S := (tab [(0, v0_0), (1, (iq a1)), (2, (iq a2)), (3, (Value.func (.func 73) #[] #[c3_0])), (8, (iq l1i8))])) ?_
   refine aw_region ?_
   refine al_mv rfl rfl ?_
   refine al_in rfl rfl rfl rfl ?_
   refine al_as rfl rfl ?_
   refine al_nil ?_
   exact aq_join (j6x0, (wq (l1i8 + (1 : Int)))) h (fun w a hm hs => norm hm hs [0] [0] [(0, v0_0), (1, (iq a1)), (2, (iq a2)), (3, (Value.func (.func 73) #[] #[c3_0])), (8, (iq (wq (l1i8 + (1 : Int)))))] (by decide) ⟨rfl, rfl, rfl, rfl, rfl, trivial⟩)
  ·clear hkk7
   refine aw_block ?_
   refine aw_sr ?_
   refine al_mv rfl rfl ?_
   refine al_as rfl rfl ?_
   refine al_nt ?_
   refine aw_block ?_
   refine aw_state (aw_loop (ι := (List Int) × Int) (fun i => (memOf w0 Z0 [(oRow v0_0 3 tq a0)] [(oRow v0_0 3 tq i.1)] [(fPtr (tyList tyS_api_Waste) c3_0 a3_0)])) (fun i => (tab [(0, v0_0), (1, (iq a1)), (2, (iq a2)), (3, (Value.func (.func 73) #[] #[c3_0])), (8, (iq l1i8)), (9, (iq i.2))])) (fun q i => f_slices_insertionSortCmpFunc_int__lent_F73_L10 a1 a3_0 kk7 fu q i.1 i.2 = some r) ?_ fu (l1x0, l1i8) h) (fun w a hm hs => norm hm hs [0] [0] [(0, v0_0), (1, (iq a1)), (2, (iq a2)), (3, (Value.func (.func 73) #[] #[c3_0])), (8, (iq l1i8)), (9, (iq l1i8))] (by decide) ⟨rfl, rfl, rfl, rfl, rfl, rfl, trivial⟩)
   clear h
   rintro k9 ⟨l8x0, l8i9⟩ h
   have h : f_slices_insertionSortCmpFunc_int__lent_F73_L10 a1 a3_0 kk7 fu k9 l8x0 l8i9 = some r := h
   obtain _ | k9 := k9
   · rw [f_slices_insertionSortCmpFunc_int__lent_F73_L10] at h; cases h
   rw [f_slices_insertionSortCmpFunc_int__lent_F73_L10] at h
   refine aw_show (m := (memOf w0 Z0 [(oRow v0_0 3 tq a0)] [(oRow v0_0 3 tq l8x0)] [(fPtr (tyList tyS_api_Waste) c3_0 a3_0)])) (S := (tab [(0, v0_0), (1, (iq a1)), (2, (iq a2)), (3, (Value.func (.func 73) #[] #[c3_0])), (8, (iq l1i8)), (9, (iq l8i9))])) ?_
   refine aw_seq ?_
   obtain ⟨kk12, hkk12, h⟩ := lt_some h
   refine aw_seq_join (ι := Bool) (fun i => (memOf w0 Z0 [(oRow v0_0 3 tq a0)] [(oRow v0_0 3 tq l8x0)] [(fPtr (tyList tyS_api_Waste) c3_0 a3_0)])) (fun i => (tab [(0, v0_0), (1, (iq a1)), (2, (iq a2)), (3, (Value.func (.func 73) #[] #[c3_0])), (8, (iq l1i8)), (9, (iq l8i9)), (34, (bool i))])) (fun i => kk12 i = some r) ?_ ?_
   ·rintro j11b34 h
    have h : kk12 j11b34 = some r := h
    rw [hkk12] at h
    dsimp only at h
    clear hkk12
    refine aw_show (m := (memOf w0 Z0 [(oRow v0_0 3 tq a0)] [(oRow v0_0 3 tq l8x0)] [(fPtr (tyList tyS_api_Waste) c3_0 a3_0)])) (S := (tab [(0, v0_0), (1, (iq a1)), (2, (iq a2)), (3, (Value.func (.func 73) #[] #[c3_0])), (8, (iq l1i8)), (9, (iq l8i9)), (34, (bool j11b34))])) ?_
    refine aw_cond rfl (fun hb13 => ?_) (fun hb13 => ?_)
    ·replace h := bif_t hb13 h
     refine aw_skip ?_
     refine aq_then ?_
     refine aw_seq ?_
     refine aw_block ?_
     obtain ⟨u14, hu15, h⟩ := opt_some h
     obtain ⟨u18, hu19, h⟩ := opt_some h
     obtain ⟨u22, hu23, h⟩ := opt_some h
     refine aw_region_open [⟨0, 37, Unit, fun _ => { val := v0_0 }⟩, ⟨1, 38, Unit, fun _ => { val := (iq l8i9) }⟩, ⟨2, 39, Unit, fun _ => { val := v0_0 }⟩, ⟨3, 40, Unit, fun _ => { val := (iq l8i9) }⟩, ⟨4, 41, Unit, fun _ => { val := (iq (wq (l8i9 - (1 : Int)))) }⟩, ⟨5, 42, Unit, fun _ => { val := v0_0 }⟩, ⟨6, 43, Unit, fun _ => { val := (iq l8i9) }⟩, ⟨7, 44, Unit, fun _ => { val := (iq (wq (l8i9 - (1 : Int)))) }⟩, ⟨8, 45, {p : Value // EltOf v0_0 p (((wq (l8i9 - (1 : Int)))).toNat * Ty.size tq)}, fun p => { val := p.1 }⟩, ⟨9, 46, Unit, fun _ => { val := (iq u14) }⟩, ⟨10, 47, Unit, fun _ => { val := v0_0 }⟩, ⟨11, 48, Unit, fun _ => { val := (iq l8i9) }⟩, ⟨12, 49, {p : Value // EltOf v0_0 p ((l8i9).toNat * Ty.size tq)}, fun p => { val := p.1 }⟩, ⟨13, 50, Unit, fun _ => { val := (iq u18) }⟩, ⟨14, 51, {p : Value // EltOf v0_0 p ((l8i9).toNat * Ty.size tq)}, fun p => { val := p.1 }⟩] (tab [(0, v0_0), (1, (iq a1)), (2, (iq a2)), (3, (Value.func (.func 73) #[] #[c3_0])), (8, (iq l1i8)), (9, (iq l8i9))]) mixed (fun a hs => hs.tab _ (allT_mem ⟨rfl, rfl, rfl, rfl, rfl, rfl, trivial⟩)) ?_
     refine ta_show (m := (memOf w0 Z0 [(oRow v0_0 3 tq a0)] [(oRow v0_0 3 tq l8x0)] [(fPtr (tyList tyS_api_Waste) c3_0 a3_0)])) (S := (tab [(0, v0_0), (1, (iq a1)), (2, (iq a2)), (3, (Value.func (.func 73) #[] #[c3_0])), (8, (iq l1i8)), (9, (iq l8i9))])) ?_
     refine ta_step 15 _ [0, 1, 2, 3, 4, 5, 6, 7, 8, 9, 10, 11, 12, 13, 14] [37, 38, 39, 40, 41, 42, 43, 44, 45, 46, 47, 48, 49, 50, 51] [0, 1, 5, 6, 7, 8, 9, 10, 11, 12, 13, 14] [16] [⟨0, 37, Unit, fun _ => { val := v0_0 }⟩, ⟨1, 38, Unit, fun _ => { val := (iq l8i9) }⟩, ⟨5, 42, Unit, fun _ => { val := v0_0 }⟩, ⟨6, 43, Unit, fun _ => { val := (iq l8i9) }⟩, ⟨7, 44, Unit, fun _ => { val := (iq (wq (l8i9 - (1 : Int)))) }⟩, ⟨8, 45, {p : Value // EltOf v0_0 p (((wq (l8i9 - (1 : Int)))).toNat * Ty.size tq)}, fun p => { val := p.1 }⟩, ⟨9, 46, Unit, fun _ => { val := (iq u14) }⟩, ⟨10, 47, Unit, fun _ => { val := v0_0 }⟩, ⟨11, 48, Unit, fun _ => { val := (iq l8i9) }⟩, ⟨12, 49, {p : Value // EltOf v0_0 p ((l8i9).toNat * Ty.size tq)}, fun p => { val := p.1 }⟩, ⟨13, 50, Unit, fun _ => { val := (iq u18) }⟩, ⟨14, 51, {p : Value // EltOf v0_0 p ((l8i9).toNat * Ty.size tq)}, fun p => { val := p.1 }⟩] [⟨2, 39, Unit, fun _ => { val := v0_0 }⟩, ⟨3, 40, Unit, fun _ => { val := (iq l8i9) }⟩, ⟨4, 41, Unit, fun _ => { val := (iq (wq (l8i9 - (1 : Int)))) }⟩] rfl rfl rfl (by kernel_rfl) rfl rfl rfl ⟨⟨_, rfl, [], rfl, by
 intro X_ Y_ F_ K_ hK_
 refine al_show (m := Mem.plus (memOf w0 Z0 [(oRow v0_0 3 tq a0)] [(oRow v0_0 3 tq l8x0)] [(fPtr (tyList tyS_api_Waste) c3_0 a3_0)]) X_ Y_) (S := over (tab [(0, v0_0), (1, (iq a1)), (2, (iq a2)), (3, (Value.func (.func 73) #[] #[c3_0])), (8, (iq l1i8)), (9, (iq l8i9))]) F_) ?_
 refine al_mv rfl rfl ?_
 refine al_nil ?_
 exact fr_fin hK_ ()⟩, ⟨_, rfl, [], rfl, by
 intro X_ Y_ F_ K_ hK_
 refine al_show (m := Mem.plus (memOf w0 Z0 [(oRow v0_0 3 tq a0)] [(oRow v0_0 3 tq l8x0)] [(fPtr (tyList tyS_api_Waste) c3_0 a3_0)]) X_ Y_) (S := over (tab [(0, v0_0), (1, (iq a1)), (2, (iq a2)), (3, (Value.func (.func 73) #[] #[c3_0])), (8, (iq l1i8)), (9, (iq l8i9))]) F_) ?_
 refine al_mv rfl rfl ?_
 refine al_nil ?_
 exact fr_fin hK_ ()⟩, ⟨_, rfl, [], rfl, by
 intro X_ Y_ F_ K_ hK_
 refine al_show (m := Mem.plus (memOf w0 Z0 [(oRow v0_0 3 tq a0)] [(oRow v0_0 3 tq l8x0)] [(fPtr (tyList tyS_api_Waste) c3_0 a3_0)]) X_ Y_) (S := over (tab [(0, v0_0), (1, (iq a1)), (2, (iq a2)), (3, (Value.func (.func 73) #[] #[c3_0])), (8, (iq l1i8)), (9, (iq l8i9))]) F_) ?_
 refine al_mv rfl rfl ?_
 refine al_nil ?_
 exact fr_fin hK_ ()⟩, ⟨_, rfl, [], rfl, by
 intro X_ Y_ F_ K_ hK_
 refine al_show (m := Mem.plus (memOf w0 Z0 [(oRow v0_0 3 tq a0)] [(oRow v0_0 3 tq l8x0)] [(fPtr (tyList tyS_api_Waste) c3_0 a3_0)]) X_ Y_) (S := over (tab [(0, v0_0), (1, (iq a1)), (2, (iq a2)), (3, (Value.func (.func 73) #[] #[c3_0])), (8, (iq l1i8)), (9, (iq l8i9))]) F_) ?_
 refine al_mv rfl rfl ?_
 refine al_nil ?_
 exact fr_fin hK_ ()⟩, ⟨_, rfl, [3], rfl, by
 intro _
 intro X_ Y_ F_ K_ hK_
 refine al_show (m := Mem.plus (memOf w0 Z0 [(oRow v0_0 3 tq a0)] [(oRow v0_0 3 tq l8x0)] [(fPtr (tyList tyS_api_Waste) c3_0 a3_0)]) X_ Y_) (S := over (put (tab [(0, v0_0), (1, (iq a1)), (2, (iq a2)), (3, (Value.func (.func 73) #[] #[c3_0])), (8, (iq l1i8)), (9, (iq l8i9))]) 40 (iq l8i9)) F_) ?_
 refine al_in rfl rfl rfl rfl ?_
 refine al_nil ?_
 exact fr_fin hK_ ()⟩, ⟨_, rfl, [], rfl, by
 intro X_ Y_ F_ K_ hK_
 refine al_show (m := Mem.plus (memOf w0 Z0 [(oRow v0_0 3 tq a0)] [(oRow v0_0 3 tq l8x0)] [(fPtr (tyList tyS_api_Waste) c3_0 a3_0)]) X_ Y_) (S := over (tab [(0, v0_0), (1, (iq a1)), (2, (iq a2)), (3, (Value.func (.func 73) #[] #[c3_0])), (8, (iq l1i8)), (9, (iq l8i9))]) F_) ?_
 refine al_mv rfl rfl ?_
 refine al_nil ?_
 exact fr_fin hK_ ()⟩, ⟨_, rfl, [], rfl, by
 intro X_ Y_ F_ K_ hK_
 refine al_show (m := Mem.plus (memOf w0 Z0 [(oRow v0_0 3 tq a0)] [(oRow v0_0 3 tq l8x0)] [(fPtr (tyList tyS_api_Waste) c3_0 a3_0)]) X_ Y_) (S := over (tab [(0, v0_0), (1, (iq a1)), (2, (iq a2)), (3, (Value.func (.func 73) #[] #[c3_0])), (8, (iq l1i8)), (9, (iq l8i9))]) F_) ?_
 refine al_mv rfl rfl ?_
 refine al_nil ?_
 exact fr_fin hK_ ()⟩, ⟨_, rfl, [6], rfl, by
 intro _
 intro X_ Y_ F_ K_ hK_
 refine al_show (m := Mem.plus (memOf w0 Z0 [(oRow v0_0 3 tq a0)] [(oRow v0_0 3 tq l8x0)] [(fPtr (tyList tyS_api_Waste) c3_0 a3_0)]) X_ Y_) (S := over (put (tab [(0, v0_0), (1, (iq a1)), (2, (iq a2)), (3, (Value.func (.func 73) #[] #[c3_0])), (8, (iq l1i8)), (9, (iq l8i9))]) 43 (iq l8i9)) F_) ?_
 refine al_in rfl rfl rfl rfl ?_
 refine al_nil ?_
 exact fr_fin hK_ ()⟩, ⟨_, rfl, [5, 7], rfl, by
 intro _
 intro _
 intro X_ Y_ F_ K_ hK_
 refine al_show (m := Mem.plus (memOf w0 Z0 [(oRow v0_0 3 tq a0)] [(oRow v0_0 3 tq l8x0)] [(fPtr (tyList tyS_api_Waste) c3_0 a3_0)]) X_ Y_) (S := over (put (put (tab [(0, v0_0), (1, (iq a1)), (2, (iq a2)), (3, (Value.func (.func 73) #[] #[c3_0])), (8, (iq l1i8)), (9, (iq l8i9))]) 42 v0_0) 44 (iq (wq (l8i9 - (1 : Int))))) F_) ?_
 refine al_idxR 0 (at_some hu15).1 (at_some hu15).2.1 rfl rfl rfl Try.underlying49 sz3 rfl (fun p16 hp17 => ?_)
 refine al_nil ?_
 exact fr_fin hK_ ⟨p16, hp17⟩⟩, ⟨_, rfl, [8], rfl, by
 rintro ⟨p16, hp17⟩
 intro X_ Y_ F_ K_ hK_
 refine al_show (m := Mem.plus (memOf w0 Z0 [(oRow v0_0 3 tq a0)] [(oRow v0_0 3 tq l8x0)] [(fPtr (tyList tyS_api_Waste) c3_0 a3_0)]) X_ Y_) (S := over (put (tab [(0, v0_0), (1, (iq a1)), (2, (iq a2)), (3, (Value.func (.func 73) #[] #[c3_0])), (8, (iq l1i8)), (9, (iq l8i9))]) 45 p16) F_) ?_
 refine al_val (ov_loadR (ds := [(iq u14)]) 0 rfl hp17 (at_some hu15).2.2 (fun h => h) rfl Try.underlying3 sz3 rfl rfl rfl) ?_
 refine al_nil ?_
 exact fr_fin hK_ ()⟩, ⟨_, rfl, [], rfl, by
 intro X_ Y_ F_ K_ hK_
 refine al_show (m := Mem.plus (memOf w0 Z0 [(oRow v0_0 3 tq a0)] [(oRow v0_0 3 tq l8x0)] [(fPtr (tyList tyS_api_Waste) c3_0 a3_0)]) X_ Y_) (S := over (tab [(0, v0_0), (1, (iq a1)), (2, (iq a2)), (3, (Value.func (.func 73) #[] #[c3_0])), (8, (iq l1i8)), (9, (iq l8i9))]) F_) ?_
 refine al_mv rfl rfl ?_
 refine al_nil ?_
 exact fr_fin hK_ ()⟩, ⟨_, rfl, [], rfl, by
 intro X_ Y_ F_ K_ hK_
 refine al_show (m := Mem.plus (memOf w0 Z0 [(oRow v0_0 3 tq a0)] [(oRow v0_0 3 tq l8x0)] [(fPtr (tyList tyS_api_Waste) c3_0 a3_0)]) X_ Y_) (S := over (tab [(0, v0_0), (1, (iq a1)), (2, (iq a2)), (3, (Value.func (.func 73) #[] #[c3_0])), (8, (iq l1i8)), (9, (iq l8i9))]) F_) ?_
 refine al_mv rfl rfl ?_
 refine al_nil ?_
 exact fr_fin hK_ ()⟩, ⟨_, rfl, [10, 11], rfl, by
 intro _
 intro _
 intro X_ Y_ F_ K_ hK_
 refine al_show (m := Mem.plus (memOf w0 Z0 [(oRow v0_0 3 tq a0)] [(oRow v0_0 3 tq l8x0)] [(fPtr (tyList tyS_api_Waste) c3_0 a3_0)]) X_ Y_) (S := over (put (put (tab [(0, v0_0), (1, (iq a1)), (2, (iq a2)), (3, (Value.func (.func 73) #[] #[c3_0])), (8, (iq l1i8)), (9, (iq l8i9))]) 47 v0_0) 48 (iq l8i9)) F_) ?_
 refine al_idxR 0 (at_some hu19).1 (at_some hu19).2.1 rfl rfl rfl Try.underlying49 sz3 rfl (fun p20 hp21 => ?_)
 refine al_nil ?_
 exact fr_fin hK_ ⟨p20, hp21⟩⟩, ⟨_, rfl, [12], rfl, by
 rintro ⟨p20, hp21⟩
 intro X_ Y_ F_ K_ hK_
 refine al_show (m := Mem.plus (memOf w0 Z0 [(oRow v0_0 3 tq a0)] [(oRow v0_0 3 tq l8x0)] [(fPtr (tyList tyS_api_Waste) c3_0 a3_0)]) X_ Y_) (S := over (put (tab [(0, v0_0), (1, (iq a1)), (2, (iq a2)), (3, (Value.func (.func 73) #[] #[c3_0])), (8, (iq l1i8)), (9, (iq l8i9))]) 49 p20) F_) ?_
 refine al_val (ov_loadR (ds := [(iq u18)]) 0 rfl hp21 (at_some hu19).2.2 (fun h => h) rfl Try.underlying3 sz3 rfl rfl rfl) ?_
 refine al_nil ?_
 exact fr_fin hK_ ()⟩, ⟨_, rfl, [0, 1, 5, 6, 7, 8, 9, 13], rfl, by
 intro _
 intro _
 intro _
 intro _
 intro _
 rintro ⟨p16, hp17⟩
 intro _
 intro _
 intro X_ Y_ F_ K_ hK_
 refine al_show (m := Mem.plus (memOf w0 Z0 [(oRow v0_0 3 tq a0)] [(oRow v0_0 3 tq l8x0)] [(fPtr (tyList tyS_api_Waste) c3_0 a3_0)]) X_ Y_) (S := over (put (put (put (put (put (put (put (put (tab [(0, v0_0), (1, (iq a1)), (2, (iq a2)), (3, (Value.func (.func 73) #[] #[c3_0])), (8, (iq l1i8)), (9, (iq l8i9))]) 37 v0_0) 38 (iq l8i9)) 42 v0_0) 43 (iq l8i9)) 44 (iq (wq (l8i9 - (1 : Int))))) 45 p16) 46 (iq u14)) 50 (iq u18)) F_) ?_
 refine al_idxR 0 (at_some hu23).1 (at_some hu23).2.1 rfl rfl rfl Try.underlying49 sz3 rfl (fun p24 hp25 => ?_)
 refine al_nil ?_
 exact fr_fin hK_ ⟨p24, hp25⟩⟩, trivial⟩ ?_
     intro _
     intro _
     intro _
     intro _
     intro _
     rintro ⟨p16, hp17⟩
     intro _
     intro _
     intro _
     rintro ⟨p20, hp21⟩
     intro _
     rintro ⟨p24, hp25⟩
     intro X_ Y_ F_ K_ hK_
     refine al_show (m := Mem.plus (memOf w0 Z0 [(oRow v0_0 3 tq a0)] [(oRow v0_0 3 tq l8x0)] [(fPtr (tyList tyS_api_Waste) c3_0 a3_0)]) X_ Y_) (S := over (put (put (put (put (put (put (put (put (put (put (put (put (tab [(0, v0_0), (1, (iq a1)), (2, (iq a2)), (3, (Value.func (.func 73) #[] #[c3_0])), (8, (iq l1i8)), (9, (iq l8i9))]) 37 v0_0) 38 (iq l8i9)) 42 v0_0) 43 (iq l8i9)) 44 (iq (wq (l8i9 - (1 : Int))))) 45 p16) 46 (iq u14)) 47 v0_0) 48 (iq l8i9)) 49 p20) 50 (iq u18)) 51 p24) F_) ?_
     refine al_storeR (k := (l8i9).toNat) (x := u14) (vs := [(iq u14)]) 0 rfl hp25 (idx_lt hu23) rfl rfl (cv_rfl rfl) (fun _ => rfl) sz3 rfl ?_
     refine al_nil ?_
     obtain ⟨u26, hu27, h⟩ := opt_some h
     refine aq_show (m := Mem.plus (memOf w0 Z0 [(oRow v0_0 3 tq a0)] [(oRow v0_0 3 tq (l8x0.set (l8i9).toNat u14))] [(fPtr (tyList tyS_api_Waste) c3_0 a3_0)]) X_ Y_) ?_
     refine aq_next hK_ [0] [0] [(0, v0_0), (1, (iq a1)), (2, (iq a2)), (3, (Value.func (.func 73) #[] #[c3_0])), (8, (iq l1i8)), (9, (iq l8i9)), (50, (iq u18))] [39, 40, 41] [⟨16, 52, {p : Value // EltOf v0_0 p (((wq (l8i9 - (1 : Int)))).toNat * Ty.size tq)}, fun p => { val := p.1 }⟩] rfl rfl (by decide) rfl ⟨rfl, rfl, rfl, rfl, rfl, rfl, rfl, trivial⟩ ⟨rfl, rfl, rfl, trivial⟩ ?_
     clear hK_ K_ F_ X_ Y_
     refine ta_show (m := (memOf w0 Z0 [(oRow v0_0 3 tq a0)] [(oRow v0_0 3 tq (l8x0.set (l8i9).toNat u14))] [(fPtr (tyList tyS_api_Waste) c3_0 a3_0)])) (S := (tab [(0, v0_0), (1, (iq a1)), (2, (iq a2)), (3, (Value.func (.func 73) #[] #[c3_0])), (8, (iq l1i8)), (9, (iq l8i9)), (50, (iq u18))])) ?_
     refine ta_step 17 _ [2, 3, 4, 16] [39, 40, 41, 52] [2, 3, 4, 16] [] [⟨2, 39, Unit, fun _ => { val := v0_0 }⟩, ⟨3, 40, Unit, fun _ => { val := (iq l8i9) }⟩, ⟨4, 41, Unit, fun _ => { val := (iq (wq (l8i9 - (1 : Int)))) }⟩, ⟨16, 52, {p : Value // EltOf v0_0 p (((wq (l8i9 - (1 : Int)))).toNat * Ty.size tq)}, fun p => { val := p.1 }⟩] [] rfl rfl rfl (by kernel_rfl) rfl rfl rfl ⟨⟨_, rfl, [], rfl, by
 intro X_ Y_ F_ K_ hK_
 refine al_show (m := Mem.plus (memOf w0 Z0 [(oRow v0_0 3 tq a0)] [(oRow v0_0 3 tq (l8x0.set (l8i9).toNat u14))] [(fPtr (tyList tyS_api_Waste) c3_0 a3_0)]) X_ Y_) (S := over (tab [(0, v0_0), (1, (iq a1)), (2, (iq a2)), (3, (Value.func (.func 73) #[] #[c3_0])), (8, (iq l1i8)), (9, (iq l8i9)), (50, (iq u18))]) F_) ?_
 refine al_mv rfl rfl ?_
 refine al_nil ?_
 exact fr_fin hK_ ()⟩, ⟨_, rfl, [], rfl, by
 intro X_ Y_ F_ K_ hK_
 refine al_show (m := Mem.plus (memOf w0 Z0 [(oRow v0_0 3 tq a0)] [(oRow v0_0 3 tq (l8x0.set (l8i9).toNat u14))] [(fPtr (tyList tyS_api_Waste) c3_0 a3_0)]) X_ Y_) (S := over (tab [(0, v0_0), (1, (iq a1)), (2, (iq a2)), (3, (Value.func (.func 73) #[] #[c3_0])), (8, (iq l1i8)), (9, (iq l8i9)), (50, (iq u18))]) F_) ?_
 refine al_mv rfl rfl ?_
 refine al_nil ?_
 exact fr_fin hK_ ()⟩, ⟨_, rfl, [1], rfl, by
 intro _
 intro X_ Y_ F_ K_ hK_
 refine al_show (m := Mem.plus (memOf w0 Z0 [(oRow v0_0 3 tq a0)] [(oRow v0_0 3 tq (l8x0.set (l8i9).toNat u14))] [(fPtr (tyList tyS_api_Waste) c3_0 a3_0)]) X_ Y_) (S := over (put (tab [(0, v0_0), (1, (iq a1)), (2, (iq a2)), (3, (Value.func (.func 73) #[] #[c3_0])), (8, (iq l1i8)), (9, (iq l8i9)), (50, (iq u18))]) 40 (iq l8i9)) F_) ?_
 refine al_in rfl rfl rfl rfl ?_
 refine al_nil ?_
 exact fr_fin hK_ ()⟩, ⟨_, rfl, [0, 1, 2], rfl, by
 intro _
 intro _
 intro _
 intro X_ Y_ F_ K_ hK_
 refine al_show (m := Mem.plus (memOf w0 Z0 [(oRow v0_0 3 tq a0)] [(oRow v0_0 3 tq (l8x0.set (l8i9).toNat u14))] [(fPtr (tyList tyS_api_Waste) c3_0 a3_0)]) X_ Y_) (S := over (put (put (put (tab [(0, v0_0), (1, (iq a1)), (2, (iq a2)), (3, (Value.func (.func 73) #[] #[c3_0])), (8, (iq l1i8)), (9, (iq l8i9)), (50, (iq u18))]) 39 v0_0) 40 (iq l8i9)) 41 (iq (wq (l8i9 - (1 : Int))))) F_) ?_
 refine al_idxR 0 (at_some hu27).1 (at_some hu27).2.1 rfl rfl rfl Try.underlying49 sz3 rfl (fun p28 hp29 => ?_)
 refine al_nil ?_
 exact fr_fin hK_ ⟨p28, hp29⟩⟩, trivial⟩ ?_
     intro _
     intro _
     intro _
     rintro ⟨p28, hp29⟩
     intro X_ Y_ F_ K_ hK_
     refine al_show (m := Mem.plus (memOf w0 Z0 [(oRow v0_0 3 tq a0)] [(oRow v0_0 3 tq (l8x0.set (l8i9).toNat u14))] [(fPtr (tyList tyS_api_Waste) c3_0 a3_0)]) X_ Y_) (S := over (put (put (put (put (tab [(0, v0_0), (1, (iq a1)), (2, (iq a2)), (3, (Value.func (.func 73) #[] #[c3_0])), (8, (iq l1i8)), (9, (iq l8i9)), (50, (iq u18))]) 39 v0_0) 40 (iq l8i9)) 41 (iq (wq (l8i9 - (1 : Int))))) 52 p28) F_) ?_
     refine al_storeR (k := ((wq (l8i9 - (1 : Int)))).toNat) (x := u18) (vs := [(iq u18)]) 0 rfl hp29 (idx_lt hu27) rfl rfl (cv_rfl rfl) (fun _ => rfl) sz3 rfl ?_
     refine al_nil ?_
     refine aq_show (m := Mem.plus (memOf w0 Z0 [(oRow v0_0 3 tq a0)] [(oRow v0_0 3 tq ((l8x0.set (l8i9).toNat u14).set ((wq (l8i9 - (1 : Int)))).toNat u18))] [(fPtr (tyList tyS_api_Waste) c3_0 a3_0)]) X_ Y_) ?_
     refine aq_next hK_ [0] [0] [(0, v0_0), (1, (iq a1)), (2, (iq a2)), (3, (Value.func (.func 73) #[] #[c3_0])), (8, (iq l1i8)), (9, (iq l8i9))] [] [] rfl rfl (by decide) rfl ⟨rfl, rfl, rfl, rfl, rfl, rfl, trivial⟩ trivial ?_
     clear hK_ K_ F_ X_ Y_
     refine ta_show (m := (memOf w0 Z0 [(oRow v0_0 3 tq a0)] [(oRow v0_0 3 tq ((l8x0.set (l8i9).toNat u14).set ((wq (l8i9 - (1 : Int)))).toNat u18))] [(fPtr (tyList tyS_api_Waste) c3_0 a3_0)])) (S := (tab [(0, v0_0), (1, (iq a1)), (2, (iq a2)), (3, (Value.func (.func 73) #[] #[c3_0])), (8, (iq l1i8)), (9, (iq l8i9))])) ?_
     refine ta_end [] [] rfl rfl (by kernel_rfl) rfl trivial ?_
     refine aq_show (m := (memOf w0 Z0 [(oRow v0_0 3 tq a0)] [(oRow v0_0 3 tq ((l8x0.set (l8i9).toNat u14).set ((wq (l8i9 - (1 : Int)))).toNat u18))] [(fPtr (tyList tyS_api_Waste) c3_0 a3_0)])) (S := (tab [(0, v0_0), (1, (iq a1)), (2, (iq a2)), (3, (Value.func (.func 73) #[] #[c3_0])), (8, (iq l1i8)), (9, (iq l8i9))])) ?_
     refine aq_block ?_
     refine aq_then ?_
     refine aw_region ?_
     refine al_mv rfl rfl ?_
     refine al_in rfl rfl rfl rfl ?_
     refine al_as rfl rfl ?_
     refine al_nil ?_
     exact aq_again k9 (((l8x0.set (l8i9).toNat u14).set ((wq (l8i9 - (1 : Int)))).toNat u18), (wq (l8i9 - (1 : Int)))) (Nat.lt_succ_self _) h (fun w a hm hs => norm hm hs [0] [0] [(0, v0_0), (1, (iq a1)), (2, (iq a2)), (3, (Value.func (.func 73) #[] #[c3_0])), (8, (iq l1i8)), (9, (iq (wq (l8i9 - (1 : Int)))))] (by decide) ⟨rfl, rfl, rfl, rfl, rfl, rfl, trivial⟩)
    ·replace h := bif_f hb13 h
     refine aw_exit ?_
     refine aq_then_exit ?_
     refine aq_then_exit ?_
     refine aq_block_exit ?_
     refine aq_block ?_
     exact aq_join l8x0 h (fun w a hm hs => norm hm hs [0] [0] [(0, v0_0), (1, (iq a1)), (2, (iq a2)), (3, (Value.func (.func 73) #[] #[c3_0])), (8, (iq l1i8))] (by decide) ⟨rfl, rfl, rfl, rfl, rfl, trivial⟩)
   ·clear hkk12
    rcases Bool.eq_false_or_eq_true (decide (l8i9 > a1)) with hb30 | hb30
    ·replace h := bif_t hb30 h
     obtain ⟨u31, hu32, h⟩ := opt_some h
     obtain ⟨u35, hu36, h⟩ := opt_some h
     obtain ⟨r40, hc39, h⟩ := opt_some h
     refine aw_region_draw 16 [(18, (fun u => fEq u (iq l8i9))), (19, (fun u => fEq u (iq a1))), (20, (fun u => fEq u (bool true))), (21, (fun u => fEq u (bool true))), (22, (fun u => fEq u (Value.func (.func 73) #[] #[c3_0]))), (23, (fun u => fEq u v0_0)), (24, (fun u => fEq u (iq l8i9))), (25, (fun p => fElt v0_0 p ((l8i9).toNat * Ty.size tq))), (26, (fun u => fEq u (iq u31))), (27, (fun u => fEq u v0_0)), (28, (fun u => fEq u (iq l8i9))), (29, (fun u => fEq u (iq (wq (l8i9 - (1 : Int)))))), (30, (fun p => fElt v0_0 p (((wq (l8i9 - (1 : Int)))).toNat * Ty.size tq))), (31, (fun u => fEq u (iq u35))), (32, (fun u => fEq u (iq r40))), (33, (fun u => fEq u (bool (decide (r40 < (0 : Int))))))] (tab [(0, v0_0), (1, (iq a1)), (2, (iq a2)), (3, (Value.func (.func 73) #[] #[c3_0])), (8, (iq l1i8)), (9, (iq l8i9))]) mixed (by kernel_rfl) rfl rfl rfl (fun a hs => hs.tab _ (allT_mem ⟨rfl, rfl, rfl, rfl, rfl, rfl, trivial⟩)) ⟨⟨rfl, ld_val (ov_move rfl rfl)⟩, ⟨rfl, ld_val (ov_move rfl rfl)⟩, ⟨rfl, ld_eq (j := 0) rfl rfl (ld_eq (j := 1) rfl rfl (ld_val (ov_cast (by first | rw [hb30] | rfl) (ov_int rfl rfl rfl rfl))))⟩, ⟨rfl, ld_eq (j := 2) rfl rfl (ld_val (ov_cast (by first | rw [hb30] | rfl) (ov_move rfl rfl)))⟩, ⟨rfl, ld_eq (j := 3) rfl rfl (ld_val (ov_move rfl rfl))⟩, ⟨rfl, ld_eq (j := 3) rfl rfl (ld_val (ov_move rfl rfl))⟩, ⟨rfl, ld_eq (j := 3) rfl rfl (ld_val (ov_move rfl rfl))⟩, ⟨rfl, ld_eq (j := 3) rfl rfl (ld_eq (j := 5) rfl rfl (ld_eq (j := 6) rfl rfl (ld_of (of_idxR 0 (at_some hu32).1 (at_some hu32).2.1 rfl rfl rfl Try.underlying49 sz3 rfl))))⟩, ⟨rfl, ld_eq (j := 3) rfl rfl (ld_elt (j := 7) rfl rfl (fun p33 hp34 => ld_val (ov_loadR (ds := [(iq u31)]) 0 rfl hp34 (at_some hu32).2.2 (fun h => h) rfl Try.underlying3 sz3 rfl rfl rfl)))⟩, ⟨rfl, ld_eq (j := 3) rfl rfl (ld_val (ov_move rfl rfl))⟩, ⟨rfl, ld_eq (j := 3) rfl rfl (ld_val (ov_move rfl rfl))⟩, ⟨rfl, ld_eq (j := 3) rfl rfl (ld_eq (j := 10) rfl rfl (ld_val (ov_int rfl rfl rfl rfl)))⟩, ⟨rfl, ld_eq (j := 3) rfl rfl (ld_eq (j := 9) rfl rfl (ld_eq (j := 11) rfl rfl (ld_of (of_idxR 0 (at_some hu36).1 (at_some hu36).2.1 rfl rfl rfl Try.underlying49 sz3 rfl))))⟩, ⟨rfl, ld_eq (j := 3) rfl rfl (ld_elt (j := 12) rfl rfl (fun p37 hp38 => ld_val (ov_loadR (ds := [(iq u35)]) 0 rfl hp38 (at_some hu36).2.2 (fun h => h) rfl Try.underlying3 sz3 rfl rfl rfl)))⟩, ⟨rfl, ld_eq (j := 3) rfl rfl (ld_eq (j := 4) rfl rfl (ld_eq (j := 8) rfl rfl (ld_eq (j := 13) rfl rfl (ld_callF (vs := [(iq u31), (iq u35)]) (caps := [c3_0]) (f_waste_Choose_1_ok fu u31 u35 c3_0 a3_0 hc39) rfl [] (pre_fz 0 rfl pre_nil) rfl rfl Try.func73 rfl rfl rfl))))⟩, ⟨rfl, ld_eq (j := 3) rfl rfl (ld_eq (j := 14) rfl rfl (ld_val (ov_int rfl rfl rfl rfl)))⟩, trivial⟩ ?_
     refine tl_eq 3 rfl ?_
     refine tl_eq 15 rfl ?_
     refine tl_done ?_
     refine al_val (ov_pick_t rfl rfl rfl) ?_
     refine al_nil ?_
     exact aq_join (decide (r40 < (0 : Int))) h (fun w a hm hs => norm hm hs [0] [0] [(0, v0_0), (1, (iq a1)), (2, (iq a2)), (3, (Value.func (.func 73) #[] #[c3_0])), (8, (iq l1i8)), (9, (iq l8i9)), (34, (bool (decide (r40 < (0 : Int)))))] (by decide) ⟨rfl, rfl, rfl, rfl, rfl, rfl, rfl, trivial⟩)
    ·replace h := bif_f hb30 h
     refine aw_region_draw 16 [(18, (fun u => fEq u (iq l8i9))), (19, (fun u => fEq u (iq a1))), (20, (fun u => fEq u (bool false))), (21, (fun u => fEq u (bool false))), (22, (fun u => fEq u undef)), (23, (fun u => fEq u undef)), (24, (fun u => fEq u undef)), (25, (fun u => fEq u undef)), (26, (fun u => fEq u undef)), (27, (fun u => fEq u undef)), (28, (fun u => fEq u undef)), (29, (fun u => fEq u undef)), (30, (fun u => fEq u undef)), (31, (fun u => fEq u undef)), (32, (fun u => fEq u undef)), (33, (fun u => fEq u undef))] (tab [(0, v0_0), (1, (iq a1)), (2, (iq a2)), (3, (Value.func (.func 73) #[] #[c3_0])), (8, (iq l1i8)), (9, (iq l8i9))]) mixed (by kernel_rfl) rfl rfl rfl (fun a hs => hs.tab _ (allT_mem ⟨rfl, rfl, rfl, rfl, rfl, rfl, trivial⟩)) ⟨⟨rfl, ld_val (ov_move rfl rfl)⟩, ⟨rfl, ld_val (ov_move rfl rfl)⟩, ⟨rfl, ld_eq (j := 0) rfl rfl (ld_eq (j := 1) rfl rfl (ld_val (ov_cast (by first | rw [hb30] | rfl) (ov_int rfl rfl rfl rfl))))⟩, ⟨rfl, ld_eq (j := 2) rfl rfl (ld_val (ov_cast (by first | rw [hb30] | rfl) (ov_move rfl rfl)))⟩, ⟨rfl, ld_eq (j := 3) rfl rfl (ld_skip)⟩, ⟨rfl, ld_eq (j := 3) rfl rfl (ld_skip)⟩, ⟨rfl, ld_eq (j := 3) rfl rfl (ld_skip)⟩, ⟨rfl, ld_eq (j := 3) rfl rfl (ld_skip)⟩, ⟨rfl, ld_eq (j := 3) rfl rfl (ld_skip)⟩, ⟨rfl, ld_eq (j := 3) rfl rfl (ld_skip)⟩, ⟨rfl, ld_eq (j := 3) rfl rfl (ld_skip)⟩, ⟨rfl, ld_eq (j := 3) rfl rfl (ld_skip)⟩, ⟨rfl, ld_eq (j := 3) rfl rfl (ld_skip)⟩, ⟨rfl, ld_eq (j := 3) rfl rfl (ld_skip)⟩, ⟨rfl, ld_eq (j := 3) rfl rfl (ld_skip)⟩, ⟨rfl, ld_eq (j := 3) rfl rfl (ld_skip)⟩, trivial⟩ ?_
     refine tl_eq 3 rfl ?_
     refine tl_eq 15 rfl ?_
     refine tl_done ?_
     refine al_val (ov_pick_f rfl rfl rfl) ?_
     refine al_nil ?_
     exact aq_join false h (fun w a hm hs => norm hm hs [0] [0] [(0, v0_0), (1, (iq a1)), (2, (iq a2)), (3, (Value.func (.func 73) #[] #[c3_0])), (8, (iq l1i8)), (9, (iq l8i9)), (34, (bool false))] (by decide) ⟨rfl, rfl, rfl, rfl, rfl, rfl, rfl, trivial⟩)
 ·replace h := bif_f hb5 h
  refine aw_exit ?_
  refine aq_then_exit ?_
  refine aq_then_exit ?_
  refine aq_block_exit ?_
  refine fn_end ?_
  obtain rfl := Option.some.inj h
  exact fn_ret () [0] [] rfl rfl rfl rfl (resC rfl (resN) rfl) rfl rfl rfl (by decide)
def f_slices_swapRangeCmpFunc_int__lent_F73_L3 (a1 : Int) (a2 : Int) (a3 : Int) : Nat → (List Int) → Int → Option (List Int)
  | 0, _, _ => none
  | k2 + 1, l1x0, l1i10 => (bif (decide (l1i10 < a3)) then (opt (at? l1x0 (IntKind.i64.wrap (a2 + l1i10))) fun (u5 : Int) => (opt (at? l1x0 (IntKind.i64.wrap (a1 + l1i10))) fun (u9 : Int) => (opt (at? l1x0 (IntKind.i64.wrap (a1 + l1i10))) fun (u13 : Int) => (opt (at? (l1x0.set ((IntKind.i64.wrap (a1 + l1i10))).toNat u5) (IntKind.i64.wrap (a2 + l1i10))) fun (u17 : Int) => (f_slices_swapRangeCmpFunc_int__lent_F73_L3 a1 a2 a3 k2 ((l1x0.set ((IntKind.i64.wrap (a1 + l1i10))).toNat u5).set ((IntKind.i64.wrap (a2 + l1i10))).toNat u9) (IntKind.i64.wrap (l1i10 + (1 : Int)))))))) else (some l1x0))
def f_slices_swapRangeCmpFunc_int__lent_F73 (fu : Nat) (a0 : (List Int)) (a1 : Int) (a2 : Int) (a3 : Int) (a4_0 : (List S_api_Waste)) : Option (List Int) := (f_slices_swapRangeCmpFunc_int__lent_F73_L3 a1 a2 a3 fu a0 (0 : Int))
set_option maxHeartbeats 2000000 in
set_option maxRecDepth 100000 in
theorem f_slices_swapRangeCmpFunc_int__lent_F73_ok (fu : Nat) (v0_0 : Value) (a0 : (List Int)) (a1 : Int) (a2 : Int) (a3 : Int) (c4_0 : Value) (a4_0 : (List S_api_Waste)) {r : (List Int)} (h : f_slices_swapRangeCmpFunc_int__lent_F73 fu a0 a1 a2 a3 a4_0 = some r) : FnOk Try.prog 207 [v0_0, (int .i64 a1), (int .i64 a2), (int .i64 a3), (Value.func (.func 73) #[] #[c4_0])] [(fPtr (tyList tyS_api_Waste) c4_0 a4_0)] [(oRow v0_0 3 (tyInt .i64) a0)] (fun (i : Unit) => { val := (Value.tuple #[]), own := [(oRow v0_0 3 (tyInt .i64) r)] }) := by
 unfold f_slices_swapRangeCmpFunc_int__lent_F73 at h
 refine fn_enter Try.func207 rfl Try.ntmps207 rfl (fun w0 Z0 => ?_)
 refine aw_sr ?_
 refine al_as rfl rfl ?_
 refine al_nt ?_
 refine aw_block ?_
 refine aw_state (aw_loop (ι := (List Int) × Int) (fun i => (memOf w0 Z0 [(oRow v0_0 3 tq a0)] [(oRow v0_0 3 tq i.1)] [(fPtr (tyList tyS_api_Waste) c4_0 a4_0)])) (fun i => (tab [(0, v0_0), (1, (iq a1)), (2, (iq a2)), (3, (iq a3)), (10, (iq i.2))])) (fun q i => f_slices_swapRangeCmpFunc_int__lent_F73_L3 a1 a2 a3 q i.1 i.2 = some r) ?_ fu (a0, (0 : Int)) h) (fun w a hm hs => norm hm hs [0] [0] [(0, v0_0), (1, (iq a1)), (2, (iq a2)), (3, (iq a3)), (10, (iq (0 : Int)))] (by decide) ⟨rfl, rfl, rfl, rfl, rfl, trivial⟩)
 clear h
 rintro k2 ⟨l1x0, l1i10⟩ h
 have h : f_slices_swapRangeCmpFunc_int__lent_F73_L3 a1 a2 a3 k2 l1x0 l1i10 = some r := h
 obtain _ | k2 := k2
 · rw [f_slices_swapRangeCmpFunc_int__lent_F73_L3] at h; cases h
 rw [f_slices_swapRangeCmpFunc_int__lent_F73_L3] at h
 refine aw_show (m := (memOf w0 Z0 [(oRow v0_0 3 tq a0)] [(oRow v0_0 3 tq l1x0)] [(fPtr (tyList tyS_api_Waste) c4_0 a4_0)])) (S := (tab [(0, v0_0), (1, (iq a1)), (2, (iq a2)), (3, (iq a3)), (10, (iq l1i10))])) ?_
 refine aw_seq ?_
 refine aw_sr ?_
 refine al_mv rfl rfl ?_
 refine al_mv rfl rfl ?_
 refine al_in rfl rfl rfl rfl ?_
 refine al_nt ?_
 refine aw_cond rfl (fun hb4 => ?_) (fun hb4 => ?_)
 ·replace h := bif_t hb4 h
  refine aw_skip ?_
  refine aq_then ?_
  refine aw_seq ?_
  refine aw_block ?_
  obtain ⟨u5, hu6, h⟩ := opt_some h
  obtain ⟨u9, hu10, h⟩ := opt_some h
  obtain ⟨u13, hu14, h⟩ := opt_some h
  refine aw_region_open [⟨0, 16, Unit, fun _ => { val := v0_0 }⟩, ⟨1, 17, Unit, fun _ => { val := (iq a1) }⟩, ⟨2, 18, Unit, fun _ => { val := (iq l1i10) }⟩, ⟨3, 19, Unit, fun _ => { val := (iq (wq (a1 + l1i10))) }⟩, ⟨4, 20, Unit, fun _ => { val := v0_0 }⟩, ⟨5, 21, Unit, fun _ => { val := (iq a2) }⟩, ⟨6, 22, Unit, fun _ => { val := (iq l1i10) }⟩, ⟨7, 23, Unit, fun _ => { val := (iq (wq (a2 + l1i10))) }⟩, ⟨8, 24, Unit, fun _ => { val := v0_0 }⟩, ⟨9, 25, Unit, fun _ => { val := (iq a2) }⟩, ⟨10, 26, Unit, fun _ => { val := (iq l1i10) }⟩, ⟨11, 27, Unit, fun _ => { val := (iq (wq (a2 + l1i10))) }⟩, ⟨12, 28, {p : Value // EltOf v0_0 p (((wq (a2 + l1i10))).toNat * Ty.size tq)}, fun p => { val := p.1 }⟩, ⟨13, 29, Unit, fun _ => { val := (iq u5) }⟩, ⟨14, 30, Unit, fun _ => { val := v0_0 }⟩, ⟨15, 31, Unit, fun _ => { val := (iq a1) }⟩, ⟨16, 32, Unit, fun _ => { val := (iq l1i10) }⟩, ⟨17, 33, Unit, fun _ => { val := (iq (wq (a1 + l1i10))) }⟩, ⟨18, 34, {p : Value // EltOf v0_0 p (((wq (a1 + l1i10))).toNat * Ty.size tq)}, fun p => { val := p.1 }⟩, ⟨19, 35, Unit, fun _ => { val := (iq u9) }⟩, ⟨20, 36, {p : Value // EltOf v0_0 p (((wq (a1 + l1i10))).toNat * Ty.size tq)}, fun p => { val := p.1 }⟩] (tab [(0, v0_0), (1, (iq a1)), (2, (iq a2)), (3, (iq a3)), (10, (iq l1i10))]) mixed (fun a hs => hs.tab _ (allT_mem ⟨rfl, rfl, rfl, rfl, rfl, trivial⟩)) ?_
  refine ta_show (m := (memOf w0 Z0 [(oRow v0_0 3 tq a0)] [(oRow v0_0 3 tq l1x0)] [(fPtr (tyList tyS_api_Waste) c4_0 a4_0)])) (S := (tab [(0, v0_0), (1, (iq a1)), (2, (iq a2)), (3, (iq a3)), (10, (iq l1i10))])) ?_
  refine ta_step 21 _ [0, 1, 2, 3, 4, 5, 6, 7, 8, 9, 10, 11, 12, 13, 14, 15, 16, 17, 18, 19, 20] [16, 17, 18, 19, 20, 21, 22, 23, 24, 25, 26, 27, 28, 29, 30, 31, 32, 33, 34, 35, 36] [0, 1, 2, 3, 8, 9, 10, 11, 12, 13, 14, 15, 16, 17, 18, 19, 20] [22] [⟨0, 16, Unit, fun _ => { val := v0_0 }⟩, ⟨1, 17, Unit, fun _ => { val := (iq a1) }⟩, ⟨2, 18, Unit, fun _ => { val := (iq l1i10) }⟩, ⟨3, 19, Unit, fun _ => { val := (iq (wq (a1 + l1i10))) }⟩, ⟨8, 24, Unit, fun _ => { val := v0_0 }⟩, ⟨9, 25, Unit, fun _ => { val := (iq a2) }⟩, ⟨10, 26, Unit, fun _ => { val := (iq l1i10) }⟩, ⟨11, 27, Unit, fun _ => { val := (iq (wq (a2 + l1i10))) }⟩, ⟨12, 28, {p : Value // EltOf v0_0 p (((wq (a2 + l1i10))).toNat * Ty.size tq)}, fun p => { val := p.1 }⟩, ⟨13, 29, Unit, fun _ => { val := (iq u5) }⟩, ⟨14, 30, Unit, fun _ => { val := v0_0 }⟩, ⟨15, 31, Unit, fun _ => { val := (iq a1) }⟩, ⟨16, 32, Unit, fun _ => { val := (iq l1i10) }⟩, ⟨17, 33, Unit, fun _ => { val := (iq (wq (a1 + l1i10))) }⟩, ⟨18, 34, {p : Value // EltOf v0_0 p (((wq (a1 + l1i10))).toNat * Ty.size tq)}, fun p => { val := p.1 }⟩, ⟨19, 35, Unit, fun _ => { val := (iq u9) }⟩, ⟨20, 36, {p : Value // EltOf v0_0 p (((wq (a1 + l1i10))).toNat * Ty.size tq)}, fun p => { val := p.1 }⟩] [⟨4, 20, Unit, fun _ => { val := v0_0 }⟩, ⟨5, 21, Unit, fun _ => { val := (iq a2) }⟩, ⟨6, 22, Unit, fun _ => { val := (iq l1i10) }⟩, ⟨7, 23, Unit, fun _ => { val := (iq (wq (a2 + l1i10))) }⟩] rfl rfl rfl (by kernel_rfl) rfl rfl rfl ⟨⟨_, rfl, [], rfl, by
 intro X_ Y_ F_ K_ hK_
 refine al_show (m := Mem.plus (memOf w0 Z0 [(oRow v0_0 3 tq a0)] [(oRow v0_0 3 tq l1x0)] [(fPtr (tyList tyS_api_Waste) c4_0 a4_0)]) X_ Y_) (S := over (tab [(0, v0_0), (1, (iq a1)), (2, (iq a2)), (3, (iq a3)), (10, (iq l1i10))]) F_) ?_
 refine al_mv rfl rfl ?_
 refine al_nil ?_
 exact fr_fin hK_ ()⟩, ⟨_, rfl, [], rfl, by
 intro X_ Y_ F_ K_ hK_
 refine al_show (m := Mem.plus (memOf w0 Z0 [(oRow v0_0 3 tq a0)] [(oRow v0_0 3 tq l1x0)] [(fPtr (tyList tyS_api_Waste) c4_0 a4_0)]) X_ Y_) (S := over (tab [(0, v0_0), (1, (iq a1)), (2, (iq a2)), (3, (iq a3)), (10, (iq l1i10))]) F_) ?_
 refine al_mv rfl rfl ?_
 refine al_nil ?_
 exact fr_fin hK_ ()⟩, ⟨_, rfl, [], rfl, by
 intro X_ Y_ F_ K_ hK_
 refine al_show (m := Mem.plus (memOf w0 Z0 [(oRow v0_0 3 tq a0)] [(oRow v0_0 3 tq l1x0)] [(fPtr (tyList tyS_api_Waste) c4_0 a4_0)]) X_ Y_) (S := over (tab [(0, v0_0), (1, (iq a1)), (2, (iq a2)), (3, (iq a3)), (10, (iq l1i10))]) F_) ?_
 refine al_mv rfl rfl ?_
 refine al_nil ?_
 exact fr_fin hK_ ()⟩, ⟨_, rfl, [1, 2], rfl, by
 intro _
 intro _
 intro X_ Y_ F_ K_ hK_
 refine al_show (m := Mem.plus (memOf w0 Z0 [(oRow v0_0 3 tq a0)] [(oRow v0_0 3 tq l1x0)] [(fPtr (tyList tyS_api_Waste) c4_0 a4_0)]) X_ Y_) (S := over (put (put (tab [(0, v0_0), (1, (iq a1)), (2, (iq a2)), (3, (iq a3)), (10, (iq l1i10))]) 17 (iq a1)) 18 (iq l1i10)) F_) ?_
 refine al_in rfl rfl rfl rfl ?_
 refine al_nil ?_
 exact fr_fin hK_ ()⟩, ⟨_, rfl, [], rfl, by
 intro X_ Y_ F_ K_ hK_
 refine al_show (m := Mem.plus (memOf w0 Z0 [(oRow v0_0 3 tq a0)] [(oRow v0_0 3 tq l1x0)] [(fPtr (tyList tyS_api_Waste) c4_0 a4_0)]) X_ Y_) (S := over (tab [(0, v0_0), (1, (iq a1)), (2, (iq a2)), (3, (iq a3)), (10, (iq l1i10))]) F_) ?_
 refine al_mv rfl rfl ?_
 refine al_nil ?_
 exact fr_fin hK_ ()⟩, ⟨_, rfl, [], rfl, by
 intro X_ Y_ F_ K_ hK_
 refine al_show (m := Mem.plus (memOf w0 Z0 [(oRow v0_0 3 tq a0)] [(oRow v0_0 3 tq l1x0)] [(fPtr (tyList tyS_api_Waste) c4_0 a4_0)]) X_ Y_) (S := over (tab [(0, v0_0), (1, (iq a1)), (2, (iq a2)), (3, (iq a3)), (10, (iq l1i10))]) F_) ?_
 refine al_mv rfl rfl ?_
 refine al_nil ?_
 exact fr_fin hK_ ()⟩, ⟨_, rfl, [], rfl, by
 intro X_ Y_ F_ K_ hK_
 refine al_show (m := Mem.plus (memOf w0 Z0 [(oRow v0_0 3 tq a0)] [(oRow v0_0 3 tq l1x0)] [(fPtr (tyList tyS_api_Waste) c4_0 a4_0)]) X_ Y_) (S := over (tab [(0, v0_0), (1, (iq a1)), (2, (iq a2)), (3, (iq a3)), (10, (iq l1i10))]) F_) ?_
 refine al_mv rfl rfl ?_
 refine al_nil ?_
 exact fr_fin hK_ ()⟩, ⟨_, rfl, [5, 6], rfl, by
 intro _
 intro _
 intro X_ Y_ F_ K_ hK_
 refine al_show (m := Mem.plus (memOf w0 Z0 [(oRow v0_0 3 tq a0)] [(oRow v0_0 3 tq l1x0)] [(fPtr (tyList tyS_api_Waste) c4_0 a4_0)]) X_ Y_) (S := over (put (put (tab [(0, v0_0), (1, (iq a1)), (2, (iq a2)), (3, (iq a3)), (10, (iq l1i10))]) 21 (iq a2)) 22 (iq l1i10)) F_) ?_
 refine al_in rfl rfl rfl rfl ?_
 refine al_nil ?_
 exact fr_fin hK_ ()⟩, ⟨_, rfl, [], rfl, by
 intro X_ Y_ F_ K_ hK_
 refine al_show (m := Mem.plus (memOf w0 Z0 [(oRow v0_0 3 tq a0)] [(oRow v0_0 3 tq l1x0)] [(fPtr (tyList tyS_api_Waste) c4_0 a4_0)]) X_ Y_) (S := over (tab [(0, v0_0), (1, (iq a1)), (2, (iq a2)), (3, (iq a3)), (10, (iq l1i10))]) F_) ?_
 refine al_mv rfl rfl ?_
 refine al_nil ?_
 exact fr_fin hK_ ()⟩, ⟨_, rfl, [], rfl, by
 intro X_ Y_ F_ K_ hK_
 refine al_show (m := Mem.plus (memOf w0 Z0 [(oRow v0_0 3 tq a0)] [(oRow v0_0 3 tq l1x0)] [(fPtr (tyList tyS_api_Waste) c4_0 a4_0)]) X_ Y_) (S := over (tab [(0, v0_0), (1, (iq a1)), (2, (iq a2)), (3, (iq a3)), (10, (iq l1i10))]) F_) ?_
 refine al_mv rfl rfl ?_
 refine al_nil ?_
 exact fr_fin hK_ ()⟩, ⟨_, rfl, [], rfl, by
 intro X_ Y_ F_ K_ hK_
 refine al_show (m := Mem.plus (memOf w0 Z0 [(oRow v0_0 3 tq a0)] [(oRow v0_0 3 tq l1x0)] [(fPtr (tyList tyS_api_Waste) c4_0 a4_0)]) X_ Y_) (S := over (tab [(0, v0_0), (1, (iq a1)), (2, (iq a2)), (3, (iq a3)), (10, (iq l1i10))]) F_) ?_
 refine al_mv rfl rfl ?_
 refine al_nil ?_
 exact fr_fin hK_ ()⟩, ⟨_, rfl, [9, 10], rfl, by
 intro _
 intro _
 intro X_ Y_ F_ K_ hK_
 refine al_show (m := Mem.plus (memOf w0 Z0 [(oRow v0_0 3 tq a0)] [(oRow v0_0 3 tq l1x0)] [(fPtr (tyList tyS_api_Waste) c4_0 a4_0)]) X_ Y_) (S := over (put (put (tab [(0, v0_0), (1, (iq a1)), (2, (iq a2)), (3, (iq a3)), (10, (iq l1i10))]) 25 (iq a2)) 26 (iq l1i10)) F_) ?_
 refine al_in rfl rfl rfl rfl ?_
 refine al_nil ?_
 exact fr_fin hK_ ()⟩, ⟨_, rfl, [8, 11], rfl, by
 intro _
 intro _
 intro X_ Y_ F_ K_ hK_
 refine al_show (m := Mem.plus (memOf w0 Z0 [(oRow v0_0 3 tq a0)] [(oRow v0_0 3 tq l1x0)] [(fPtr (tyList tyS_api_Waste) c4_0 a4_0)]) X_ Y_) (S := over (put (put (tab [(0, v0_0), (1, (iq a1)), (2, (iq a2)), (3, (iq a3)), (10, (iq l1i10))]) 24 v0_0) 27 (iq (wq (a2 + l1i10)))) F_) ?_
 refine al_idxR 0 (at_some hu6).1 (at_some hu6).2.1 rfl rfl rfl Try.underlying49 sz3 rfl (fun p7 hp8 => ?_)
 refine al_nil ?_
 exact fr_fin hK_ ⟨p7, hp8⟩⟩, ⟨_, rfl, [12], rfl, by
 rintro ⟨p7, hp8⟩
 intro X_ Y_ F_ K_ hK_
 refine al_show (m := Mem.plus (memOf w0 Z0 [(oRow v0_0 3 tq a0)] [(oRow v0_0 3 tq l1x0)] [(fPtr (tyList tyS_api_Waste) c4_0 a4_0)]) X_ Y_) (S := over (put (tab [(0, v0_0), (1, (iq a1)), (2, (iq a2)), (3, (iq a3)), (10, (iq l1i10))]) 28 p7) F_) ?_
 refine al_val (ov_loadR (ds := [(iq u5)]) 0 rfl hp8 (at_some hu6).2.2 (fun h => h) rfl Try.underlying3 sz3 rfl rfl rfl) ?_
 refine al_nil ?_
 exact fr_fin hK_ ()⟩, ⟨_, rfl, [], rfl, by
 intro X_ Y_ F_ K_ hK_
 refine al_show (m := Mem.plus (memOf w0 Z0 [(oRow v0_0 3 tq a0)] [(oRow v0_0 3 tq l1x0)] [(fPtr (tyList tyS_api_Waste) c4_0 a4_0)]) X_ Y_) (S := over (tab [(0, v0_0), (1, (iq a1)), (2, (iq a2)), (3, (iq a3)), (10, (iq l1i10))]) F_) ?_
 refine al_mv rfl rfl ?_
 refine al_nil ?_
 exact fr_fin hK_ ()⟩, ⟨_, rfl, [], rfl, by
 intro X_ Y_ F_ K_ hK_
 refine al_show (m := Mem.plus (memOf w0 Z0 [(oRow v0_0 3 tq a0)] [(oRow v0_0 3 tq l1x0)] [(fPtr (tyList tyS_api_Waste) c4_0 a4_0)]) X_ Y_) (S := over (tab [(0, v0_0), (1, (iq a1)), (2, (iq a2)), (3, (iq a3)), (10, (iq l1i10))]) F_) ?_
 refine al_mv rfl rfl ?_
 refine al_nil ?_
 exact fr_fin hK_ ()⟩, ⟨_, rfl, [], rfl, by
 intro X_ Y_ F_ K_ hK_
 refine al_show (m := Mem.plus (memOf w0 Z0 [(oRow v0_0 3 tq a0)] [(oRow v0_0 3 tq l1x0)] [(fPtr (tyList tyS_api_Waste) c4_0 a4_0)]) X_ Y_) (S := over (tab [(0, v0_0), (1, (iq a1)), (2, (iq a2)), (3, (iq a3)), (10, (iq l1i10))]) F_) ?_
 refine al_mv rfl rfl ?_
 refine al_nil ?_
 exact fr_fin hK_ ()⟩, ⟨_, rfl, [15, 16], rfl, by
 intro _
 intro _
 intro X_ Y_ F_ K_ hK_
 refine al_show (m := Mem.plus (memOf w0 Z0 [(oRow v0_0 3 tq a0)] [(oRow v0_0 3 tq l1x0)] [(fPtr (tyList tyS_api_Waste) c4_0 a4_0)]) X_ Y_) (S := over (put (put (tab [(0, v0_0), (1, (iq a1)), (2, (iq a2)), (3, (iq a3)), (10, (iq l1i10))]) 31 (iq a1)) 32 (iq l1i10)) F_) ?_
 refine al_in rfl rfl rfl rfl ?_
 refine al_nil ?_
 exact fr_fin hK_ ()⟩, ⟨_, rfl, [14, 17], rfl, by
 intro _
 intro _
 intro X_ Y_ F_ K_ hK_
 refine al_show (m := Mem.plus (memOf w0 Z0 [(oRow v0_0 3 tq a0)] [(oRow v0_0 3 tq l1x0)] [(fPtr (tyList tyS_api_Waste) c4_0 a4_0)]) X_ Y_) (S := over (put (put (tab [(0, v0_0), (1, (iq a1)), (2, (iq a2)), (3, (iq a3)), (10, (iq l1i10))]) 30 v0_0) 33 (iq (wq (a1 + l1i10)))) F_) ?_
 refine al_idxR 0 (at_some hu10).1 (at_some hu10).2.1 rfl rfl rfl Try.underlying49 sz3 rfl (fun p11 hp12 => ?_)
 refine al_nil ?_
 exact fr_fin hK_ ⟨p11, hp12⟩⟩, ⟨_, rfl, [18], rfl, by
 rintro ⟨p11, hp12⟩
 intro X_ Y_ F_ K_ hK_
 refine al_show (m := Mem.plus (memOf w0 Z0 [(oRow v0_0 3 tq a0)] [(oRow v0_0 3 tq l1x0)] [(fPtr (tyList tyS_api_Waste) c4_0 a4_0)]) X_ Y_) (S := over (put (tab [(0, v0_0), (1, (iq a1)), (2, (iq a2)), (3, (iq a3)), (10, (iq l1i10))]) 34 p11) F_) ?_
 refine al_val (ov_loadR (ds := [(iq u9)]) 0 rfl hp12 (at_some hu10).2.2 (fun h => h) rfl Try.underlying3 sz3 rfl rfl rfl) ?_
 refine al_nil ?_
 exact fr_fin hK_ ()⟩, ⟨_, rfl, [0, 1, 2, 3, 8, 9, 10, 11, 12, 13, 19], rfl, by
 intro _
 intro _
 intro _
 intro _
 intro _
 intro _
 intro _
 intro _
 rintro ⟨p7, hp8⟩
 intro _
 intro _
 intro X_ Y_ F_ K_ hK_
 refine al_show (m := Mem.plus (memOf w0 Z0 [(oRow v0_0 3 tq a0)] [(oRow v0_0 3 tq l1x0)] [(fPtr (tyList tyS_api_Waste) c4_0 a4_0)]) X_ Y_) (S := over (put (put (put (put (put (put (put (put (put (put (put (tab [(0, v0_0), (1, (iq a1)), (2, (iq a2)), (3, (iq a3)), (10, (iq l1i10))]) 16 v0_0) 17 (iq a1)) 18 (iq l1i10)) 19 (iq (wq (a1 + l1i10)))) 24 v0_0) 25 (iq a2)) 26 (iq l1i10)) 27 (iq (wq (a2 + l1i10)))) 28 p7) 29 (iq u5)) 35 (iq u9)) F_) ?_
 refine al_idxR 0 (at_some hu14).1 (at_some hu14).2.1 rfl rfl rfl Try.underlying49 sz3 rfl (fun p15 hp16 => ?_)
 refine al_nil ?_
 exact fr_fin hK_ ⟨p15, hp16⟩⟩, trivial⟩ ?_
  intro _
  intro _
  intro _
  intro _
  intro _
  intro _
  intro _
  intro _
  rintro ⟨p7, hp8⟩
  intro _
  intro _
  intro _
  intro _
  intro _
  rintro ⟨p11, hp12⟩
  intro _
  rintro ⟨p15, hp16⟩
  intro X_ Y_ F_ K_ hK_
  refine al_show (m := Mem.plus (memOf w0 Z0 [(oRow v0_0 3 tq a0)] [(oRow v0_0 3 tq l1x0)] [(fPtr (tyList tyS_api_Waste) c4_0 a4_0)]) X_ Y_) (S := over (put (put (put (put (put (put (put (put (put (put (put (put (put (put (put (put (put (tab [(0, v0_0), (1, (iq a1)), (2, (iq a2)), (3, (iq a3)), (10, (iq l1i10))]) 16 v0_0) 17 (iq a1)) 18 (iq l1i10)) 19 (iq (wq (a1 + l1i10)))) 24 v0_0) 25 (iq a2)) 26 (iq l1i10)) 27 (iq (wq (a2 + l1i10)))) 28 p7) 29 (iq u5)) 30 v0_0) 31 (iq a1)) 32 (iq l1i10)) 33 (iq (wq (a1 + l1i10)))) 34 p11) 35 (iq u9)) 36 p15) F_) ?_
  refine al_storeR (k := ((wq (a1 + l1i10))).toNat) (x := u5) (vs := [(iq u5)]) 0 rfl hp16 (idx_lt hu14) rfl rfl (cv_rfl rfl) (fun _ => rfl) sz3 rfl ?_
  refine al_nil ?_
  obtain ⟨u17, hu18, h⟩ := opt_some h
  refine aq_show (m := Mem.plus (memOf w0 Z0 [(oRow v0_0 3 tq a0)] [(oRow v0_0 3 tq (l1x0.set ((wq (a1 + l1i10))).toNat u5))] [(fPtr (tyList tyS_api_Waste) c4_0 a4_0)]) X_ Y_) ?_
  refine aq_next hK_ [0] [0] [(0, v0_0), (1, (iq a1)), (2, (iq a2)), (3, (iq a3)), (10, (iq l1i10)), (35, (iq u9))] [20, 21, 22, 23] [⟨22, 37, {p : Value // EltOf v0_0 p (((wq (a2 + l1i10))).toNat * Ty.size tq)}, fun p => { val := p.1 }⟩] rfl rfl (by decide) rfl ⟨rfl, rfl, rfl, rfl, rfl, rfl, trivial⟩ ⟨rfl, rfl, rfl, rfl, trivial⟩ ?_
  clear hK_ K_ F_ X_ Y_
  refine ta_show (m := (memOf w0 Z0 [(oRow v0_0 3 tq a0)] [(oRow v0_0 3 tq (l1x0.set ((wq (a1 + l1i10))).toNat u5))] [(fPtr (tyList tyS_api_Waste) c4_0 a4_0)])) (S := (tab [(0, v0_0), (1, (iq a1)), (2, (iq a2)), (3, (iq a3)), (10, (iq l1i10)), (35, (iq u9))])) ?_
  refine ta_step 23 _ [4, 5, 6, 7, 22] [20, 21, 22, 23, 37] [4, 5, 6, 7, 22] [] [⟨4, 20, Unit, fun _ => { val := v0_0 }⟩, ⟨5, 21, Unit, fun _ => { val := (iq a2) }⟩, ⟨6, 22, Unit, fun _ => { val := (iq l1i10) }⟩, ⟨7, 23, Unit, fun _ => { val := (iq (wq (a2 + l1i10))) }⟩, ⟨22, 37, {p : Value // EltOf v0_0 p (((wq (a2 + l1i10))).toNat * Ty.size tq)}, fun p => { val := p.1 }⟩] [] rfl rfl rfl (by kernel_rfl) rfl rfl rfl ⟨⟨_, rfl, [], rfl, by
 intro X_ Y_ F_ K_ hK_
 refine al_show (m := Mem.plus (memOf w0 Z0 [(oRow v0_0 3 tq a0)] [(oRow v0_0 3 tq (l1x0.set ((wq (a1 + l1i10))).toNat u5))] [(fPtr (tyList tyS_api_Waste) c4_0 a4_0)]) X_ Y_) (S := over (tab [(0, v0_0), (1, (iq a1)), (2, (iq a2)), (3, (iq a3)), (10, (iq l1i10)), (35, (iq u9))]) F_) ?_
 refine al_mv rfl rfl ?_
 refine al_nil ?_
 exact fr_fin hK_ ()⟩, ⟨_, rfl, [], rfl, by
 intro X_ Y_ F_ K_ hK_
 refine al_show (m := Mem.plus (memOf w0 Z0 [(oRow v0_0 3 tq a0)] [(oRow v0_0 3 tq (l1x0.set ((wq (a1 + l1i10))).toNat u5))] [(fPtr (tyList tyS_api_Waste) c4_0 a4_0)]) X_ Y_) (S := over (tab [(0, v0_0), (1, (iq a1)), (2, (iq a2)), (3, (iq a3)), (10, (iq l1i10)), (35, (iq u9))]) F_) ?_
 refine al_mv rfl rfl ?_
 refine al_nil ?_
 exact fr_fin hK_ ()⟩, ⟨_, rfl, [], rfl, by
 intro X_ Y_ F_ K_ hK_
 refine al_show (m := Mem.plus (memOf w0 Z0 [(oRow v0_0 3 tq a0)] [(oRow v0_0 3 tq (l1x0.set ((wq (a1 + l1i10))).toNat u5))] [(fPtr (tyList tyS_api_Waste) c4_0 a4_0)]) X_ Y_) (S := over (tab [(0, v0_0), (1, (iq a1)), (2, (iq a2)), (3, (iq a3)), (10, (iq l1i10)), (35, (iq u9))]) F_) ?_
 refine al_mv rfl rfl ?_
 refine al_nil ?_
 exact fr_fin hK_ ()⟩, ⟨_, rfl, [1, 2], rfl, by
 intro _
 intro _
 intro X_ Y_ F_ K_ hK_
 refine al_show (m := Mem.plus (memOf w0 Z0 [(oRow v0_0 3 tq a0)] [(oRow v0_0 3 tq (l1x0.set ((wq (a1 + l1i10))).toNat u5))] [(fPtr (tyList tyS_api_Waste) c4_0 a4_0)]) X_ Y_) (S := over (put (put (tab [(0, v0_0), (1, (iq a1)), (2, (iq a2)), (3, (iq a3)), (10, (iq l1i10)), (35, (iq u9))]) 21 (iq a2)) 22 (iq l1i10)) F_) ?_
 refine al_in rfl rfl rfl rfl ?_
 refine al_nil ?_
 exact fr_fin hK_ ()⟩, ⟨_, rfl, [0, 1, 2, 3], rfl, by
 intro _
 intro _
 intro _
 intro _
 intro X_ Y_ F_ K_ hK_
 refine al_show (m := Mem.plus (memOf w0 Z0 [(oRow v0_0 3 tq a0)] [(oRow v0_0 3 tq (l1x0.set ((wq (a1 + l1i10))).toNat u5))] [(fPtr (tyList tyS_api_Waste) c4_0 a4_0)]) X_ Y_) (S := over (put (put (put (put (tab [(0, v0_0), (1, (iq a1)), (2, (iq a2)), (3, (iq a3)), (10, (iq l1i10)), (35, (iq u9))]) 20 v0_0) 21 (iq a2)) 22 (iq l1i10)) 23 (iq (wq (a2 + l1i10)))) F_) ?_
 refine al_idxR 0 (at_some hu18).1 (at_some hu18).2.1 rfl rfl rfl Try.underlying49 sz3 rfl (fun p19 hp20 => ?_)
 refine al_nil ?_
 exact fr_fin hK_ ⟨p19, hp20⟩⟩, trivial⟩ ?_
  intro _
  intro _
  intro _
  intro _
  rintro ⟨p19, hp20⟩
  intro X_ Y_ F_ K_ hK_
  refine al_show (m := Mem.plus (memOf w0 Z0 [(oRow v0_0 3 tq a0)] [(oRow v0_0 3 tq (l1x0.set ((wq (a1 + l1i10))).toNat u5))] [(fPtr (tyList tyS_api_Waste) c4_0 a4_0)]) X_ Y_) (S := over (put (put (put (put (put (tab [(0, v0_0), (1, (iq a1)), (2, (iq a2)), (3, (iq a3)), (10, (iq l1i10)), (35, (iq u9))]) 20 v0_0) 21 (iq a2)) 22 (iq l1i10)) 23 (iq (wq (a2 + l1i10)))) 37 p19) F_) ?_
  refine al_storeR (k := ((wq (a2 + l1i10))).toNat) (x := u9) (vs := [(iq u9)]) 0 rfl hp20 (idx_lt hu18) rfl rfl (cv_rfl rfl) (fun _ => rfl) sz3 rfl ?_
  refine al_nil ?_
  refine aq_show (m := Mem.plus (memOf w0 Z0 [(oRow v0_0 3 tq a0)] [(oRow v0_0 3 tq ((l1x0.set ((wq (a1 + l1i10))).toNat u5).set ((wq (a2 + l1i10))).toNat u9))] [(fPtr (tyList tyS_api_Waste) c4_0 a4_0)]) X_ Y_) ?_
  refine aq_next hK_ [0] [0] [(0, v0_0), (1, (iq a1)), (2, (iq a2)), (3, (iq a3)), (10, (iq l1i10))] [] [] rfl rfl (by decide) rfl ⟨rfl, rfl, rfl, rfl, rfl, trivial⟩ trivial ?_
  clear hK_ K_ F_ X_ Y_
  refine ta_show (m := (memOf w0 Z0 [(oRow v0_0 3 tq a0)] [(oRow v0_0 3 tq ((l1x0.set ((wq (a1 + l1i10))).toNat u5).set ((wq (a2 + l1i10))).toNat u9))] [(fPtr (tyList tyS_api_Waste) c4_0 a4_0)])) (S := (tab [(0, v0_0), (1, (iq a1)), (2, (iq a2)), (3, (iq a3)), (10, (iq l1i10))])) ?_
  refine ta_end [] [] rfl rfl (by kernel_rfl) rfl trivial ?_
  refine aq_show (m := (memOf w0 Z0 [(oRow v0_0 3 tq a0)] [(oRow v0_0 3 tq ((l1x0.set ((wq (a1 + l1i10))).toNat u5).set ((wq (a2 + l1i10))).toNat u9))] [(fPtr (tyList tyS_api_Waste) c4_0 a4_0)])) (S := (tab [(0, v0_0), (1, (iq a1)), (2, (iq a2)), (3, (iq a3)), (10, (iq l1i10))])) ?_
  refine aq_block ?_
  refine aq_then ?_
  refine aw_region ?_
  refine al_mv rfl rfl ?_
  refine al_in rfl rfl rfl rfl ?_
  refine al_as rfl rfl ?_
  refine al_nil ?_
  exact aq_again k2 (((l1x0.set ((wq (a1 + l1i10))).toNat u5).set ((wq (a2 + l1i10))).toNat u9), (wq (l1i10 + (1 : Int)))) (Nat.lt_succ_self _) h (fun w a hm hs => norm hm hs [0] [0] [(0, v0_0), (1, (iq a1)), (2, (iq a2)), (3, (iq a3)), (10, (iq (wq (l1i10 + (1 : Int)))))] (by decide) ⟨rfl, rfl, rfl, rfl, rfl, trivial⟩)
 ·replace h := bif_f hb4 h
  refine aw_exit ?_
  refine aq_then_exit ?_
  refine aq_then_exit ?_
  refine aq_block_exit ?_
  refine fn_end ?_
  obtain rfl := Option.some.inj h
  exact fn_ret () [0] [] rfl rfl rfl rfl (resC rfl (resN) rfl) rfl rfl rfl (by decide)
def f_slices_rotateCmpFunc_int__lent_F73_L7 (a2 : Int) (a4_0 : (List S_api_Waste)) (kk2 : ((List Int) → Int → Option (List Int))) (fu : Nat) : Nat → (List Int) → Int → Int → Option (List Int)
  | 0, _, _, _ => none
  | k6 + 1, l5x0, l5i10, l5i11 => (bif (l5i10 != l5i11) then (bif (decide (l5i10 > l5i11)) then (opt (f_slices_swapRangeCmpFunc_int__lent_F73 fu l5x0 (IntKind.i64.wrap (a2 - l5i10)) a2 l5i11 a4_0) fun (r11 : (List Int)) => (f_slices_rotateCmpFunc_int__lent_F73_L7 a2 a4_0 kk2 fu k6 r11 (IntKind.i64.wrap (l5i10 - l5i11)) l5i11)) else (opt (f_slices_swapRangeCmpFunc_int__lent_F73 fu l5x0 (IntKind.i64.wrap (a2 - l5i10)) (IntKind.i64.wrap ((IntKind.i64.wrap (a2 + l5i11)) - l5i10)) l5i10 a4_0) fun (r13 : (List Int)) => (f_slices_rotateCmpFunc_int__lent_F73_L7 a2 a4_0 kk2 fu k6 r13 l5i10 (IntKind.i64.wrap (l5i11 - l5i10))))) else (kk2 l5x0 l5i10))
def f_slices_rotateCmpFunc_int__lent_F73 (fu : Nat) (a0 : (List Int)) (a1 : Int) (a2 : Int) (a3 : Int) (a4_0 : (List S_api_Waste)) : Option (List Int) := (lt (fun (j1x0 : (List Int)) (j1i10 : Int) => (opt (f_slices_swapRangeCmpFunc_int__lent_F73 fu j1x0 (IntKind.i64.wrap (a2 - j1i10)) a2 j1i10 a4_0) fun (r4 : (List Int)) => (some r4))) fun (kk2 : (List Int) → Int → Option (List Int)) => (f_slices_rotateCmpFunc_int__lent_F73_L7 a2 a4_0 kk2 fu fu a0 (IntKind.i64.wrap (a2 - a1)) (IntKind.i64.wrap (a3 - a2))))
set_option maxHeartbeats 2000000 in
set_option maxRecDepth 100000 in
theorem f_slices_rotateCmpFunc_int__lent_F73_ok (fu : Nat) (v0_0 : Value) (a0 : (List Int)) (a1 : Int) (a2 : Int) (a3 : Int) (c4_0 : Value) (a4_0 : (List S_api_Waste)) {r : (List Int)} (h : f_slices_rotateCmpFunc_int__lent_F73 fu a0 a1 a2 a3 a4_0 = some r) : FnOk Try.prog 195 [v0_0, (int .i64 a1), (int .i64 a2), (int .i64 a3), (Value.func (.func 73) #[] #[c4_0])] [(fPtr (tyList tyS_api_Waste) c4_0 a4_0)] [(oRow v0_0 3 (tyInt .i64) a0)] (fun (i : Unit) => { val := (Value.tuple #[]), own := [(oRow v0_0 3 (tyInt .i64) r)] }) := by
 unfold f_slices_rotateCmpFunc_int__lent_F73 at h
 refine fn_enter Try.func195 rfl Try.ntmps195 rfl (fun w0 Z0 => ?_)
 refine aw_sr ?_
 refine al_mv rfl rfl ?_
 refine al_mv rfl rfl ?_
 refine al_in rfl rfl rfl rfl ?_
 refine al_as rfl rfl ?_
 refine al_nt ?_
 refine aw_sr ?_
 refine al_mv rfl rfl ?_
 refine al_mv rfl rfl ?_
 refine al_in rfl rfl rfl rfl ?_
 refine al_as rfl rfl ?_
 refine al_nt ?_
 obtain ⟨kk2, hkk2, h⟩ := lt_some h
 refine aw_seq_join (ι := (List Int) × Int) (fun i => (memOf w0 Z0 [(oRow v0_0 3 tq a0)] [(oRow v0_0 3 tq i.1)] [(fPtr (tyList tyS_api_Waste) c4_0 a4_0)])) (fun i => (tab [(0, v0_0), (2, (iq a2)), (4, (Value.func (.func 73) #[] #[c4_0])), (10, (iq i.2))])) (fun i => kk2 i.1 i.2 = some r) ?_ ?_
 ·rintro ⟨j1x0, j1i10⟩ h
  have h : kk2 j1x0 j1i10 = some r := h
  rw [hkk2] at h
  dsimp only at h
  clear hkk2
  refine aw_show (m := (memOf w0 Z0 [(oRow v0_0 3 tq a0)] [(oRow v0_0 3 tq j1x0)] [(fPtr (tyList tyS_api_Waste) c4_0 a4_0)])) (S := (tab [(0, v0_0), (2, (iq a2)), (4, (Value.func (.func 73) #[] #[c4_0])), (10, (iq j1i10))])) ?_
  refine aw_region ?_
  refine al_mv rfl rfl ?_
  refine al_mv rfl rfl ?_
  refine al_mv rfl rfl ?_
  refine al_in rfl rfl rfl rfl ?_
  refine al_mv rfl rfl ?_
  refine al_mv rfl rfl ?_
  refine al_mv rfl rfl ?_
  obtain ⟨r4, hc3, h⟩ := opt_some h
  refine al_call (vs := [v0_0, (iq (wq (a2 - j1i10))), (iq a2), (iq j1i10), (Value.func (.func 73) #[] #[c4_0])]) (f_slices_swapRangeCmpFunc_int__lent_F73_ok fu v0_0 j1x0 (wq (a2 - j1i10)) a2 j1i10 c4_0 a4_0 hc3) [] [0] [] (pre_fz 0 rfl pre_nil) rfl (by simp) (by decide) (.inl rfl) rfl Try.func207 rfl rfl rfl (fun _ => ?_)
  refine al_nil ?_
  refine fn_end ?_
  obtain rfl := Option.some.inj h
  exact fn_ret () [0] [] rfl rfl rfl rfl (resC rfl (resN) rfl) rfl rfl rfl (by decide)
 ·clear hkk2
  refine aw_block ?_
  refine aw_state (aw_loop (ι := (List Int) × Int × Int) (fun i => (memOf w0 Z0 [(oRow v0_0 3 tq a0)] [(oRow v0_0 3 tq i.1)] [(fPtr (tyList tyS_api_Waste) c4_0 a4_0)])) (fun i => (tab [(0, v0_0), (2, (iq a2)), (4, (Value.func (.func 73) #[] #[c4_0])), (10, (iq i.2.1)), (11, (iq i.2.2))])) (fun q i => f_slices_rotateCmpFunc_int__lent_F73_L7 a2 a4_0 kk2 fu q i.1 i.2.1 i.2.2 = some r) ?_ fu (a0, (wq (a2 - a1)), (wq (a3 - a2))) h) (fun w a hm hs => norm hm hs [0] [0] [(0, v0_0), (2, (iq a2)), (4, (Value.func (.func 73) #[] #[c4_0])), (10, (iq (wq (a2 - a1)))), (11, (iq (wq (a3 - a2))))] (by decide) ⟨rfl, rfl, rfl, rfl, rfl, trivial⟩)
  clear h
  rintro k6 ⟨l5x0, l5i10, l5i11⟩ h
  have h : f_slices_rotateCmpFunc_int__lent_F73_L7 a2 a4_0 kk2 fu k6 l5x0 l5i10 l5i11 = some r := h
  obtain _ | k6 := k6
  · rw [f_slices_rotateCmpFunc_int__lent_F73_L7] at h; cases h
  rw [f_slices_rotateCmpFunc_int__lent_F73_L7] at h
  refine aw_show (m := (memOf w0 Z0 [(oRow v0_0 3 tq a0)] [(oRow v0_0 3 tq l5x0)] [(fPtr (tyList tyS_api_Waste) c4_0 a4_0)])) (S := (tab [(0, v0_0), (2, (iq a2)), (4, (Value.func (.func 73) #[] #[c4_0])), (10, (iq l5i10)), (11, (iq l5i11))])) ?_
  refine aw_seq ?_
  refine aw_sr ?_
  refine al_mv rfl rfl ?_
  refine al_mv rfl rfl ?_
  refine al_in rfl rfl rfl rfl ?_
  refine al_nt ?_
  refine aw_cond rfl (fun hb8 => ?_) (fun hb8 => ?_)
  ·replace h := bif_t hb8 h
   refine aw_skip ?_
   refine aq_then ?_
   refine aw_block ?_
   refine aw_sr ?_
   refine al_mv rfl rfl ?_
   refine al_mv rfl rfl ?_
   refine al_in rfl rfl rfl rfl ?_
   refine al_nt ?_
   refine aw_cond rfl (fun hb9 => ?_) (fun hb9 => ?_)
   ·replace h := bif_t hb9 h
    refine aw_sr ?_
    refine al_mv rfl rfl ?_
    refine al_mv rfl rfl ?_
    refine al_mv rfl rfl ?_
    refine al_in rfl rfl rfl rfl ?_
    refine al_mv rfl rfl ?_
    refine al_mv rfl rfl ?_
    refine al_mv rfl rfl ?_
    obtain ⟨r11, hc10, h⟩ := opt_some h
    refine al_call (vs := [v0_0, (iq (wq (a2 - l5i10))), (iq a2), (iq l5i11), (Value.func (.func 73) #[] #[c4_0])]) (f_slices_swapRangeCmpFunc_int__lent_F73_ok fu v0_0 l5x0 (wq (a2 - l5i10)) a2 l5i11 c4_0 a4_0 hc10) [] [0] [] (pre_fz 0 rfl pre_nil) rfl (by simp) (by decide) (.inl rfl) rfl Try.func207 rfl rfl rfl (fun _ => ?_)
    refine al_nt ?_
    refine aw_region ?_
    refine al_mv rfl rfl ?_
    refine al_mv rfl rfl ?_
    refine al_in rfl rfl rfl rfl ?_
    refine al_as rfl rfl ?_
    refine al_nil ?_
    refine aq_block ?_
    exact aq_again k6 (r11, (wq (l5i10 - l5i11)), l5i11) (Nat.lt_succ_self _) h (fun w a hm hs => norm hm hs [0] [0] [(0, v0_0), (2, (iq a2)), (4, (Value.func (.func 73) #[] #[c4_0])), (10, (iq (wq (l5i10 - l5i11)))), (11, (iq l5i11))] (by decide) ⟨rfl, rfl, rfl, rfl, rfl, trivial⟩)
   ·replace h := bif_f hb9 h
    refine aw_sr ?_
    refine al_mv rfl rfl ?_
    refine al_mv rfl rfl ?_
    refine al_mv rfl rfl ?_
    refine al_in rfl rfl rfl rfl ?_
    refine al_mv rfl rfl ?_
    refine al_mv rfl rfl ?_
    refine al_in rfl rfl rfl rfl ?_
    refine al_mv rfl rfl ?_
    refine al_in rfl rfl rfl rfl ?_
    refine al_mv rfl rfl ?_
    refine al_mv rfl rfl ?_
    obtain ⟨r13, hc12, h⟩ := opt_some h
    refine al_call (vs := [v0_0, (iq (wq (a2 - l5i10))), (iq (wq ((wq (a2 + l5i11)) - l5i10))), (iq l5i10), (Value.func (.func 73) #[] #[c4_0])]) (f_slices_swapRangeCmpFunc_int__lent_F73_ok fu v0_0 l5x0 (wq (a2 - l5i10)) (wq ((wq (a2 + l5i11)) - l5i10)) l5i10 c4_0 a4_0 hc12) [] [0] [] (pre_fz 0 rfl pre_nil) rfl (by simp) (by decide) (.inl rfl) rfl Try.func207 rfl rfl rfl (fun _ => ?_)
    refine al_nt ?_
    refine aw_region ?_
    refine al_mv rfl rfl ?_
    refine al_mv rfl rfl ?_
    refine al_in rfl rfl rfl rfl ?_
    refine al_as rfl rfl ?_
    refine al_nil ?_
    refine aq_block ?_
    exact aq_again k6 (r13, l5i10, (wq (l5i11 - l5i10))) (Nat.lt_succ_self _) h (fun w a hm hs => norm hm hs [0] [0] [(0, v0_0), (2, (iq a2)), (4, (Value.func (.func 73) #[] #[c4_0])), (10, (iq l5i10)), (11, (iq (wq (l5i11 - l5i10))))] (by decide) ⟨rfl, rfl, rfl, rfl, rfl, trivial⟩)
  ·replace h := bif_f hb8 h
   refine aw_exit ?_
   refine aq_then_exit ?_
   refine aq_then_exit ?_
   refine aq_block_exit ?_
   exact aq_join (l5x0, l5i10) h (fun w a hm hs => norm hm hs [0] [0] [(0, v0_0), (2, (iq a2)), (4, (Value.func (.func 73) #[] #[c4_0])), (10, (iq l5i10))] (by decide) ⟨rfl, rfl, rfl, rfl, trivial⟩)
def f_slices_symMergeCmpFunc_int__lent_F73_L33 (a0 : (List Int)) (a1 : Int) (a2 : Int) (a3 : Int) (a4_0 : (List S_api_Waste)) (kk8 : (Int → Option (List Int))) (fu : Nat) : Nat → Int → Int → Option (List Int)
  | 0, _, _ => none
  | k32 + 1, l31i20, l31i21 => (bif (decide (l31i20 < l31i21)) then (opt (at? a0 (IntKind.i64.wrap ((IntKind.i64.wrap ((IntKind.i64.wrap ((IntKind.i64.wrap (((IntKind.u64.wrap (IntKind.i64.wrap (a1 + a3)))).fdiv (2 ^ min ((1 : Int)).toNat (IntKind.bits .u64)))) + a2)) - (1 : Int))) - (IntKind.i64.wrap (((IntKind.u64.wrap (IntKind.i64.wrap (l31i20 + l31i21)))).fdiv (2 ^ min ((1 : Int)).toNat (IntKind.bits .u64))))))) fun (u35 : Int) => (opt (at? a0 (IntKind.i64.wrap (((IntKind.u64.wrap (IntKind.i64.wrap (l31i20 + l31i21)))).fdiv (2 ^ min ((1 : Int)).toNat (IntKind.bits .u64))))) fun (u39 : Int) => (opt (f_waste_Choose_1 fu u35 u39 a4_0) fun (r44 : Int) => (bif (!(decide (r44 < (0 : Int)))) then (f_slices_symMergeCmpFunc_int__lent_F73_L33 a0 a1 a2 a3 a4_0 kk8 fu k32 (IntKind.i64.wrap ((IntKind.i64.wrap (((IntKind.u64.wrap (IntKind.i64.wrap (l31i20 + l31i21)))).fdiv (2 ^ min ((1 : Int)).toNat (IntKind.bits .u64)))) + (1 : Int))) l31i21) else (f_slices_symMergeCmpFunc_int__lent_F73_L33 a0 a1 a2 a3 a4_0 kk8 fu k32 l31i20 (IntKind.i64.wrap (((IntKind.u64.wrap (IntKind.i64.wrap (l31i20 + l31i21)))).fdiv (2 ^ min ((1 : Int)).toNat (IntKind.bits .u64))))))))) else (kk8 l31i20))
def f_slices_symMergeCmpFunc_int__lent_F73_L54 (j48i14 : Int) (kk51 : ((List Int) → Option (List Int))) : Nat → (List Int) → Int → Option (List Int)
  | 0, _, _ => none
  | k53 + 1, l52x0, l52i17 => (bif (decide (l52i17 > j48i14)) then (opt (at? l52x0 (IntKind.i64.wrap (l52i17 - (1 : Int)))) fun (u56 : Int) => (opt (at? l52x0 l52i17) fun (u60 : Int) => (opt (at? l52x0 l52i17) fun (u64 : Int) => (opt (at? (l52x0.set (l52i17).toNat u56) (IntKind.i64.wrap (l52i17 - (1 : Int)))) fun (u68 : Int) => (f_slices_symMergeCmpFunc_int__lent_F73_L54 j48i14 kk51 k53 ((l52x0.set (l52i17).toNat u56).set ((IntKind.i64.wrap (l52i17 - (1 : Int)))).toNat u60) (IntKind.i64.wrap (l52i17 - (1 : Int)))))))) else (kk51 l52x0))
def f_slices_symMergeCmpFunc_int__lent_F73_L74 (a0 : (List Int)) (a2 : Int) (a4_0 : (List S_api_Waste)) (kk49 : (Int → Option (List Int))) (fu : Nat) : Nat → Int → Int → Option (List Int)
  | 0, _, _ => none
  | k73 + 1, l72i14, l72i15 => (bif (decide (l72i14 < l72i15)) then (opt (at? a0 a2) fun (u76 : Int) => (opt (at? a0 (IntKind.i64.wrap (((IntKind.u64.wrap (IntKind.i64.wrap (l72i14 + l72i15)))).fdiv (2 ^ min ((1 : Int)).toNat (IntKind.bits .u64))))) fun (u80 : Int) => (opt (f_waste_Choose_1 fu u76 u80 a4_0) fun (r85 : Int) => (bif (!(decide (r85 < (0 : Int)))) then (f_slices_symMergeCmpFunc_int__lent_F73_L74 a0 a2 a4_0 kk49 fu k73 (IntKind.i64.wrap ((IntKind.i64.wrap (((IntKind.u64.wrap (IntKind.i64.wrap (l72i14 + l72i15)))).fdiv (2 ^ min ((1 : Int)).toNat (IntKind.bits .u64)))) + (1 : Int))) l72i15) else (f_slices_symMergeCmpFunc_int__lent_F73_L74 a0 a2 a4_0 kk49 fu k73 l72i14 (IntKind.i64.wrap (((IntKind.u64.wrap (IntKind.i64.wrap (l72i14 + l72i15)))).fdiv (2 ^ min ((1 : Int)).toNat (IntKind.bits .u64))))))))) else (kk49 l72i14))
def f_slices_symMergeCmpFunc_int__lent_F73_L94 (j88i10 : Int) (kk91 : ((List Int) → Option (List Int))) : Nat → (List Int) → Int → Option (List Int)
  | 0, _, _ => none
  | k93 + 1, l92x0, l92i13 => (bif (decide (l92i13 < (IntKind.i64.wrap (j88i10 - (1 : Int))))) then (opt (at? l92x0 (IntKind.i64.wrap (l92i13 + (1 : Int)))) fun (u96 : Int) => (opt (at? l92x0 l92i13) fun (u100 : Int) => (opt (at? l92x0 l92i13) fun (u104 : Int) => (opt (at? (l92x0.set (l92i13).toNat u96) (IntKind.i64.wrap (l92i13 + (1 : Int)))) fun (u108 : Int) => (f_slices_symMergeCmpFunc_int__lent_F73_L94 j88i10 kk91 k93 ((l92x0.set (l92i13).toNat u96).set ((IntKind.i64.wrap (l92i13 + (1 : Int)))).toNat u100) (IntKind.i64.wrap (l92i13 + (1 : Int)))))))) else (kk91 l92x0))
def f_slices_symMergeCmpFunc_int__lent_F73_L114 (a0 : (List Int)) (a1 : Int) (a4_0 : (List S_api_Waste)) (kk89 : (Int → Option (List Int))) (fu : Nat) : Nat → Int → Int → Option (List Int)
  | 0, _, _ => none
  | k113 + 1, l112i10, l112i11 => (bif (decide (l112i10 < l112i11)) then (opt (at? a0 (IntKind.i64.wrap (((IntKind.u64.wrap (IntKind.i64.wrap (l112i10 + l112i11)))).fdiv (2 ^ min ((1 : Int)).toNat (IntKind.bits .u64))))) fun (u116 : Int) => (opt (at? a0 a1) fun (u120 : Int) => (opt (f_waste_Choose_1 fu u116 u120 a4_0) fun (r125 : Int) => (bif (decide (r125 < (0 : Int))) then (f_slices_symMergeCmpFunc_int__lent_F73_L114 a0 a1 a4_0 kk89 fu k113 (IntKind.i64.wrap ((IntKind.i64.wrap (((IntKind.u64.wrap (IntKind.i64.wrap (l112i10 + l112i11)))).fdiv (2 ^ min ((1 : Int)).toNat (IntKind.bits .u64)))) + (1 : Int))) l112i11) else (f_slices_symMergeCmpFunc_int__lent_F73_L114 a0 a1 a4_0 kk89 fu k113 l112i10 (IntKind.i64.wrap (((IntKind.u64.wrap (IntKind.i64.wrap (l112i10 + l112i11)))).fdiv (2 ^ min ((1 : Int)).toNat (IntKind.bits .u64))))))))) else (kk89 l112i10))
def f_slices_symMergeCmpFunc_int__lent_F73 : Nat → (List Int) → Int → Int → Int → (List S_api_Waste) → Option (List Int)
  | 0, _, _, _, _, _ => none
  | fu + 1, a0, a1, a2, a3, a4_0 => (lt (fun (_ : Unit) => (lt (fun (_ : Unit) => (lt (fun (j5i20 : Int) (j5i21 : Int) => (lt (fun (j7i20 : Int) => (lt (fun (j9x0 : (List Int)) => (lt (fun (j11x0 : (List Int)) => (lt (fun (j13b213 : Bool) => (bif j13b213 then (opt (f_slices_symMergeCmpFunc_int__lent_F73 fu j11x0 (IntKind.i64.wrap (((IntKind.u64.wrap (IntKind.i64.wrap (a1 + a3)))).fdiv (2 ^ min ((1 : Int)).toNat (IntKind.bits .u64)))) (IntKind.i64.wrap ((IntKind.i64.wrap ((IntKind.i64.wrap (((IntKind.u64.wrap (IntKind.i64.wrap (a1 + a3)))).fdiv (2 ^ min ((1 : Int)).toNat (IntKind.bits .u64)))) + a2)) - j7i20)) a3 a4_0) fun (r17 : (List Int)) => (some r17)) else (some j11x0))) fun (kk14 : Bool → Option (List Int)) => (bif (decide ((IntKind.i64.wrap (((IntKind.u64.wrap (IntKind.i64.wrap (a1 + a3)))).fdiv (2 ^ min ((1 : Int)).toNat (IntKind.bits .u64)))) < (IntKind.i64.wrap ((IntKind.i64.wrap ((IntKind.i64.wrap (((IntKind.u64.wrap (IntKind.i64.wrap (a1 + a3)))).fdiv (2 ^ min ((1 : Int)).toNat (IntKind.bits .u64)))) + a2)) - j7i20)))) then (kk14 (decide ((IntKind.i64.wrap ((IntKind.i64.wrap ((IntKind.i64.wrap (((IntKind.u64.wrap (IntKind.i64.wrap (a1 + a3)))).fdiv (2 ^ min ((1 : Int)).toNat (IntKind.bits .u64)))) + a2)) - j7i20)) < a3))) else (kk14 false)))) fun (kk12 : (List Int) → Option (List Int)) => (lt (fun (j19b199 : Bool) => (bif j19b199 then (opt (f_slices_symMergeCmpFunc_int__lent_F73 fu j9x0 a1 j7i20 (IntKind.i64.wrap (((IntKind.u64.wrap (IntKind.i64.wrap (a1 + a3)))).fdiv (2 ^ min ((1 : Int)).toNat (IntKind.bits .u64)))) a4_0) fun (r23 : (List Int)) => (kk12 r23)) else (kk12 j9x0))) fun (kk20 : Bool → Option (List Int)) => (bif (decide (a1 < j7i20)) then (kk20 (decide (j7i20 < (IntKind.i64.wrap (((IntKind.u64.wrap (IntKind.i64.wrap (a1 + a3)))).fdiv (2 ^ min ((1 : Int)).toNat (IntKind.bits .u64))))))) else (kk20 false))))) fun (kk10 : (List Int) → Option (List Int)) => (lt (fun (j25b185 : Bool) => (bif j25b185 then (opt (f_slices_rotateCmpFunc_int__lent_F73 fu a0 j7i20 a2 (IntKind.i64.wrap ((IntKind.i64.wrap ((IntKind.i64.wrap (((IntKind.u64.wrap (IntKind.i64.wrap (a1 + a3)))).fdiv (2 ^ min ((1 : Int)).toNat (IntKind.bits .u64)))) + a2)) - j7i20)) a4_0) fun (r29 : (List Int)) => (kk10 r29)) else (kk10 a0))) fun (kk26 : Bool → Option (List Int)) => (bif (decide (j7i20 < a2)) then (kk26 (decide (a2 < (IntKind.i64.wrap ((IntKind.i64.wrap ((IntKind.i64.wrap (((IntKind.u64.wrap (IntKind.i64.wrap (a1 + a3)))).fdiv (2 ^ min ((1 : Int)).toNat (IntKind.bits .u64)))) + a2)) - j7i20))))) else (kk26 false))))) fun (kk8 : Int → Option (List Int)) => (f_slices_symMergeCmpFunc_int__lent_F73_L33 a0 a1 a2 a3 a4_0 kk8 fu fu j5i20 j5i21))) fun (kk6 : Int → Int → Option (List Int)) => (bif (decide (a2 > (IntKind.i64.wrap (((IntKind.u64.wrap (IntKind.i64.wrap (a1 + a3)))).fdiv (2 ^ min ((1 : Int)).toNat (IntKind.bits .u64)))))) then (kk6 (IntKind.i64.wrap ((IntKind.i64.wrap ((IntKind.i64.wrap (((IntKind.u64.wrap (IntKind.i64.wrap (a1 + a3)))).fdiv (2 ^ min ((1 : Int)).toNat (IntKind.bits .u64)))) + a2)) - a3)) (IntKind.i64.wrap (((IntKind.u64.wrap (IntKind.i64.wrap (a1 + a3)))).fdiv (2 ^ min ((1 : Int)).toNat (IntKind.bits .u64))))) else (kk6 a1 a2)))) fun (kk4 : Unit → Option (List Int)) => (bif ((IntKind.i64.wrap (a3 - a2)) == (1 : Int)) then (lt (fun (j48i14 : Int) => (lt (fun (j50x0 : (List Int)) => (some j50x0)) fun (kk51 : (List Int) → Option (List Int)) => (f_slices_symMergeCmpFunc_int__lent_F73_L54 j48i14 kk51 fu a0 a2))) fun (kk49 : Int → Option (List Int)) => (f_slices_symMergeCmpFunc_int__lent_F73_L74 a0 a2 a4_0 kk49 fu fu a1 a2)) else (kk4 ())))) fun (kk2 : Unit → Option (List Int)) => (bif ((IntKind.i64.wrap (a2 - a1)) == (1 : Int)) then (lt (fun (j88i10 : Int) => (lt (fun (j90x0 : (List Int)) => (some j90x0)) fun (kk91 : (List Int) → Option (List Int)) => (f_slices_symMergeCmpFunc_int__lent_F73_L94 j88i10 kk91 fu a0 a1))) fun (kk89 : Int → Option (List Int)) => (f_slices_symMergeCmpFunc_int__lent_F73_L114 a0 a1 a4_0 kk89 fu fu a2 a3)) else (kk2 ())))
set_option maxRecDepth 100000 in
set_option maxHeartbeats 2000000 in
set_option maxHeartbeats 2000000 in
theorem f_slices_symMergeCmpFunc_int__lent_F73_ok (fu : Nat) (v0_0 : Value) (a0 : (List Int)) (a1 : Int) (a2 : Int) (a3 : Int) (c4_0 : Value) (a4_0 : (List S_api_Waste)) {r : (List Int)} (h : f_slices_symMergeCmpFunc_int__lent_F73 fu a0 a1 a2 a3 a4_0 = some r) : FnOk Try.prog 171 [v0_0, (int .i64 a1), (int .i64 a2), (int .i64 a3), (Value.func (.func 73) #[] #[c4_0])] [(fPtr (tyList tyS_api_Waste) c4_0 a4_0)] [(oRow v0_0 3 (tyInt .i64) a0)] (fun (i : Unit) => { val := (Value.tuple #[]), own := [(oRow v0_0 3 (tyInt .i64) r)] }) := by
 cases fu with
 | zero => rw [f_slices_symMergeCmpFunc_int__lent_F73] at h; cases h
 | succ fu =>
  rw [f_slices_symMergeCmpFunc_int__lent_F73] at h
  refine fn_enter Try.func171 rfl Try.ntmps171 rfl (fun w0 Z0 => ?_)
  obtain ⟨kk2, hkk2, h⟩ := lt_some h
  refine aw_seq_join (ι := Unit) (fun i => (memOf w0 Z0 [(oRow v0_0 3 tq a0)] [(oRow v0_0 3 tq a0)] [(fPtr (tyList tyS_api_Waste) c4_0 a4_0)])) (fun i => (tab [(0, v0_0), (1, (iq a1)), (2, (iq a2)), (3, (iq a3)), (4, (Value.func (.func 73) #[] #[c4_0]))])) (fun i => kk2 () = some r) ?_ ?_
  ·rintro _ h
   have h : kk2 () = some r := h
   rw [hkk2] at h
   dsimp only at h
   clear hkk2
   refine aw_show (m := (memOf w0 Z0 [(oRow v0_0 3 tq a0)] [(oRow v0_0 3 tq a0)] [(fPtr (tyList tyS_api_Waste) c4_0 a4_0)])) (S := (tab [(0, v0_0), (1, (iq a1)), (2, (iq a2)), (3, (iq a3)), (4, (Value.func (.func 73) #[] #[c4_0]))])) ?_
   obtain ⟨kk4, hkk4, h⟩ := lt_some h
   refine aw_seq_join (ι := Unit) (fun i => (memOf w0 Z0 [(oRow v0_0 3 tq a0)] [(oRow v0_0 3 tq a0)] [(fPtr (tyList tyS_api_Waste) c4_0 a4_0)])) (fun i => (tab [(0, v0_0), (1, (iq a1)), (2, (iq a2)), (3, (iq a3)), (4, (Value.func (.func 73) #[] #[c4_0]))])) (fun i => kk4 () = some r) ?_ ?_
   ·rintro _ h
    have h : kk4 () = some r := h
    rw [hkk4] at h
    dsimp only at h
    clear hkk4
    refine aw_show (m := (memOf w0 Z0 [(oRow v0_0 3 tq a0)] [(oRow v0_0 3 tq a0)] [(fPtr (tyList tyS_api_Waste) c4_0 a4_0)])) (S := (tab [(0, v0_0), (1, (iq a1)), (2, (iq a2)), (3, (iq a3)), (4, (Value.func (.func 73) #[] #[c4_0]))])) ?_
    refine aw_sr ?_
    refine al_mv rfl rfl ?_
    refine al_mv rfl rfl ?_
    refine al_in rfl rfl rfl rfl ?_
    refine al_val (ov_convInt (by rw [Try.underlying3]; rfl) Try.underlying225 rfl rfl) ?_
    refine al_val (ov_shr (by decide) rfl rfl rfl) ?_
    refine al_val (ov_convInt (by rw [Try.underlying225]; rfl) Try.underlying3 rfl rfl) ?_
    refine al_as rfl rfl ?_
    refine al_nt ?_
    refine aw_sr ?_
    refine al_mv rfl rfl ?_
    refine al_mv rfl rfl ?_
    refine al_in rfl rfl rfl rfl ?_
    refine al_as rfl rfl ?_
    refine al_nt ?_
    refine aw_sr ?_
    refine al_as rfl rfl ?_
    refine al_as rfl rfl ?_
    refine al_nt ?_
    obtain ⟨kk6, hkk6, h⟩ := lt_some h
    refine aw_seq_join (ι := Int × Int) (fun i => (memOf w0 Z0 [(oRow v0_0 3 tq a0)] [(oRow v0_0 3 tq a0)] [(fPtr (tyList tyS_api_Waste) c4_0 a4_0)])) (fun i => (tab [(0, v0_0), (1, (iq a1)), (2, (iq a2)), (3, (iq a3)), (4, (Value.func (.func 73) #[] #[c4_0])), (18, (iq (wq (((wu (wq (a1 + a3)))).fdiv (2 ^ min ((1 : Int)).toNat (IntKind.bits .u64)))))), (19, (iq (wq ((wq (((wu (wq (a1 + a3)))).fdiv (2 ^ min ((1 : Int)).toNat (IntKind.bits .u64)))) + a2)))), (20, (iq i.1)), (21, (iq i.2))])) (fun i => kk6 i.1 i.2 = some r) ?_ ?_
    ·rintro ⟨j5i20, j5i21⟩ h
     have h : kk6 j5i20 j5i21 = some r := h
     rw [hkk6] at h
     dsimp only at h
     clear hkk6
     refine aw_show (m := (memOf w0 Z0 [(oRow v0_0 3 tq a0)] [(oRow v0_0 3 tq a0)] [(fPtr (tyList tyS_api_Waste) c4_0 a4_0)])) (S := (tab [(0, v0_0), (1, (iq a1)), (2, (iq a2)), (3, (iq a3)), (4, (Value.func (.func 73) #[] #[c4_0])), (18, (iq (wq (((wu (wq (a1 + a3)))).fdiv (2 ^ min ((1 : Int)).toNat (IntKind.bits .u64)))))), (19, (iq (wq ((wq (((wu (wq (a1 + a3)))).fdiv (2 ^ min ((1 : Int)).toNat (IntKind.bits .u64)))) + a2)))), (20, (iq j5i20)), (21, (iq j5i21))])) ?_
     refine aw_sr ?_
     refine al_mv rfl rfl ?_
     refine al_in rfl rfl rfl rfl ?_
     refine al_as rfl rfl ?_
     refine al_nt ?_
     obtain ⟨kk8, hkk8, h⟩ := lt_some h
     refine aw_seq_join (ι := Int) (fun i => (memOf w0 Z0 [(oRow v0_0 3 tq a0)] [(oRow v0_0 3 tq a0)] [(fPtr (tyList tyS_api_Waste) c4_0 a4_0)])) (fun i => (tab [(0, v0_0), (1, (iq a1)), (2, (iq a2)), (3, (iq a3)), (4, (Value.func (.func 73) #[] #[c4_0])), (18, (iq (wq (((wu (wq (a1 + a3)))).fdiv (2 ^ min ((1 : Int)).toNat (IntKind.bits .u64)))))), (19, (iq (wq ((wq (((wu (wq (a1 + a3)))).fdiv (2 ^ min ((1 : Int)).toNat (IntKind.bits .u64)))) + a2)))), (20, (iq i))])) (fun i => kk8 i = some r) ?_ ?_
     ·rintro j7i20 h
      have h : kk8 j7i20 = some r := h
      rw [hkk8] at h
      dsimp only at h
      clear hkk8
      refine aw_show (m := (memOf w0 Z0 [(oRow v0_0 3 tq a0)] [(oRow v0_0 3 tq a0)] [(fPtr (tyList tyS_api_Waste) c4_0 a4_0)])) (S := (tab [(0, v0_0), (1, (iq a1)), (2, (iq a2)), (3, (iq a3)), (4, (Value.func (.func 73) #[] #[c4_0])), (18, (iq (wq (((wu (wq (a1 + a3)))).fdiv (2 ^ min ((1 : Int)).toNat (IntKind.bits .u64)))))), (19, (iq (wq ((wq (((wu (wq (a1 + a3)))).fdiv (2 ^ min ((1 : Int)).toNat (IntKind.bits .u64)))) + a2)))), (20, (iq j7i20))])) ?_
      refine aw_sr ?_
      refine al_mv rfl rfl ?_
      refine al_mv rfl rfl ?_
      refine al_in rfl rfl rfl rfl ?_
      refine al_as rfl rfl ?_
      refine al_nt ?_
      obtain ⟨kk10, hkk10, h⟩ := lt_some h
      refine aw_seq_join (ι := (List Int)) (fun i => (memOf w0 Z0 [(oRow v0_0 3 tq a0)] [(oRow v0_0 3 tq i)] [(fPtr (tyList tyS_api_Waste) c4_0 a4_0)])) (fun i => (tab [(0, v0_0), (1, (iq a1)), (3, (iq a3)), (4, (Value.func (.func 73) #[] #[c4_0])), (18, (iq (wq (((wu (wq (a1 + a3)))).fdiv (2 ^ min ((1 : Int)).toNat (IntKind.bits .u64)))))), (20, (iq j7i20)), (24, (iq (wq ((wq ((wq (((wu (wq (a1 + a3)))).fdiv (2 ^ min ((1 : Int)).toNat (IntKind.bits .u64)))) + a2)) - j7i20))))])) (fun i => kk10 i = some r) ?_ ?_
      ·rintro j9x0 h
       have h : kk10 j9x0 = some r := h
       rw [hkk10] at h
       dsimp only at h
       clear hkk10
       refine aw_show (m := (memOf w0 Z0 [(oRow v0_0 3 tq a0)] [(oRow v0_0 3 tq j9x0)] [(fPtr (tyList tyS_api_Waste) c4_0 a4_0)])) (S := (tab [(0, v0_0), (1, (iq a1)), (3, (iq a3)), (4, (Value.func (.func 73) #[] #[c4_0])), (18, (iq (wq (((wu (wq (a1 + a3)))).fdiv (2 ^ min ((1 : Int)).toNat (IntKind.bits .u64)))))), (20, (iq j7i20)), (24, (iq (wq ((wq ((wq (((wu (wq (a1 + a3)))).fdiv (2 ^ min ((1 : Int)).toNat (IntKind.bits .u64)))) + a2)) - j7i20))))])) ?_
       obtain ⟨kk12, hkk12, h⟩ := lt_some h
       refine aw_seq_join (ι := (List Int)) (fun i => (memOf w0 Z0 [(oRow v0_0 3 tq a0)] [(oRow v0_0 3 tq i)] [(fPtr (tyList tyS_api_Waste) c4_0 a4_0)])) (fun i => (tab [(0, v0_0), (3, (iq a3)), (4, (Value.func (.func 73) #[] #[c4_0])), (18, (iq (wq (((wu (wq (a1 + a3)))).fdiv (2 ^ min ((1 : Int)).toNat (IntKind.bits .u64)))))), (24, (iq (wq ((wq ((wq (((wu (wq (a1 + a3)))).fdiv (2 ^ min ((1 : Int)).toNat (IntKind.bits .u64)))) + a2)) - j7i20))))])) (fun i => kk12 i = some r) ?_ ?_
       ·rintro j11x0 h
        have h : kk12 j11x0 = some r := h
        rw [hkk12] at h
        dsimp only at h
        clear hkk12
        refine aw_show (m := (memOf w0 Z0 [(oRow v0_0 3 tq a0)] [(oRow v0_0 3 tq j11x0)] [(fPtr (tyList tyS_api_Waste) c4_0 a4_0)])) (S := (tab [(0, v0_0), (3, (iq a3)), (4, (Value.func (.func 73) #[] #[c4_0])), (18, (iq (wq (((wu (wq (a1 + a3)))).fdiv (2 ^ min ((1 : Int)).toNat (IntKind.bits .u64)))))), (24, (iq (wq ((wq ((wq (((wu (wq (a1 + a3)))).fdiv (2 ^ min ((1 : Int)).toNat (IntKind.bits .u64)))) + a2)) - j7i20))))])) ?_
        obtain ⟨kk14, hkk14, h⟩ := lt_some h
        refine aw_seq_join (ι := Bool) (fun i => (memOf w0 Z0 [(oRow v0_0 3 tq a0)] [(oRow v0_0 3 tq j11x0)] [(fPtr (tyList tyS_api_Waste) c4_0 a4_0)])) (fun i => (tab [(0, v0_0), (3, (iq a3)), (4, (Value.func (.func 73) #[] #[c4_0])), (18, (iq (wq (((wu (wq (a1 + a3)))).fdiv (2 ^ min ((1 : Int)).toNat (IntKind.bits .u64)))))), (24, (iq (wq ((wq ((wq (((wu (wq (a1 + a3)))).fdiv (2 ^ min ((1 : Int)).toNat (IntKind.bits .u64)))) + a2)) - j7i20)))), (213, (bool i))])) (fun i => kk14 i = some r) ?_ ?_
        ·rintro j13b213 h
         have h : kk14 j13b213 = some r := h
         rw [hkk14] at h
         dsimp only at h
         clear hkk14
         refine aw_show (m := (memOf w0 Z0 [(oRow v0_0 3 tq a0)] [(oRow v0_0 3 tq j11x0)] [(fPtr (tyList tyS_api_Waste) c4_0 a4_0)])) (S := (tab [(0, v0_0), (3, (iq a3)), (4, (Value.func (.func 73) #[] #[c4_0])), (18, (iq (wq (((wu (wq (a1 + a3)))).fdiv (2 ^ min ((1 : Int)).toNat (IntKind.bits .u64)))))), (24, (iq (wq ((wq ((wq (((wu (wq (a1 + a3)))).fdiv (2 ^ min ((1 : Int)).toNat (IntKind.bits .u64)))) + a2)) - j7i20)))), (213, (bool j13b213))])) ?_
         refine aw_cond rfl (fun hb15 => ?_) (fun hb15 => ?_)
         ·replace h := bif_t hb15 h
          refine aw_region ?_
          refine al_mv rfl rfl ?_
          refine al_mv rfl rfl ?_
          refine al_mv rfl rfl ?_
          refine al_mv rfl rfl ?_
          refine al_mv rfl rfl ?_
          obtain ⟨r17, hc16, h⟩ := opt_some h
          refine al_call (vs := [v0_0, (iq (wq (((wu (wq (a1 + a3)))).fdiv (2 ^ min ((1 : Int)).toNat (IntKind.bits .u64))))), (iq (wq ((wq ((wq (((wu (wq (a1 + a3)))).fdiv (2 ^ min ((1 : Int)).toNat (IntKind.bits .u64)))) + a2)) - j7i20))), (iq a3), (Value.func (.func 73) #[] #[c4_0])]) (f_slices_symMergeCmpFunc_int__lent_F73_ok fu v0_0 j11x0 (wq (((wu (wq (a1 + a3)))).fdiv (2 ^ min ((1 : Int)).toNat (IntKind.bits .u64)))) (wq ((wq ((wq (((wu (wq (a1 + a3)))).fdiv (2 ^ min ((1 : Int)).toNat (IntKind.bits .u64)))) + a2)) - j7i20)) a3 c4_0 a4_0 hc16) [] [0] [] (pre_fz 0 rfl pre_nil) rfl (by simp) (by decide) (.inl rfl) rfl Try.func171 rfl rfl rfl (fun _ => ?_)
          refine al_nil ?_
          refine fn_end ?_
          obtain rfl := Option.some.inj h
          exact fn_ret () [0] [] rfl rfl rfl rfl (resC rfl (resN) rfl) rfl rfl rfl (by decide)
         ·replace h := bif_f hb15 h
          refine aw_skip ?_
          refine fn_end ?_
          obtain rfl := Option.some.inj h
          exact fn_ret () [0] [] rfl rfl rfl rfl (resC rfl (resN) rfl) rfl rfl rfl (by decide)
        ·clear hkk14
         refine aw_region ?_
         refine al_mv rfl rfl ?_
         refine al_mv rfl rfl ?_
         refine al_in rfl rfl rfl rfl ?_
         refine al_mv rfl rfl ?_
         refine al_caseB 209 rfl (fun hb18 => ?_) (fun hb18 => ?_)
         ·replace h := bif_t hb18 h
          refine al_mv rfl rfl ?_
          refine al_mv rfl rfl ?_
          refine al_in rfl rfl rfl rfl ?_
          refine al_val (ov_pick_t rfl rfl rfl) ?_
          refine al_nil ?_
          exact aq_join (decide ((wq ((wq ((wq (((wu (wq (a1 + a3)))).fdiv (2 ^ min ((1 : Int)).toNat (IntKind.bits .u64)))) + a2)) - j7i20)) < a3)) h (fun w a hm hs => norm hm hs [0] [0] [(0, v0_0), (3, (iq a3)), (4, (Value.func (.func 73) #[] #[c4_0])), (18, (iq (wq (((wu (wq (a1 + a3)))).fdiv (2 ^ min ((1 : Int)).toNat (IntKind.bits .u64)))))), (24, (iq (wq ((wq ((wq (((wu (wq (a1 + a3)))).fdiv (2 ^ min ((1 : Int)).toNat (IntKind.bits .u64)))) + a2)) - j7i20)))), (213, (bool (decide ((wq ((wq ((wq (((wu (wq (a1 + a3)))).fdiv (2 ^ min ((1 : Int)).toNat (IntKind.bits .u64)))) + a2)) - j7i20)) < a3))))] (by decide) ⟨rfl, rfl, rfl, rfl, rfl, rfl, trivial⟩)
         ·replace h := bif_f hb18 h
          refine al_skip ?_
          refine al_skip ?_
          refine al_skip ?_
          refine al_val (ov_pick_f rfl rfl rfl) ?_
          refine al_nil ?_
          exact aq_join false h (fun w a hm hs => norm hm hs [0] [0] [(0, v0_0), (3, (iq a3)), (4, (Value.func (.func 73) #[] #[c4_0])), (18, (iq (wq (((wu (wq (a1 + a3)))).fdiv (2 ^ min ((1 : Int)).toNat (IntKind.bits .u64)))))), (24, (iq (wq ((wq ((wq (((wu (wq (a1 + a3)))).fdiv (2 ^ min ((1 : Int)).toNat (IntKind.bits .u64)))) + a2)) - j7i20)))), (213, (bool false))] (by decide) ⟨rfl, rfl, rfl, rfl, rfl, rfl, trivial⟩)
       ·clear hkk12
        obtain ⟨kk20, hkk20, h⟩ := lt_some h
        refine aw_seq_join (ι := Bool) (fun i => (memOf w0 Z0 [(oRow v0_0 3 tq a0)] [(oRow v0_0 3 tq j9x0)] [(fPtr (tyList tyS_api_Waste) c4_0 a4_0)])) (fun i => (tab [(0, v0_0), (1, (iq a1)), (3, (iq a3)), (4, (Value.func (.func 73) #[] #[c4_0])), (18, (iq (wq (((wu (wq (a1 + a3)))).fdiv (2 ^ min ((1 : Int)).toNat (IntKind.bits .u64)))))), (20, (iq j7i20)), (24, (iq (wq ((wq ((wq (((wu (wq (a1 + a3)))).fdiv (2 ^ min ((1 : Int)).toNat (IntKind.bits .u64)))) + a2)) - j7i20)))), (199, (bool i))])) (fun i => kk20 i = some r) ?_ ?_
        ·rintro j19b199 h
         have h : kk20 j19b199 = some r := h
         rw [hkk20] at h
         dsimp only at h
         clear hkk20
         refine aw_show (m := (memOf w0 Z0 [(oRow v0_0 3 tq a0)] [(oRow v0_0 3 tq j9x0)] [(fPtr (tyList tyS_api_Waste) c4_0 a4_0)])) (S := (tab [(0, v0_0), (1, (iq a1)), (3, (iq a3)), (4, (Value.func (.func 73) #[] #[c4_0])), (18, (iq (wq (((wu (wq (a1 + a3)))).fdiv (2 ^ min ((1 : Int)).toNat (IntKind.bits .u64)))))), (20, (iq j7i20)), (24, (iq (wq ((wq ((wq (((wu (wq (a1 + a3)))).fdiv (2 ^ min ((1 : Int)).toNat (IntKind.bits .u64)))) + a2)) - j7i20)))), (199, (bool j19b199))])) ?_
         refine aw_cond rfl (fun hb21 => ?_) (fun hb21 => ?_)
         ·replace h := bif_t hb21 h
          refine aw_region ?_
          refine al_mv rfl rfl ?_
          refine al_mv rfl rfl ?_
          refine al_mv rfl rfl ?_
          refine al_mv rfl rfl ?_
          refine al_mv rfl rfl ?_
          obtain ⟨r23, hc22, h⟩ := opt_some h
          refine al_call (vs := [v0_0, (iq a1), (iq j7i20), (iq (wq (((wu (wq (a1 + a3)))).fdiv (2 ^ min ((1 : Int)).toNat (IntKind.bits .u64))))), (Value.func (.func 73) #[] #[c4_0])]) (f_slices_symMergeCmpFunc_int__lent_F73_ok fu v0_0 j9x0 a1 j7i20 (wq (((wu (wq (a1 + a3)))).fdiv (2 ^ min ((1 : Int)).toNat (IntKind.bits .u64)))) c4_0 a4_0 hc22) [] [0] [] (pre_fz 0 rfl pre_nil) rfl (by simp) (by decide) (.inl rfl) rfl Try.func171 rfl rfl rfl (fun _ => ?_)
          refine al_nil ?_
          exact aq_join r23 h (fun w a hm hs => norm hm hs [0] [0] [(0, v0_0), (3, (iq a3)), (4, (Value.func (.func 73) #[] #[c4_0])), (18, (iq (wq (((wu (wq (a1 + a3)))).fdiv (2 ^ min ((1 : Int)).toNat (IntKind.bits .u64)))))), (24, (iq (wq ((wq ((wq (((wu (wq (a1 + a3)))).fdiv (2 ^ min ((1 : Int)).toNat (IntKind.bits .u64)))) + a2)) - j7i20))))] (by decide) ⟨rfl, rfl, rfl, rfl, rfl, trivial⟩)
         ·replace h := bif_f hb21 h
          refine aw_skip ?_
          exact aq_join j9x0 h (fun w a hm hs => norm hm hs [0] [0] [(0, v0_0), (3, (iq a3)), (4, (Value.func (.func 73) #[] #[c4_0])), (18, (iq (wq (((wu (wq (a1 + a3)))).fdiv (2 ^ min ((1 : Int)).toNat (IntKind.bits .u64)))))), (24, (iq (wq ((wq ((wq (((wu (wq (a1 + a3)))).fdiv (2 ^ min ((1 : Int)).toNat (IntKind.bits .u64)))) + a2)) - j7i20))))] (by decide) ⟨rfl, rfl, rfl, rfl, rfl, trivial⟩)
        ·clear hkk20
         refine aw_region ?_
         refine al_mv rfl rfl ?_
         refine al_mv rfl rfl ?_
         refine al_in rfl rfl rfl rfl ?_
         refine al_mv rfl rfl ?_
         refine al_caseB 195 rfl (fun hb24 => ?_) (fun hb24 => ?_)
         ·replace h := bif_t hb24 h
          refine al_mv rfl rfl ?_
          refine al_mv rfl rfl ?_
          refine al_in rfl rfl rfl rfl ?_
          refine al_val (ov_pick_t rfl rfl rfl) ?_
          refine al_nil ?_
          exact aq_join (decide (j7i20 < (wq (((wu (wq (a1 + a3)))).fdiv (2 ^ min ((1 : Int)).toNat (IntKind.bits .u64)))))) h (fun w a hm hs => norm hm hs [0] [0] [(0, v0_0), (1, (iq a1)), (3, (iq a3)), (4, (Value.func (.func 73) #[] #[c4_0])), (18, (iq (wq (((wu (wq (a1 + a3)))).fdiv (2 ^ min ((1 : Int)).toNat (IntKind.bits .u64)))))), (20, (iq j7i20)), (24, (iq (wq ((wq ((wq (((wu (wq (a1 + a3)))).fdiv (2 ^ min ((1 : Int)).toNat (IntKind.bits .u64)))) + a2)) - j7i20)))), (199, (bool (decide (j7i20 < (wq (((wu (wq (a1 + a3)))).fdiv (2 ^ min ((1 : Int)).toNat (IntKind.bits .u64))))))))] (by decide) ⟨rfl, rfl, rfl, rfl, rfl, rfl, rfl, rfl, trivial⟩)
         ·replace h := bif_f hb24 h
          refine al_skip ?_
          refine al_skip ?_
          refine al_skip ?_
          refine al_val (ov_pick_f rfl rfl rfl) ?_
          refine al_nil ?_
          exact aq_join false h (fun w a hm hs => norm hm hs [0] [0] [(0, v0_0), (1, (iq a1)), (3, (iq a3)), (4, (Value.func (.func 73) #[] #[c4_0])), (18, (iq (wq (((wu (wq (a1 + a3)))).fdiv (2 ^ min ((1 : Int)).toNat (IntKind.bits .u64)))))), (20, (iq j7i20)), (24, (iq (wq ((wq ((wq (((wu (wq (a1 + a3)))).fdiv (2 ^ min ((1 : Int)).toNat (IntKind.bits .u64)))) + a2)) - j7i20)))), (199, (bool false))] (by decide) ⟨rfl, rfl, rfl, rfl, rfl, rfl, rfl, rfl, trivial⟩)
      ·clear hkk10
       obtain ⟨kk26, hkk26, h⟩ := lt_some h
       refine aw_seq_join (ι := Bool) (fun i => (memOf w0 Z0 [(oRow v0_0 3 tq a0)] [(oRow v0_0 3 tq a0)] [(fPtr (tyList tyS_api_Waste) c4_0 a4_0)])) (fun i => (tab [(0, v0_0), (1, (iq a1)), (2, (iq a2)), (3, (iq a3)), (4, (Value.func (.func 73) #[] #[c4_0])), (18, (iq (wq (((wu (wq (a1 + a3)))).fdiv (2 ^ min ((1 : Int)).toNat (IntKind.bits .u64)))))), (20, (iq j7i20)), (24, (iq (wq ((wq ((wq (((wu (wq (a1 + a3)))).fdiv (2 ^ min ((1 : Int)).toNat (IntKind.bits .u64)))) + a2)) - j7i20)))), (185, (bool i))])) (fun i => kk26 i = some r) ?_ ?_
       ·rintro j25b185 h
        have h : kk26 j25b185 = some r := h
        rw [hkk26] at h
        dsimp only at h
        clear hkk26
        refine aw_show (m := (memOf w0 Z0 [(oRow v0_0 3 tq a0)] [(oRow v0_0 3 tq a0)] [(fPtr (tyList tyS_api_Waste) c4_0 a4_0)])) (S := (tab [(0, v0_0), (1, (iq a1)), (2, (iq a2)), (3, (iq a3)), (4, (Value.func (.func 73) #[] #[c4_0])), (18, (iq (wq (((wu (wq (a1 + a3)))).fdiv (2 ^ min ((1 : Int)).toNat (IntKind.bits .u64)))))), (20, (iq j7i20)), (24, (iq (wq ((wq ((wq (((wu (wq (a1 + a3)))).fdiv (2 ^ min ((1 : Int)).toNat (IntKind.bits .u64)))) + a2)) - j7i20)))), (185, (bool j25b185))])) ?_
        refine aw_cond rfl (fun hb27 => ?_) (fun hb27 => ?_)
        ·replace h := bif_t hb27 h
         refine aw_region ?_
         refine al_mv rfl rfl ?_
         refine al_mv rfl rfl ?_
         refine al_mv rfl rfl ?_
         refine al_mv rfl rfl ?_
         refine al_mv rfl rfl ?_
         obtain ⟨r29, hc28, h⟩ := opt_some h
         refine al_call (vs := [v0_0, (iq j7i20), (iq a2), (iq (wq ((wq ((wq (((wu (wq (a1 + a3)))).fdiv (2 ^ min ((1 : Int)).toNat (IntKind.bits .u64)))) + a2)) - j7i20))), (Value.func (.func 73) #[] #[c4_0])]) (f_slices_rotateCmpFunc_int__lent_F73_ok fu v0_0 a0 j7i20 a2 (wq ((wq ((wq (((wu (wq (a1 + a3)))).fdiv (2 ^ min ((1 : Int)).toNat (IntKind.bits .u64)))) + a2)) - j7i20)) c4_0 a4_0 hc28) [] [0] [] (pre_fz 0 rfl pre_nil) rfl (by simp) (by decide) (.inl rfl) rfl Try.func195 rfl rfl rfl (fun _ => ?_)
         refine al_nil ?_
         exact aq_join r29 h (fun w a hm hs => norm hm hs [0] [0] [(0, v0_0), (1, (iq a1)), (3, (iq a3)), (4, (Value.func (.func 73) #[] #[c4_0])), (18, (iq (wq (((wu (wq (a1 + a3)))).fdiv (2 ^ min ((1 : Int)).toNat (IntKind.bits .u64)))))), (20, (iq j7i20)), (24, (iq (wq ((wq ((wq (((wu (wq (a1 + a3)))).fdiv (2 ^ min ((1 : Int)).toNat (IntKind.bits .u64)))) + a2)) - j7i20))))] (by decide) ⟨rfl, rfl, rfl, rfl, rfl, rfl, rfl, trivial⟩)
        ·replace h := bif_f hb27 h
         refine aw_skip ?_
         exact aq_join a0 h (fun w a hm hs => norm hm hs [0] [0] [(0, v0_0), (1, (iq a1)), (3, (iq a3)), (4, (Value.func (.func 73) #[] #[c4_0])), (18, (iq (wq (((wu (wq (a1 + a3)))).fdiv (2 ^ min ((1 : Int)).toNat (IntKind.bits .u64)))))), (20, (iq j7i20)), (24, (iq (wq ((wq ((wq (((wu (wq (a1 + a3)))).fdiv (2 ^ min ((1 : Int)).toNat (IntKind.bits .u64)))) + a2)) - j7i20))))] (by decide) ⟨rfl, rfl, rfl, rfl, rfl, rfl, rfl, trivial⟩)
       ·clear hkk26
        refine aw_region ?_
        refine al_mv rfl rfl ?_
        refine al_mv rfl rfl ?_
        refine al_in rfl rfl rfl rfl ?_
        refine al_mv rfl rfl ?_
        refine al_caseB 181 rfl (fun hb30 => ?_) (fun hb30 => ?_)
        ·replace h := bif_t hb30 h
         refine al_mv rfl rfl ?_
         refine al_mv rfl rfl ?_
         refine al_in rfl rfl rfl rfl ?_
         refine al_val (ov_pick_t rfl rfl rfl) ?_
         refine al_nil ?_
         exact aq_join (decide (a2 < (wq ((wq ((wq (((wu (wq (a1 + a3)))).fdiv (2 ^ min ((1 : Int)).toNat (IntKind.bits .u64)))) + a2)) - j7i20)))) h (fun w a hm hs => norm hm hs [0] [0] [(0, v0_0), (1, (iq a1)), (2, (iq a2)), (3, (iq a3)), (4, (Value.func (.func 73) #[] #[c4_0])), (18, (iq (wq (((wu (wq (a1 + a3)))).fdiv (2 ^ min ((1 : Int)).toNat (IntKind.bits .u64)))))), (20, (iq j7i20)), (24, (iq (wq ((wq ((wq (((wu (wq (a1 + a3)))).fdiv (2 ^ min ((1 : Int)).toNat (IntKind.bits .u64)))) + a2)) - j7i20)))), (185, (bool (decide (a2 < (wq ((wq ((wq (((wu (wq (a1 + a3)))).fdiv (2 ^ min ((1 : Int)).toNat (IntKind.bits .u64)))) + a2)) - j7i20))))))] (by decide) ⟨rfl, rfl, rfl, rfl, rfl, rfl, rfl, rfl, rfl, trivial⟩)
        ·replace h := bif_f hb30 h
         refine al_skip ?_
         refine al_skip ?_
         refine al_skip ?_
         refine al_val (ov_pick_f rfl rfl rfl) ?_
         refine al_nil ?_
         exact aq_join false h (fun w a hm hs => norm hm hs [0] [0] [(0, v0_0), (1, (iq a1)), (2, (iq a2)), (3, (iq a3)), (4, (Value.func (.func 73) #[] #[c4_0])), (18, (iq (wq (((wu (wq (a1 + a3)))).fdiv (2 ^ min ((1 : Int)).toNat (IntKind.bits .u64)))))), (20, (iq j7i20)), (24, (iq (wq ((wq ((wq (((wu (wq (a1 + a3)))).fdiv (2 ^ min ((1 : Int)).toNat (IntKind.bits .u64)))) + a2)) - j7i20)))), (185, (bool false))] (by decide) ⟨rfl, rfl, rfl, rfl, rfl, rfl, rfl, rfl, rfl, trivial⟩)
     ·clear hkk8
      refine aw_block ?_
      refine aw_state (aw_loop (ι := Int × Int) (fun i => (memOf w0 Z0 [(oRow v0_0 3 tq a0)] [(oRow v0_0 3 tq a0)] [(fPtr (tyList tyS_api_Waste) c4_0 a4_0)])) (fun i => (tab [(0, v0_0), (1, (iq a1)), (2, (iq a2)), (3, (iq a3)), (4, (Value.func (.func 73) #[] #[c4_0])), (18, (iq (wq (((wu (wq (a1 + a3)))).fdiv (2 ^ min ((1 : Int)).toNat (IntKind.bits .u64)))))), (19, (iq (wq ((wq (((wu (wq (a1 + a3)))).fdiv (2 ^ min ((1 : Int)).toNat (IntKind.bits .u64)))) + a2)))), (20, (iq i.1)), (21, (iq i.2)), (22, (iq (wq ((wq ((wq (((wu (wq (a1 + a3)))).fdiv (2 ^ min ((1 : Int)).toNat (IntKind.bits .u64)))) + a2)) - (1 : Int)))))])) (fun q i => f_slices_symMergeCmpFunc_int__lent_F73_L33 a0 a1 a2 a3 a4_0 kk8 fu q i.1 i.2 = some r) ?_ fu (j5i20, j5i21) h) (fun w a hm hs => norm hm hs [0] [0] [(0, v0_0), (1, (iq a1)), (2, (iq a2)), (3, (iq a3)), (4, (Value.func (.func 73) #[] #[c4_0])), (18, (iq (wq (((wu (wq (a1 + a3)))).fdiv (2 ^ min ((1 : Int)).toNat (IntKind.bits .u64)))))), (19, (iq (wq ((wq (((wu (wq (a1 + a3)))).fdiv (2 ^ min ((1 : Int)).toNat (IntKind.bits .u64)))) + a2)))), (20, (iq j5i20)), (21, (iq j5i21)), (22, (iq (wq ((wq ((wq (((wu (wq (a1 + a3)))).fdiv (2 ^ min ((1 : Int)).toNat (IntKind.bits .u64)))) + a2)) - (1 : Int)))))] (by decide) ⟨rfl, rfl, rfl, rfl, rfl, rfl, rfl, rfl, rfl, rfl, trivial⟩)
      clear h
      rintro k32 ⟨l31i20, l31i21⟩ h
      have h : f_slices_symMergeCmpFunc_int__lent_F73_L33 a0 a1 a2 a3 a4_0 kk8 fu k32 l31i20 l31i21 = some r := h
      obtain _ | k32 := k32
      · rw [f_slices_symMergeCmpFunc_int__lent_F73_L33] at h; cases h
      rw [f_slices_symMergeCmpFunc_int__lent_F73_L33] at h
      refine aw_show (m := (memOf w0 Z0 [(oRow v0_0 3 tq a0)] [(oRow v0_0 3 tq a0)] [(fPtr (tyList tyS_api_Waste) c4_0 a4_0)])) (S := (tab [(0, v0_0), (1, (iq a1)), (2, (iq a2)), (3, (iq a3)), (4, (Value.func (.func 73) #[] #[c4_0])), (18, (iq (wq (((wu (wq (a1 + a3)))).fdiv (2 ^ min ((1 : Int)).toNat (IntKind.bits .u64)))))), (19, (iq (wq ((wq (((wu (wq (a1 + a3)))).fdiv (2 ^ min ((1 : Int)).toNat (IntKind.bits .u64)))) + a2)))), (20, (iq l31i20)), (21, (iq l31i21)), (22, (iq (wq ((wq ((wq (((wu (wq (a1 + a3)))).fdiv (2 ^ min ((1 : Int)).toNat (IntKind.bits .u64)))) + a2)) - (1 : Int)))))])) ?_
      refine aw_seq ?_
      refine aw_sr ?_
      refine al_mv rfl rfl ?_
      refine al_mv rfl rfl ?_
      refine al_in rfl rfl rfl rfl ?_
      refine al_nt ?_
      refine aw_cond rfl (fun hb34 => ?_) (fun hb34 => ?_)
      ·replace h := bif_t hb34 h
       refine aw_skip ?_
       refine aq_then ?_
       refine aw_block ?_
       refine aw_sr ?_
       refine al_mv rfl rfl ?_
       refine al_mv rfl rfl ?_
       refine al_in rfl rfl rfl rfl ?_
       refine al_val (ov_convInt (by rw [Try.underlying3]; rfl) Try.underlying225 rfl rfl) ?_
       refine al_val (ov_shr (by decide) rfl rfl rfl) ?_
       refine al_val (ov_convInt (by rw [Try.underlying225]; rfl) Try.underlying3 rfl rfl) ?_
       refine al_as rfl rfl ?_
       refine al_nt ?_
       refine aw_seq ?_
       obtain ⟨u35, hu36, h⟩ := opt_some h
       obtain ⟨u39, hu40, h⟩ := opt_some h
       obtain ⟨r44, hc43, h⟩ := opt_some h
       refine aw_region_draw 13 [(158, (fun u => fEq u (Value.func (.func 73) #[] #[c4_0]))), (159, (fun u => fEq u v0_0)), (160, (fun u => fEq u (iq (wq ((wq ((wq (((wu (wq (a1 + a3)))).fdiv (2 ^ min ((1 : Int)).toNat (IntKind.bits .u64)))) + a2)) - (1 : Int)))))), (161, (fun u => fEq u (iq (wq (((wu (wq (l31i20 + l31i21)))).fdiv (2 ^ min ((1 : Int)).toNat (IntKind.bits .u64))))))), (162, (fun u => fEq u (iq (wq ((wq ((wq ((wq (((wu (wq (a1 + a3)))).fdiv (2 ^ min ((1 : Int)).toNat (IntKind.bits .u64)))) + a2)) - (1 : Int))) - (wq (((wu (wq (l31i20 + l31i21)))).fdiv (2 ^ min ((1 : Int)).toNat (IntKind.bits .u64))))))))), (163, (fun p => fElt v0_0 p (((wq ((wq ((wq ((wq (((wu (wq (a1 + a3)))).fdiv (2 ^ min ((1 : Int)).toNat (IntKind.bits .u64)))) + a2)) - (1 : Int))) - (wq (((wu (wq (l31i20 + l31i21)))).fdiv (2 ^ min ((1 : Int)).toNat (IntKind.bits .u64))))))).toNat * Ty.size tq))), (164, (fun u => fEq u (iq u35))), (165, (fun u => fEq u v0_0)), (166, (fun u => fEq u (iq (wq (((wu (wq (l31i20 + l31i21)))).fdiv (2 ^ min ((1 : Int)).toNat (IntKind.bits .u64))))))), (167, (fun p => fElt v0_0 p (((wq (((wu (wq (l31i20 + l31i21)))).fdiv (2 ^ min ((1 : Int)).toNat (IntKind.bits .u64))))).toNat * Ty.size tq))), (168, (fun u => fEq u (iq u39))), (169, (fun u => fEq u (iq r44))), (170, (fun u => fEq u (bool (decide (r44 < (0 : Int))))))] (tab [(0, v0_0), (1, (iq a1)), (2, (iq a2)), (3, (iq a3)), (4, (Value.func (.func 73) #[] #[c4_0])), (18, (iq (wq (((wu (wq (a1 + a3)))).fdiv (2 ^ min ((1 : Int)).toNat (IntKind.bits .u64)))))), (19, (iq (wq ((wq (((wu (wq (a1 + a3)))).fdiv (2 ^ min ((1 : Int)).toNat (IntKind.bits .u64)))) + a2)))), (20, (iq l31i20)), (21, (iq l31i21)), (22, (iq (wq ((wq ((wq (((wu (wq (a1 + a3)))).fdiv (2 ^ min ((1 : Int)).toNat (IntKind.bits .u64)))) + a2)) - (1 : Int))))), (23, (iq (wq (((wu (wq (l31i20 + l31i21)))).fdiv (2 ^ min ((1 : Int)).toNat (IntKind.bits .u64))))))]) mixed (by kernel_rfl) rfl rfl rfl (fun a hs => hs.tab _ (allT_mem ⟨rfl, rfl, rfl, rfl, rfl, rfl, rfl, rfl, rfl, rfl, rfl, trivial⟩)) ⟨⟨rfl, ld_val (ov_move rfl rfl)⟩, ⟨rfl, ld_val (ov_move rfl rfl)⟩, ⟨rfl, ld_val (ov_move rfl rfl)⟩, ⟨rfl, ld_val (ov_move rfl rfl)⟩, ⟨rfl, ld_eq (j := 2) rfl rfl (ld_eq (j := 3) rfl rfl (ld_val (ov_int rfl rfl rfl rfl)))⟩, ⟨rfl, ld_eq (j := 1) rfl rfl (ld_eq (j := 4) rfl rfl (ld_of (of_idxR 0 (at_some hu36).1 (at_some hu36).2.1 rfl rfl rfl Try.underlying49 sz3 rfl)))⟩, ⟨rfl, ld_elt (j := 5) rfl rfl (fun p37 hp38 => ld_val (ov_loadR (ds := [(iq u35)]) 0 rfl hp38 (at_some hu36).2.2 (fun h => h) rfl Try.underlying3 sz3 rfl rfl rfl))⟩, ⟨rfl, ld_val (ov_move rfl rfl)⟩, ⟨rfl, ld_val (ov_move rfl rfl)⟩, ⟨rfl, ld_eq (j := 7) rfl rfl (ld_eq (j := 8) rfl rfl (ld_of (of_idxR 0 (at_some hu40).1 (at_some hu40).2.1 rfl rfl rfl Try.underlying49 sz3 rfl)))⟩, ⟨rfl, ld_elt (j := 9) rfl rfl (fun p41 hp42 => ld_val (ov_loadR (ds := [(iq u39)]) 0 rfl hp42 (at_some hu40).2.2 (fun h => h) rfl Try.underlying3 sz3 rfl rfl rfl))⟩, ⟨rfl, ld_eq (j := 0) rfl rfl (ld_eq (j := 6) rfl rfl (ld_eq (j := 10) rfl rfl (ld_callF (vs := [(iq u35), (iq u39)]) (caps := [c4_0]) (f_waste_Choose_1_ok fu u35 u39 c4_0 a4_0 hc43) rfl [] (pre_fz 0 rfl pre_nil) rfl rfl Try.func73 rfl rfl rfl)))⟩, ⟨rfl, ld_eq (j := 11) rfl rfl (ld_val (ov_int rfl rfl rfl rfl))⟩, trivial⟩ ?_
       refine tl_eq 12 rfl ?_
       refine tl_done ?_
       refine al_val (ov_not rfl rfl) ?_
       refine al_nt ?_
       refine aw_cond rfl (fun hb45 => ?_) (fun hb45 => ?_)
       ·replace h := bif_t hb45 h
        refine aw_region ?_
        refine al_mv rfl rfl ?_
        refine al_in rfl rfl rfl rfl ?_
        refine al_as rfl rfl ?_
        refine al_nil ?_
        refine aq_block ?_
        exact aq_again k32 ((wq ((wq (((wu (wq (l31i20 + l31i21)))).fdiv (2 ^ min ((1 : Int)).toNat (IntKind.bits .u64)))) + (1 : Int))), l31i21) (Nat.lt_succ_self _) h (fun w a hm hs => norm hm hs [0] [0] [(0, v0_0), (1, (iq a1)), (2, (iq a2)), (3, (iq a3)), (4, (Value.func (.func 73) #[] #[c4_0])), (18, (iq (wq (((wu (wq (a1 + a3)))).fdiv (2 ^ min ((1 : Int)).toNat (IntKind.bits .u64)))))), (19, (iq (wq ((wq (((wu (wq (a1 + a3)))).fdiv (2 ^ min ((1 : Int)).toNat (IntKind.bits .u64)))) + a2)))), (20, (iq (wq ((wq (((wu (wq (l31i20 + l31i21)))).fdiv (2 ^ min ((1 : Int)).toNat (IntKind.bits .u64)))) + (1 : Int))))), (21, (iq l31i21)), (22, (iq (wq ((wq ((wq (((wu (wq (a1 + a3)))).fdiv (2 ^ min ((1 : Int)).toNat (IntKind.bits .u64)))) + a2)) - (1 : Int)))))] (by decide) ⟨rfl, rfl, rfl, rfl, rfl, rfl, rfl, rfl, rfl, rfl, trivial⟩)
       ·replace h := bif_f hb45 h
        refine aw_region ?_
        refine al_mv rfl rfl ?_
        refine al_as rfl rfl ?_
        refine al_nil ?_
        refine aq_block ?_
        exact aq_again k32 (l31i20, (wq (((wu (wq (l31i20 + l31i21)))).fdiv (2 ^ min ((1 : Int)).toNat (IntKind.bits .u64))))) (Nat.lt_succ_self _) h (fun w a hm hs => norm hm hs [0] [0] [(0, v0_0), (1, (iq a1)), (2, (iq a2)), (3, (iq a3)), (4, (Value.func (.func 73) #[] #[c4_0])), (18, (iq (wq (((wu (wq (a1 + a3)))).fdiv (2 ^ min ((1 : Int)).toNat (IntKind.bits .u64)))))), (19, (iq (wq ((wq (((wu (wq (a1 + a3)))).fdiv (2 ^ min ((1 : Int)).toNat (IntKind.bits .u64)))) + a2)))), (20, (iq l31i20)), (21, (iq (wq (((wu (wq (l31i20 + l31i21)))).fdiv (2 ^ min ((1 : Int)).toNat (IntKind.bits .u64)))))), (22, (iq (wq ((wq ((wq (((wu (wq (a1 + a3)))).fdiv (2 ^ min ((1 : Int)).toNat (IntKind.bits .u64)))) + a2)) - (1 : Int)))))] (by decide) ⟨rfl, rfl, rfl, rfl, rfl, rfl, rfl, rfl, rfl, rfl, trivial⟩)
      ·replace h := bif_f hb34 h
       refine aw_exit ?_
       refine aq_then_exit ?_
       refine aq_then_exit ?_
       refine aq_block_exit ?_
       exact aq_join l31i20 h (fun w a hm hs => norm hm hs [0] [0] [(0, v0_0), (1, (iq a1)), (2, (iq a2)), (3, (iq a3)), (4, (Value.func (.func 73) #[] #[c4_0])), (18, (iq (wq (((wu (wq (a1 + a3)))).fdiv (2 ^ min ((1 : Int)).toNat (IntKind.bits .u64)))))), (19, (iq (wq ((wq (((wu (wq (a1 + a3)))).fdiv (2 ^ min ((1 : Int)).toNat (IntKind.bits .u64)))) + a2)))), (20, (iq l31i20))] (by decide) ⟨rfl, rfl, rfl, rfl, rfl, rfl, rfl, rfl, trivial⟩)
    ·clear hkk6
     refine aw_sr ?_
     refine al_mv rfl rfl ?_
     refine al_mv rfl rfl ?_
     refine al_in rfl rfl rfl rfl ?_
     refine al_nt ?_
     refine aw_cond rfl (fun hb46 => ?_) (fun hb46 => ?_)
     ·replace h := bif_t hb46 h
      refine aw_sr ?_
      refine al_mv rfl rfl ?_
      refine al_mv rfl rfl ?_
      refine al_in rfl rfl rfl rfl ?_
      refine al_as rfl rfl ?_
      refine al_nt ?_
      refine aw_region ?_
      refine al_mv rfl rfl ?_
      refine al_as rfl rfl ?_
      refine al_nil ?_
      exact aq_join ((wq ((wq ((wq (((wu (wq (a1 + a3)))).fdiv (2 ^ min ((1 : Int)).toNat (IntKind.bits .u64)))) + a2)) - a3)), (wq (((wu (wq (a1 + a3)))).fdiv (2 ^ min ((1 : Int)).toNat (IntKind.bits .u64))))) h (fun w a hm hs => norm hm hs [0] [0] [(0, v0_0), (1, (iq a1)), (2, (iq a2)), (3, (iq a3)), (4, (Value.func (.func 73) #[] #[c4_0])), (18, (iq (wq (((wu (wq (a1 + a3)))).fdiv (2 ^ min ((1 : Int)).toNat (IntKind.bits .u64)))))), (19, (iq (wq ((wq (((wu (wq (a1 + a3)))).fdiv (2 ^ min ((1 : Int)).toNat (IntKind.bits .u64)))) + a2)))), (20, (iq (wq ((wq ((wq (((wu (wq (a1 + a3)))).fdiv (2 ^ min ((1 : Int)).toNat (IntKind.bits .u64)))) + a2)) - a3)))), (21, (iq (wq (((wu (wq (a1 + a3)))).fdiv (2 ^ min ((1 : Int)).toNat (IntKind.bits .u64))))))] (by decide) ⟨rfl, rfl, rfl, rfl, rfl, rfl, rfl, rfl, rfl, trivial⟩)
     ·replace h := bif_f hb46 h
      refine aw_sr ?_
      refine al_mv rfl rfl ?_
      refine al_as rfl rfl ?_
      refine al_nt ?_
      refine aw_region ?_
      refine al_mv rfl rfl ?_
      refine al_as rfl rfl ?_
      refine al_nil ?_
      exact aq_join (a1, a2) h (fun w a hm hs => norm hm hs [0] [0] [(0, v0_0), (1, (iq a1)), (2, (iq a2)), (3, (iq a3)), (4, (Value.func (.func 73) #[] #[c4_0])), (18, (iq (wq (((wu (wq (a1 + a3)))).fdiv (2 ^ min ((1 : Int)).toNat (IntKind.bits .u64)))))), (19, (iq (wq ((wq (((wu (wq (a1 + a3)))).fdiv (2 ^ min ((1 : Int)).toNat (IntKind.bits .u64)))) + a2)))), (20, (iq a1)), (21, (iq a2))] (by decide) ⟨rfl, rfl, rfl, rfl, rfl, rfl, rfl, rfl, rfl, trivial⟩)
   ·clear hkk4
    refine aw_sr ?_
    refine al_mv rfl rfl ?_
    refine al_mv rfl rfl ?_
    refine al_in rfl rfl rfl rfl ?_
    refine al_in rfl rfl rfl rfl ?_
    refine al_nt ?_
    refine aw_cond rfl (fun hb47 => ?_) (fun hb47 => ?_)
    ·replace h := bif_t hb47 h
     refine aw_sr ?_
     refine al_mv rfl rfl ?_
     refine al_as rfl rfl ?_
     refine al_nt ?_
     refine aw_sr ?_
     refine al_mv rfl rfl ?_
     refine al_as rfl rfl ?_
     refine al_nt ?_
     obtain ⟨kk49, hkk49, h⟩ := lt_some h
     refine aw_seq_join (ι := Int) (fun i => (memOf w0 Z0 [(oRow v0_0 3 tq a0)] [(oRow v0_0 3 tq a0)] [(fPtr (tyList tyS_api_Waste) c4_0 a4_0)])) (fun i => (tab [(0, v0_0), (2, (iq a2)), (14, (iq i))])) (fun i => kk49 i = some r) ?_ ?_
     ·rintro j48i14 h
      have h : kk49 j48i14 = some r := h
      rw [hkk49] at h
      dsimp only at h
      clear hkk49
      refine aw_show (m := (memOf w0 Z0 [(oRow v0_0 3 tq a0)] [(oRow v0_0 3 tq a0)] [(fPtr (tyList tyS_api_Waste) c4_0 a4_0)])) (S := (tab [(0, v0_0), (2, (iq a2)), (14, (iq j48i14))])) ?_
      obtain ⟨kk51, hkk51, h⟩ := lt_some h
      refine aw_seq_join (ι := (List Int)) (fun i => (memOf w0 Z0 [(oRow v0_0 3 tq a0)] [(oRow v0_0 3 tq i)] [(fPtr (tyList tyS_api_Waste) c4_0 a4_0)])) (fun i => (tab [(0, v0_0)])) (fun i => kk51 i = some r) ?_ ?_
      ·rintro j50x0 h
       have h : kk51 j50x0 = some r := h
       rw [hkk51] at h
       dsimp only at h
       clear hkk51
       refine aw_show (m := (memOf w0 Z0 [(oRow v0_0 3 tq a0)] [(oRow v0_0 3 tq j50x0)] [(fPtr (tyList tyS_api_Waste) c4_0 a4_0)])) (S := (tab [(0, v0_0)])) ?_
       refine aw_ret ?_
       refine aq_then_ret ?_
       obtain rfl := Option.some.inj h
       exact fn_ret () [0] [] rfl rfl rfl rfl (resC rfl (resN) rfl) rfl rfl rfl (by decide)
      ·clear hkk51
       refine aw_sr ?_
       refine al_mv rfl rfl ?_
       refine al_as rfl rfl ?_
       refine al_nt ?_
       refine aw_block ?_
       refine aw_state (aw_loop (ι := (List Int) × Int) (fun i => (memOf w0 Z0 [(oRow v0_0 3 tq a0)] [(oRow v0_0 3 tq i.1)] [(fPtr (tyList tyS_api_Waste) c4_0 a4_0)])) (fun i => (tab [(0, v0_0), (14, (iq j48i14)), (17, (iq i.2))])) (fun q i => f_slices_symMergeCmpFunc_int__lent_F73_L54 j48i14 kk51 q i.1 i.2 = some r) ?_ fu (a0, a2) h) (fun w a hm hs => norm hm hs [0] [0] [(0, v0_0), (14, (iq j48i14)), (17, (iq a2))] (by decide) ⟨rfl, rfl, rfl, trivial⟩)
       clear h
       rintro k53 ⟨l52x0, l52i17⟩ h
       have h : f_slices_symMergeCmpFunc_int__lent_F73_L54 j48i14 kk51 k53 l52x0 l52i17 = some r := h
       obtain _ | k53 := k53
       · rw [f_slices_symMergeCmpFunc_int__lent_F73_L54] at h; cases h
       rw [f_slices_symMergeCmpFunc_int__lent_F73_L54] at h
       refine aw_show (m := (memOf w0 Z0 [(oRow v0_0 3 tq a0)] [(oRow v0_0 3 tq l52x0)] [(fPtr (tyList tyS_api_Waste) c4_0 a4_0)])) (S := (tab [(0, v0_0), (14, (iq j48i14)), (17, (iq l52i17))])) ?_
       refine aw_seq ?_
       refine aw_sr ?_
       refine al_mv rfl rfl ?_
       refine al_mv rfl rfl ?_
       refine al_in rfl rfl rfl rfl ?_
       refine al_nt ?_
       refine aw_cond rfl (fun hb55 => ?_) (fun hb55 => ?_)
       ·replace h := bif_t hb55 h
        refine aw_skip ?_
        refine aq_then ?_
        refine aw_seq ?_
        refine aw_block ?_
        obtain ⟨u56, hu57, h⟩ := opt_some h
        obtain ⟨u60, hu61, h⟩ := opt_some h
        obtain ⟨u64, hu65, h⟩ := opt_some h
        refine aw_region_open [⟨0, 113, Unit, fun _ => { val := v0_0 }⟩, ⟨1, 114, Unit, fun _ => { val := (iq l52i17) }⟩, ⟨2, 115, Unit, fun _ => { val := v0_0 }⟩, ⟨3, 116, Unit, fun _ => { val := (iq l52i17) }⟩, ⟨4, 117, Unit, fun _ => { val := (iq (wq (l52i17 - (1 : Int)))) }⟩, ⟨5, 118, Unit, fun _ => { val := v0_0 }⟩, ⟨6, 119, Unit, fun _ => { val := (iq l52i17) }⟩, ⟨7, 120, Unit, fun _ => { val := (iq (wq (l52i17 - (1 : Int)))) }⟩, ⟨8, 121, {p : Value // EltOf v0_0 p (((wq (l52i17 - (1 : Int)))).toNat * Ty.size tq)}, fun p => { val := p.1 }⟩, ⟨9, 122, Unit, fun _ => { val := (iq u56) }⟩, ⟨10, 123, Unit, fun _ => { val := v0_0 }⟩, ⟨11, 124, Unit, fun _ => { val := (iq l52i17) }⟩, ⟨12, 125, {p : Value // EltOf v0_0 p ((l52i17).toNat * Ty.size tq)}, fun p => { val := p.1 }⟩, ⟨13, 126, Unit, fun _ => { val := (iq u60) }⟩, ⟨14, 127, {p : Value // EltOf v0_0 p ((l52i17).toNat * Ty.size tq)}, fun p => { val := p.1 }⟩] (tab [(0, v0_0), (14, (iq j48i14)), (17, (iq l52i17))]) mixed (fun a hs => hs.tab _ (allT_mem ⟨rfl, rfl, rfl, trivial⟩)) ?_
        refine ta_show (m := (memOf w0 Z0 [(oRow v0_0 3 tq a0)] [(oRow v0_0 3 tq l52x0)] [(fPtr (tyList tyS_api_Waste) c4_0 a4_0)])) (S := (tab [(0, v0_0), (14, (iq j48i14)), (17, (iq l52i17))])) ?_
        refine ta_step 15 _ [0, 1, 2, 3, 4, 5, 6, 7, 8, 9, 10, 11, 12, 13, 14] [113, 114, 115, 116, 117, 118, 119, 120, 121, 122, 123, 124, 125, 126, 127] [0, 1, 5, 6, 7, 8, 9, 10, 11, 12, 13, 14] [16] [⟨0, 113, Unit, fun _ => { val := v0_0 }⟩, ⟨1, 114, Unit, fun _ => { val := (iq l52i17) }⟩, ⟨5, 118, Unit, fun _ => { val := v0_0 }⟩, ⟨6, 119, Unit, fun _ => { val := (iq l52i17) }⟩, ⟨7, 120, Unit, fun _ => { val := (iq (wq (l52i17 - (1 : Int)))) }⟩, ⟨8, 121, {p : Value // EltOf v0_0 p (((wq (l52i17 - (1 : Int)))).toNat * Ty.size tq)}, fun p => { val := p.1 }⟩, ⟨9, 122, Unit, fun _ => { val := (iq u56) }⟩, ⟨10, 123, Unit, fun _ => { val := v0_0 }⟩, ⟨11, 124, Unit, fun _ => { val := (iq l52i17) }⟩, ⟨12, 125, {p : Value // EltOf v0_0 p ((l52i17).toNat * Ty.size tq)}, fun p => { val := p.1 }⟩, ⟨13, 126, Unit, fun _ => { val := (iq u60) }⟩, ⟨14, 127, {p : Value // EltOf v0_0 p ((l52i17).toNat * Ty.size tq)}, fun p => { val := p.1 }⟩] [⟨2, 115, Unit, fun _ => { val := v0_0 }⟩, ⟨3, 116, Unit, fun _ => { val := (iq l52i17) }⟩, ⟨4, 117, Unit, fun _ => { val := (iq (wq (l52i17 - (1 : Int)))) }⟩] rfl rfl rfl (by kernel_rfl) rfl rfl rfl ⟨⟨_, rfl, [], rfl, by
 intro X_ Y_ F_ K_ hK_
 refine al_show (m := Mem.plus (memOf w0 Z0 [(oRow v0_0 3 tq a0)] [(oRow v0_0 3 tq l52x0)] [(fPtr (tyList tyS_api_Waste) c4_0 a4_0)]) X_ Y_) (S := over (tab [(0, v0_0), (14, (iq j48i14)), (17, (iq l52i17))]) F_) ?_
 refine al_mv rfl rfl ?_
 refine al_nil ?_
 exact fr_fin hK_ ()⟩, ⟨_, rfl, [], rfl, by
 intro X_ Y_ F_ K_ hK_
 refine al_show (m := Mem.plus (memOf w0 Z0 [(oRow v0_0 3 tq a0)] [(oRow v0_0 3 tq l52x0)] [(fPtr (tyList tyS_api_Waste) c4_0 a4_0)]) X_ Y_) (S := over (tab [(0, v0_0), (14, (iq j48i14)), (17, (iq l52i17))]) F_) ?_
 refine al_mv rfl rfl ?_
 refine al_nil ?_
 exact fr_fin hK_ ()⟩, ⟨_, rfl, [], rfl, by
 intro X_ Y_ F_ K_ hK_
 refine al_show (m := Mem.plus (memOf w0 Z0 [(oRow v0_0 3 tq a0)] [(oRow v0_0 3 tq l52x0)] [(fPtr (tyList tyS_api_Waste) c4_0 a4_0)]) X_ Y_) (S := over (tab [(0, v0_0), (14, (iq j48i14)), (17, (iq l52i17))]) F_) ?_
 refine al_mv rfl rfl ?_
 refine al_nil ?_
 exact fr_fin hK_ ()⟩, ⟨_, rfl, [], rfl, by
 intro X_ Y_ F_ K_ hK_
 refine al_show (m := Mem.plus (memOf w0 Z0 [(oRow v0_0 3 tq a0)] [(oRow v0_0 3 tq l52x0)] [(fPtr (tyList tyS_api_Waste) c4_0 a4_0)]) X_ Y_) (S := over (tab [(0, v0_0), (14, (iq j48i14)), (17, (iq l52i17))]) F_) ?_
 refine al_mv rfl rfl ?_
 refine al_nil ?_
 exact fr_fin hK_ ()⟩, ⟨_, rfl, [3], rfl, by
 intro _
 intro X_ Y_ F_ K_ hK_
 refine al_show (m := Mem.plus (memOf w0 Z0 [(oRow v0_0 3 tq a0)] [(oRow v0_0 3 tq l52x0)] [(fPtr (tyList tyS_api_Waste) c4_0 a4_0)]) X_ Y_) (S := over (put (tab [(0, v0_0), (14, (iq j48i14)), (17, (iq l52i17))]) 116 (iq l52i17)) F_) ?_
 refine al_in rfl rfl rfl rfl ?_
 refine al_nil ?_
 exact fr_fin hK_ ()⟩, ⟨_, rfl, [], rfl, by
 intro X_ Y_ F_ K_ hK_
 refine al_show (m := Mem.plus (memOf w0 Z0 [(oRow v0_0 3 tq a0)] [(oRow v0_0 3 tq l52x0)] [(fPtr (tyList tyS_api_Waste) c4_0 a4_0)]) X_ Y_) (S := over (tab [(0, v0_0), (14, (iq j48i14)), (17, (iq l52i17))]) F_) ?_
 refine al_mv rfl rfl ?_
 refine al_nil ?_
 exact fr_fin hK_ ()⟩, ⟨_, rfl, [], rfl, by
 intro X_ Y_ F_ K_ hK_
 refine al_show (m := Mem.plus (memOf w0 Z0 [(oRow v0_0 3 tq a0)] [(oRow v0_0 3 tq l52x0)] [(fPtr (tyList tyS_api_Waste) c4_0 a4_0)]) X_ Y_) (S := over (tab [(0, v0_0), (14, (iq j48i14)), (17, (iq l52i17))]) F_) ?_
 refine al_mv rfl rfl ?_
 refine al_nil ?_
 exact fr_fin hK_ ()⟩, ⟨_, rfl, [6], rfl, by
 intro _
 intro X_ Y_ F_ K_ hK_
 refine al_show (m := Mem.plus (memOf w0 Z0 [(oRow v0_0 3 tq a0)] [(oRow v0_0 3 tq l52x0)] [(fPtr (tyList tyS_api_Waste) c4_0 a4_0)]) X_ Y_) (S := over (put (tab [(0, v0_0), (14, (iq j48i14)), (17, (iq l52i17))]) 119 (iq l52i17)) F_) ?_
 refine al_in rfl rfl rfl rfl ?_
 refine al_nil ?_
 exact fr_fin hK_ ()⟩, ⟨_, rfl, [5, 7], rfl, by
 intro _
 intro _
 intro X_ Y_ F_ K_ hK_
 refine al_show (m := Mem.plus (memOf w0 Z0 [(oRow v0_0 3 tq a0)] [(oRow v0_0 3 tq l52x0)] [(fPtr (tyList tyS_api_Waste) c4_0 a4_0)]) X_ Y_) (S := over (put (put (tab [(0, v0_0), (14, (iq j48i14)), (17, (iq l52i17))]) 118 v0_0) 120 (iq (wq (l52i17 - (1 : Int))))) F_) ?_
 refine al_idxR 0 (at_some hu57).1 (at_some hu57).2.1 rfl rfl rfl Try.underlying49 sz3 rfl (fun p58 hp59 => ?_)
 refine al_nil ?_
 exact fr_fin hK_ ⟨p58, hp59⟩⟩, ⟨_, rfl, [8], rfl, by
 rintro ⟨p58, hp59⟩
 intro X_ Y_ F_ K_ hK_
 refine al_show (m := Mem.plus (memOf w0 Z0 [(oRow v0_0 3 tq a0)] [(oRow v0_0 3 tq l52x0)] [(fPtr (tyList tyS_api_Waste) c4_0 a4_0)]) X_ Y_) (S := over (put (tab [(0, v0_0), (14, (iq j48i14)), (17, (iq l52i17))]) 121 p58) F_) ?_
 refine al_val (ov_loadR (ds := [(iq u56)]) 0 rfl hp59 (at_some hu57).2.2 (fun h => h) rfl Try.underlying3 sz3 rfl rfl rfl) ?_
 refine al_nil ?_
 exact fr_fin hK_ ()⟩, ⟨_, rfl, [], rfl, by
 intro X_ Y_ F_ K_ hK_
 refine al_show (m := Mem.plus (memOf w0 Z0 [(oRow v0_0 3 tq a0)] [(oRow v0_0 3 tq l52x0)] [(fPtr (tyList tyS_api_Waste) c4_0 a4_0)]) X_ Y_) (S := over (tab [(0, v0_0), (14, (iq j48i14)), (17, (iq l52i17))]) F_) ?_
 refine al_mv rfl rfl ?_
 refine al_nil ?_
 exact fr_fin hK_ ()⟩, ⟨_, rfl, [], rfl, by
 intro X_ Y_ F_ K_ hK_
 refine al_show (m := Mem.plus (memOf w0 Z0 [(oRow v0_0 3 tq a0)] [(oRow v0_0 3 tq l52x0)] [(fPtr (tyList tyS_api_Waste) c4_0 a4_0)]) X_ Y_) (S := over (tab [(0, v0_0), (14, (iq j48i14)), (17, (iq l52i17))]) F_) ?_
 refine al_mv rfl rfl ?_
 refine al_nil ?_
 exact fr_fin hK_ ()⟩, ⟨_, rfl, [10, 11], rfl, by
 intro _
 intro _
 intro X_ Y_ F_ K_ hK_
 refine al_show (m := Mem.plus (memOf w0 Z0 [(oRow v0_0 3 tq a0)] [(oRow v0_0 3 tq l52x0)] [(fPtr (tyList tyS_api_Waste) c4_0 a4_0)]) X_ Y_) (S := over (put (put (tab [(0, v0_0), (14, (iq j48i14)), (17, (iq l52i17))]) 123 v0_0) 124 (iq l52i17)) F_) ?_
 refine al_idxR 0 (at_some hu61).1 (at_some hu61).2.1 rfl rfl rfl Try.underlying49 sz3 rfl (fun p62 hp63 => ?_)
 refine al_nil ?_
 exact fr_fin hK_ ⟨p62, hp63⟩⟩, ⟨_, rfl, [12], rfl, by
 rintro ⟨p62, hp63⟩
 intro X_ Y_ F_ K_ hK_
 refine al_show (m := Mem.plus (memOf w0 Z0 [(oRow v0_0 3 tq a0)] [(oRow v0_0 3 tq l52x0)] [(fPtr (tyList tyS_api_Waste) c4_0 a4_0)]) X_ Y_) (S := over (put (tab [(0, v0_0), (14, (iq j48i14)), (17, (iq l52i17))]) 125 p62) F_) ?_
 refine al_val (ov_loadR (ds := [(iq u60)]) 0 rfl hp63 (at_some hu61).2.2 (fun h => h) rfl Try.underlying3 sz3 rfl rfl rfl) ?_
 refine al_nil ?_
 exact fr_fin hK_ ()⟩, ⟨_, rfl, [0, 1, 5, 6, 7, 8, 9, 13], rfl, by
 intro _
 intro _
 intro _
 intro _
 intro _
 rintro ⟨p58, hp59⟩
 intro _
 intro _
 intro X_ Y_ F_ K_ hK_
 refine al_show (m := Mem.plus (memOf w0 Z0 [(oRow v0_0 3 tq a0)] [(oRow v0_0 3 tq l52x0)] [(fPtr (tyList tyS_api_Waste) c4_0 a4_0)]) X_ Y_) (S := over (put (put (put (put (put (put (put (put (tab [(0, v0_0), (14, (iq j48i14)), (17, (iq l52i17))]) 113 v0_0) 114 (iq l52i17)) 118 v0_0) 119 (iq l52i17)) 120 (iq (wq (l52i17 - (1 : Int))))) 121 p58) 122 (iq u56)) 126 (iq u60)) F_) ?_
 refine al_idxR 0 (at_some hu65).1 (at_some hu65).2.1 rfl rfl rfl Try.underlying49 sz3 rfl (fun p66 hp67 => ?_)
 refine al_nil ?_
 exact fr_fin hK_ ⟨p66, hp67⟩⟩, trivial⟩ ?_
        intro _
        intro _
        intro _
        intro _
        intro _
        rintro ⟨p58, hp59⟩
        intro _
        intro _
        intro _
        rintro ⟨p62, hp63⟩
        intro _
        rintro ⟨p66, hp67⟩
        intro X_ Y_ F_ K_ hK_
        refine al_show (m := Mem.plus (memOf w0 Z0 [(oRow v0_0 3 tq a0)] [(oRow v0_0 3 tq l52x0)] [(fPtr (tyList tyS_api_Waste) c4_0 a4_0)]) X_ Y_) (S := over (put (put (put (put (put (put (put (put (put (put (put (put (tab [(0, v0_0), (14, (iq j48i14)), (17, (iq l52i17))]) 113 v0_0) 114 (iq l52i17)) 118 v0_0) 119 (iq l52i17)) 120 (iq (wq (l52i17 - (1 : Int))))) 121 p58) 122 (iq u56)) 123 v0_0) 124 (iq l52i17)) 125 p62) 126 (iq u60)) 127 p66) F_) ?_
        refine al_storeR (k := (l52i17).toNat) (x := u56) (vs := [(iq u56)]) 0 rfl hp67 (idx_lt hu65) rfl rfl (cv_rfl rfl) (fun _ => rfl) sz3 rfl ?_
        refine al_nil ?_
        obtain ⟨u68, hu69, h⟩ := opt_some h
        refine aq_show (m := Mem.plus (memOf w0 Z0 [(oRow v0_0 3 tq a0)] [(oRow v0_0 3 tq (l52x0.set (l52i17).toNat u56))] [(fPtr (tyList tyS_api_Waste) c4_0 a4_0)]) X_ Y_) ?_
        refine aq_next hK_ [0] [0] [(0, v0_0), (14, (iq j48i14)), (17, (iq l52i17)), (126, (iq u60))] [115, 116, 117] [⟨16, 128, {p : Value // EltOf v0_0 p (((wq (l52i17 - (1 : Int)))).toNat * Ty.size tq)}, fun p => { val := p.1 }⟩] rfl rfl (by decide) rfl ⟨rfl, rfl, rfl, rfl, trivial⟩ ⟨rfl, rfl, rfl, trivial⟩ ?_
        clear hK_ K_ F_ X_ Y_
        refine ta_show (m := (memOf w0 Z0 [(oRow v0_0 3 tq a0)] [(oRow v0_0 3 tq (l52x0.set (l52i17).toNat u56))] [(fPtr (tyList tyS_api_Waste) c4_0 a4_0)])) (S := (tab [(0, v0_0), (14, (iq j48i14)), (17, (iq l52i17)), (126, (iq u60))])) ?_
        refine ta_step 17 _ [2, 3, 4, 16] [115, 116, 117, 128] [2, 3, 4, 16] [] [⟨2, 115, Unit, fun _ => { val := v0_0 }⟩, ⟨3, 116, Unit, fun _ => { val := (iq l52i17) }⟩, ⟨4, 117, Unit, fun _ => { val := (iq (wq (l52i17 - (1 : Int)))) }⟩, ⟨16, 128, {p : Value // EltOf v0_0 p (((wq (l52i17 - (1 : Int)))).toNat * Ty.size tq)}, fun p => { val := p.1 }⟩] [] rfl rfl rfl (by kernel_rfl) rfl rfl rfl ⟨⟨_, rfl, [], rfl, by
 intro X_ Y_ F_ K_ hK_
 refine al_show (m := Mem.plus (memOf w0 Z0 [(oRow v0_0 3 tq a0)] [(oRow v0_0 3 tq (l52x0.set (l52i17).toNat u56))] [(fPtr (tyList tyS_api_Waste) c4_0 a4_0)]) X_ Y_) (S := over (tab [(0, v0_0), (14, (iq j48i14)), (17, (iq l52i17)), (126, (iq u60))]) F_) ?_
 refine al_mv rfl rfl ?_
 refine al_nil ?_
 exact fr_fin hK_ ()⟩, ⟨_, rfl, [], rfl, by
 intro X_ Y_ F_ K_ hK_
 refine al_show (m := Mem.plus (memOf w0 Z0 [(oRow v0_0 3 tq a0)] [(oRow v0_0 3 tq (l52x0.set (l52i17).toNat u56))] [(fPtr (tyList tyS_api_Waste) c4_0 a4_0)]) X_ Y_) (S := over (tab [(0, v0_0), (14, (iq j48i14)), (17, (iq l52i17)), (126, (iq u60))]) F_) ?_
 refine al_mv rfl rfl ?_
 refine al_nil ?_
 exact fr_fin hK_ ()⟩, ⟨_, rfl, [1], rfl, by
 intro _
 intro X_ Y_ F_ K_ hK_
 refine al_show (m := Mem.plus (memOf w0 Z0 [(oRow v0_0 3 tq a0)] [(oRow v0_0 3 tq (l52x0.set (l52i17).toNat u56))] [(fPtr (tyList tyS_api_Waste) c4_0 a4_0)]) X_ Y_) (S := over (put (tab [(0, v0_0), (14, (iq j48i14)), (17, (iq l52i17)), (126, (iq u60))]) 116 (iq l52i17)) F_) ?_
 refine al_in rfl rfl rfl rfl ?_
 refine al_nil ?_
 exact fr_fin hK_ ()⟩, ⟨_, rfl, [0, 1, 2], rfl, by
 intro _
 intro _
 intro _
 intro X_ Y_ F_ K_ hK_
 refine al_show (m := Mem.plus (memOf w0 Z0 [(oRow v0_0 3 tq a0)] [(oRow v0_0 3 tq (l52x0.set (l52i17).toNat u56))] [(fPtr (tyList tyS_api_Waste) c4_0 a4_0)]) X_ Y_) (S := over (put (put (put (tab [(0, v0_0), (14, (iq j48i14)), (17, (iq l52i17)), (126, (iq u60))]) 115 v0_0) 116 (iq l52i17)) 117 (iq (wq (l52i17 - (1 : Int))))) F_) ?_
 refine al_idxR 0 (at_some hu69).1 (at_some hu69).2.1 rfl rfl rfl Try.underlying49 sz3 rfl (fun p70 hp71 => ?_)
 refine al_nil ?_
 exact fr_fin hK_ ⟨p70, hp71⟩⟩, trivial⟩ ?_
        intro _
        intro _
        intro _
        rintro ⟨p70, hp71⟩
        intro X_ Y_ F_ K_ hK_
        refine al_show (m := Mem.plus (memOf w0 Z0 [(oRow v0_0 3 tq a0)] [(oRow v0_0 3 tq (l52x0.set (l52i17).toNat u56))] [(fPtr (tyList tyS_api_Waste) c4_0 a4_0)]) X_ Y_) (S := over (put (put (put (put (tab [(0, v0_0), (14, (iq j48i14)), (17, (iq l52i17)), (126, (iq u60))]) 115 v0_0) 116 (iq l52i17)) 117 (iq (wq (l52i17 - (1 : Int))))) 128 p70) F_) ?_
        refine al_storeR (k := ((wq (l52i17 - (1 : Int)))).toNat) (x := u60) (vs := [(iq u60)]) 0 rfl hp71 (idx_lt hu69) rfl rfl (cv_rfl rfl) (fun _ => rfl) sz3 rfl ?_
        refine al_nil ?_
        refine aq_show (m := Mem.plus (memOf w0 Z0 [(oRow v0_0 3 tq a0)] [(oRow v0_0 3 tq ((l52x0.set (l52i17).toNat u56).set ((wq (l52i17 - (1 : Int)))).toNat u60))] [(fPtr (tyList tyS_api_Waste) c4_0 a4_0)]) X_ Y_) ?_
        refine aq_next hK_ [0] [0] [(0, v0_0), (14, (iq j48i14)), (17, (iq l52i17))] [] [] rfl rfl (by decide) rfl ⟨rfl, rfl, rfl, trivial⟩ trivial ?_
        clear hK_ K_ F_ X_ Y_
        refine ta_show (m := (memOf w0 Z0 [(oRow v0_0 3 tq a0)] [(oRow v0_0 3 tq ((l52x0.set (l52i17).toNat u56).set ((wq (l52i17 - (1 : Int)))).toNat u60))] [(fPtr (tyList tyS_api_Waste) c4_0 a4_0)])) (S := (tab [(0, v0_0), (14, (iq j48i14)), (17, (iq l52i17))])) ?_
        refine ta_end [] [] rfl rfl (by kernel_rfl) rfl trivial ?_
        refine aq_show (m := (memOf w0 Z0 [(oRow v0_0 3 tq a0)] [(oRow v0_0 3 tq ((l52x0.set (l52i17).toNat u56).set ((wq (l52i17 - (1 : Int)))).toNat u60))] [(fPtr (tyList tyS_api_Waste) c4_0 a4_0)])) (S := (tab [(0, v0_0), (14, (iq j48i14)), (17, (iq l52i17))])) ?_
        refine aq_block ?_
        refine aq_then ?_
        refine aw_region ?_
        refine al_mv rfl rfl ?_
        refine al_in rfl rfl rfl rfl ?_
        refine al_as rfl rfl ?_
        refine al_nil ?_
        exact aq_again k53 (((l52x0.set (l52i17).toNat u56).set ((wq (l52i17 - (1 : Int)))).toNat u60), (wq (l52i17 - (1 : Int)))) (Nat.lt_succ_self _) h (fun w a hm hs => norm hm hs [0] [0] [(0, v0_0), (14, (iq j48i14)), (17, (iq (wq (l52i17 - (1 : Int)))))] (by decide) ⟨rfl, rfl, rfl, trivial⟩)
       ·replace h := bif_f hb55 h
        refine aw_exit ?_
        refine aq_then_exit ?_
        refine aq_then_exit ?_
        refine aq_block_exit ?_
        exact aq_join l52x0 h (fun w a hm hs => norm hm hs [0] [0] [(0, v0_0)] (by decide) ⟨rfl, trivial⟩)
     ·clear hkk49
      refine aw_block ?_
      refine aw_state (aw_loop (ι := Int × Int) (fun i => (memOf w0 Z0 [(oRow v0_0 3 tq a0)] [(oRow v0_0 3 tq a0)] [(fPtr (tyList tyS_api_Waste) c4_0 a4_0)])) (fun i => (tab [(0, v0_0), (2, (iq a2)), (4, (Value.func (.func 73) #[] #[c4_0])), (14, (iq i.1)), (15, (iq i.2))])) (fun q i => f_slices_symMergeCmpFunc_int__lent_F73_L74 a0 a2 a4_0 kk49 fu q i.1 i.2 = some r) ?_ fu (a1, a2) h) (fun w a hm hs => norm hm hs [0] [0] [(0, v0_0), (2, (iq a2)), (4, (Value.func (.func 73) #[] #[c4_0])), (14, (iq a1)), (15, (iq a2))] (by decide) ⟨rfl, rfl, rfl, rfl, rfl, trivial⟩)
      clear h
      rintro k73 ⟨l72i14, l72i15⟩ h
      have h : f_slices_symMergeCmpFunc_int__lent_F73_L74 a0 a2 a4_0 kk49 fu k73 l72i14 l72i15 = some r := h
      obtain _ | k73 := k73
      · rw [f_slices_symMergeCmpFunc_int__lent_F73_L74] at h; cases h
      rw [f_slices_symMergeCmpFunc_int__lent_F73_L74] at h
      refine aw_show (m := (memOf w0 Z0 [(oRow v0_0 3 tq a0)] [(oRow v0_0 3 tq a0)] [(fPtr (tyList tyS_api_Waste) c4_0 a4_0)])) (S := (tab [(0, v0_0), (2, (iq a2)), (4, (Value.func (.func 73) #[] #[c4_0])), (14, (iq l72i14)), (15, (iq l72i15))])) ?_
      refine aw_seq ?_
      refine aw_sr ?_
      refine al_mv rfl rfl ?_
      refine al_mv rfl rfl ?_
      refine al_in rfl rfl rfl rfl ?_
      refine al_nt ?_
      refine aw_cond rfl (fun hb75 => ?_) (fun hb75 => ?_)
      ·replace h := bif_t hb75 h
       refine aw_skip ?_
       refine aq_then ?_
       refine aw_block ?_
       refine aw_sr ?_
       refine al_mv rfl rfl ?_
       refine al_mv rfl rfl ?_
       refine al_in rfl rfl rfl rfl ?_
       refine al_val (ov_convInt (by rw [Try.underlying3]; rfl) Try.underlying225 rfl rfl) ?_
       refine al_val (ov_shr (by decide) rfl rfl rfl) ?_
       refine al_val (ov_convInt (by rw [Try.underlying225]; rfl) Try.underlying3 rfl rfl) ?_
       refine al_as rfl rfl ?_
       refine al_nt ?_
       refine aw_seq ?_
       obtain ⟨u76, hu77, h⟩ := opt_some h
       obtain ⟨u80, hu81, h⟩ := opt_some h
       obtain ⟨r85, hc84, h⟩ := opt_some h
       refine aw_region_draw 11 [(92, (fun u => fEq u (Value.func (.func 73) #[] #[c4_0]))), (93, (fun u => fEq u v0_0)), (94, (fun u => fEq u (iq a2))), (95, (fun p => fElt v0_0 p ((a2).toNat * Ty.size tq))), (96, (fun u => fEq u (iq u76))), (97, (fun u => fEq u v0_0)), (98, (fun u => fEq u (iq (wq (((wu (wq (l72i14 + l72i15)))).fdiv (2 ^ min ((1 : Int)).toNat (IntKind.bits .u64))))))), (99, (fun p => fElt v0_0 p (((wq (((wu (wq (l72i14 + l72i15)))).fdiv (2 ^ min ((1 : Int)).toNat (IntKind.bits .u64))))).toNat * Ty.size tq))), (100, (fun u => fEq u (iq u80))), (101, (fun u => fEq u (iq r85))), (102, (fun u => fEq u (bool (decide (r85 < (0 : Int))))))] (tab [(0, v0_0), (2, (iq a2)), (4, (Value.func (.func 73) #[] #[c4_0])), (14, (iq l72i14)), (15, (iq l72i15)), (16, (iq (wq (((wu (wq (l72i14 + l72i15)))).fdiv (2 ^ min ((1 : Int)).toNat (IntKind.bits .u64))))))]) mixed (by kernel_rfl) rfl rfl rfl (fun a hs => hs.tab _ (allT_mem ⟨rfl, rfl, rfl, rfl, rfl, rfl, trivial⟩)) ⟨⟨rfl, ld_val (ov_move rfl rfl)⟩, ⟨rfl, ld_val (ov_move rfl rfl)⟩, ⟨rfl, ld_val (ov_move rfl rfl)⟩, ⟨rfl, ld_eq (j := 1) rfl rfl (ld_eq (j := 2) rfl rfl (ld_of (of_idxR 0 (at_some hu77).1 (at_some hu77).2.1 rfl rfl rfl Try.underlying49 sz3 rfl)))⟩, ⟨rfl, ld_elt (j := 3) rfl rfl (fun p78 hp79 => ld_val (ov_loadR (ds := [(iq u76)]) 0 rfl hp79 (at_some hu77).2.2 (fun h => h) rfl Try.underlying3 sz3 rfl rfl rfl))⟩, ⟨rfl, ld_val (ov_move rfl rfl)⟩, ⟨rfl, ld_val (ov_move rfl rfl)⟩, ⟨rfl, ld_eq (j := 5) rfl rfl (ld_eq (j := 6) rfl rfl (ld_of (of_idxR 0 (at_some hu81).1 (at_some hu81).2.1 rfl rfl rfl Try.underlying49 sz3 rfl)))⟩, ⟨rfl, ld_elt (j := 7) rfl rfl (fun p82 hp83 => ld_val (ov_loadR (ds := [(iq u80)]) 0 rfl hp83 (at_some hu81).2.2 (fun h => h) rfl Try.underlying3 sz3 rfl rfl rfl))⟩, ⟨rfl, ld_eq (j := 0) rfl rfl (ld_eq (j := 4) rfl rfl (ld_eq (j := 8) rfl rfl (ld_callF (vs := [(iq u76), (iq u80)]) (caps := [c4_0]) (f_waste_Choose_1_ok fu u76 u80 c4_0 a4_0 hc84) rfl [] (pre_fz 0 rfl pre_nil) rfl rfl Try.func73 rfl rfl rfl)))⟩, ⟨rfl, ld_eq (j := 9) rfl rfl (ld_val (ov_int rfl rfl rfl rfl))⟩, trivial⟩ ?_
       refine tl_eq 10 rfl ?_
       refine tl_done ?_
       refine al_val (ov_not rfl rfl) ?_
       refine al_nt ?_
       refine aw_cond rfl (fun hb86 => ?_) (fun hb86 => ?_)
       ·replace h := bif_t hb86 h
        refine aw_region ?_
        refine al_mv rfl rfl ?_
        refine al_in rfl rfl rfl rfl ?_
        refine al_as rfl rfl ?_
        refine al_nil ?_
        refine aq_block ?_
        exact aq_again k73 ((wq ((wq (((wu (wq (l72i14 + l72i15)))).fdiv (2 ^ min ((1 : Int)).toNat (IntKind.bits .u64)))) + (1 : Int))), l72i15) (Nat.lt_succ_self _) h (fun w a hm hs => norm hm hs [0] [0] [(0, v0_0), (2, (iq a2)), (4, (Value.func (.func 73) #[] #[c4_0])), (14, (iq (wq ((wq (((wu (wq (l72i14 + l72i15)))).fdiv (2 ^ min ((1 : Int)).toNat (IntKind.bits .u64)))) + (1 : Int))))), (15, (iq l72i15))] (by decide) ⟨rfl, rfl, rfl, rfl, rfl, trivial⟩)
       ·replace h := bif_f hb86 h
        refine aw_region ?_
        refine al_mv rfl rfl ?_
        refine al_as rfl rfl ?_
        refine al_nil ?_
        refine aq_block ?_
        exact aq_again k73 (l72i14, (wq (((wu (wq (l72i14 + l72i15)))).fdiv (2 ^ min ((1 : Int)).toNat (IntKind.bits .u64))))) (Nat.lt_succ_self _) h (fun w a hm hs => norm hm hs [0] [0] [(0, v0_0), (2, (iq a2)), (4, (Value.func (.func 73) #[] #[c4_0])), (14, (iq l72i14)), (15, (iq (wq (((wu (wq (l72i14 + l72i15)))).fdiv (2 ^ min ((1 : Int)).toNat (IntKind.bits .u64))))))] (by decide) ⟨rfl, rfl, rfl, rfl, rfl, trivial⟩)
      ·replace h := bif_f hb75 h
       refine aw_exit ?_
       refine aq_then_exit ?_
       refine aq_then_exit ?_
       refine aq_block_exit ?_
       exact aq_join l72i14 h (fun w a hm hs => norm hm hs [0] [0] [(0, v0_0), (2, (iq a2)), (14, (iq l72i14))] (by decide) ⟨rfl, rfl, rfl, trivial⟩)
    ·replace h := bif_f hb47 h
     refine aw_skip ?_
     exact aq_join () h (fun w a hm hs => norm hm hs [0] [0] [(0, v0_0), (1, (iq a1)), (2, (iq a2)), (3, (iq a3)), (4, (Value.func (.func 73) #[] #[c4_0]))] (by decide) ⟨rfl, rfl, rfl, rfl, rfl, trivial⟩)
  ·clear hkk2
   refine aw_sr ?_
   refine al_mv rfl rfl ?_
   refine al_mv rfl rfl ?_
   refine al_in rfl rfl rfl rfl ?_
   refine al_in rfl rfl rfl rfl ?_
   refine al_nt ?_
   refine aw_cond rfl (fun hb87 => ?_) (fun hb87 => ?_)
   ·replace h := bif_t hb87 h
    refine aw_sr ?_
    refine al_mv rfl rfl ?_
    refine al_as rfl rfl ?_
    refine al_nt ?_
    refine aw_sr ?_
    refine al_mv rfl rfl ?_
    refine al_as rfl rfl ?_
    refine al_nt ?_
    obtain ⟨kk89, hkk89, h⟩ := lt_some h
    refine aw_seq_join (ι := Int) (fun i => (memOf w0 Z0 [(oRow v0_0 3 tq a0)] [(oRow v0_0 3 tq a0)] [(fPtr (tyList tyS_api_Waste) c4_0 a4_0)])) (fun i => (tab [(0, v0_0), (1, (iq a1)), (10, (iq i))])) (fun i => kk89 i = some r) ?_ ?_
    ·rintro j88i10 h
     have h : kk89 j88i10 = some r := h
     rw [hkk89] at h
     dsimp only at h
     clear hkk89
     refine aw_show (m := (memOf w0 Z0 [(oRow v0_0 3 tq a0)] [(oRow v0_0 3 tq a0)] [(fPtr (tyList tyS_api_Waste) c4_0 a4_0)])) (S := (tab [(0, v0_0), (1, (iq a1)), (10, (iq j88i10))])) ?_
     obtain ⟨kk91, hkk91, h⟩ := lt_some h
     refine aw_seq_join (ι := (List Int)) (fun i => (memOf w0 Z0 [(oRow v0_0 3 tq a0)] [(oRow v0_0 3 tq i)] [(fPtr (tyList tyS_api_Waste) c4_0 a4_0)])) (fun i => (tab [(0, v0_0)])) (fun i => kk91 i = some r) ?_ ?_
     ·rintro j90x0 h
      have h : kk91 j90x0 = some r := h
      rw [hkk91] at h
      dsimp only at h
      clear hkk91
      refine aw_show (m := (memOf w0 Z0 [(oRow v0_0 3 tq a0)] [(oRow v0_0 3 tq j90x0)] [(fPtr (tyList tyS_api_Waste) c4_0 a4_0)])) (S := (tab [(0, v0_0)])) ?_
      refine aw_ret ?_
      refine aq_then_ret ?_
      obtain rfl := Option.some.inj h
      exact fn_ret () [0] [] rfl rfl rfl rfl (resC rfl (resN) rfl) rfl rfl rfl (by decide)
     ·clear hkk91
      refine aw_sr ?_
      refine al_mv rfl rfl ?_
      refine al_as rfl rfl ?_
      refine al_nt ?_
      refine aw_block ?_
      refine aw_state (aw_loop (ι := (List Int) × Int) (fun i => (memOf w0 Z0 [(oRow v0_0 3 tq a0)] [(oRow v0_0 3 tq i.1)] [(fPtr (tyList tyS_api_Waste) c4_0 a4_0)])) (fun i => (tab [(0, v0_0), (10, (iq j88i10)), (13, (iq i.2))])) (fun q i => f_slices_symMergeCmpFunc_int__lent_F73_L94 j88i10 kk91 q i.1 i.2 = some r) ?_ fu (a0, a1) h) (fun w a hm hs => norm hm hs [0] [0] [(0, v0_0), (10, (iq j88i10)), (13, (iq a1))] (by decide) ⟨rfl, rfl, rfl, trivial⟩)
      clear h
      rintro k93 ⟨l92x0, l92i13⟩ h
      have h : f_slices_symMergeCmpFunc_int__lent_F73_L94 j88i10 kk91 k93 l92x0 l92i13 = some r := h
      obtain _ | k93 := k93
      · rw [f_slices_symMergeCmpFunc_int__lent_F73_L94] at h; cases h
      rw [f_slices_symMergeCmpFunc_int__lent_F73_L94] at h
      refine aw_show (m := (memOf w0 Z0 [(oRow v0_0 3 tq a0)] [(oRow v0_0 3 tq l92x0)] [(fPtr (tyList tyS_api_Waste) c4_0 a4_0)])) (S := (tab [(0, v0_0), (10, (iq j88i10)), (13, (iq l92i13))])) ?_
      refine aw_seq ?_
      refine aw_sr ?_
      refine al_mv rfl rfl ?_
      refine al_mv rfl rfl ?_
      refine al_in rfl rfl rfl rfl ?_
      refine al_in rfl rfl rfl rfl ?_
      refine al_nt ?_
      refine aw_cond rfl (fun hb95 => ?_) (fun hb95 => ?_)
      ·replace h := bif_t hb95 h
       refine aw_skip ?_
       refine aq_then ?_
       refine aw_seq ?_
       refine aw_block ?_
       obtain ⟨u96, hu97, h⟩ := opt_some h
       obtain ⟨u100, hu101, h⟩ := opt_some h
       obtain ⟨u104, hu105, h⟩ := opt_some h
       refine aw_region_open [⟨0, 61, Unit, fun _ => { val := v0_0 }⟩, ⟨1, 62, Unit, fun _ => { val := (iq l92i13) }⟩, ⟨2, 63, Unit, fun _ => { val := v0_0 }⟩, ⟨3, 64, Unit, fun _ => { val := (iq l92i13) }⟩, ⟨4, 65, Unit, fun _ => { val := (iq (wq (l92i13 + (1 : Int)))) }⟩, ⟨5, 66, Unit, fun _ => { val := v0_0 }⟩, ⟨6, 67, Unit, fun _ => { val := (iq l92i13) }⟩, ⟨7, 68, Unit, fun _ => { val := (iq (wq (l92i13 + (1 : Int)))) }⟩, ⟨8, 69, {p : Value // EltOf v0_0 p (((wq (l92i13 + (1 : Int)))).toNat * Ty.size tq)}, fun p => { val := p.1 }⟩, ⟨9, 70, Unit, fun _ => { val := (iq u96) }⟩, ⟨10, 71, Unit, fun _ => { val := v0_0 }⟩, ⟨11, 72, Unit, fun _ => { val := (iq l92i13) }⟩, ⟨12, 73, {p : Value // EltOf v0_0 p ((l92i13).toNat * Ty.size tq)}, fun p => { val := p.1 }⟩, ⟨13, 74, Unit, fun _ => { val := (iq u100) }⟩, ⟨14, 75, {p : Value // EltOf v0_0 p ((l92i13).toNat * Ty.size tq)}, fun p => { val := p.1 }⟩] (tab [(0, v0_0), (10, (iq j88i10)), (13, (iq l92i13))]) mixed (fun a hs => hs.tab _ (allT_mem ⟨rfl, rfl, rfl, trivial⟩)) ?_
       refine ta_show (m := (memOf w0 Z0 [(oRow v0_0 3 tq a0)] [(oRow v0_0 3 tq l92x0)] [(fPtr (tyList tyS_api_Waste) c4_0 a4_0)])) (S := (tab [(0, v0_0), (10, (iq j88i10)), (13, (iq l92i13))])) ?_
       refine ta_step 15 _ [0, 1, 2, 3, 4, 5, 6, 7, 8, 9, 10, 11, 12, 13, 14] [61, 62, 63, 64, 65, 66, 67, 68, 69, 70, 71, 72, 73, 74, 75] [0, 1, 5, 6, 7, 8, 9, 10, 11, 12, 13, 14] [16] [⟨0, 61, Unit, fun _ => { val := v0_0 }⟩, ⟨1, 62, Unit, fun _ => { val := (iq l92i13) }⟩, ⟨5, 66, Unit, fun _ => { val := v0_0 }⟩, ⟨6, 67, Unit, fun _ => { val := (iq l92i13) }⟩, ⟨7, 68, Unit, fun _ => { val := (iq (wq (l92i13 + (1 : Int)))) }⟩, ⟨8, 69, {p : Value // EltOf v0_0 p (((wq (l92i13 + (1 : Int)))).toNat * Ty.size tq)}, fun p => { val := p.1 }⟩, ⟨9, 70, Unit, fun _ => { val := (iq u96) }⟩, ⟨10, 71, Unit, fun _ => { val := v0_0 }⟩, ⟨11, 72, Unit, fun _ => { val := (iq l92i13) }⟩, ⟨12, 73, {p : Value // EltOf v0_0 p ((l92i13).toNat * Ty.size tq)}, fun p => { val := p.1 }⟩, ⟨13, 74, Unit, fun _ => { val := (iq u100) }⟩, ⟨14, 75, {p : Value // EltOf v0_0 p ((l92i13).toNat * Ty.size tq)}, fun p => { val := p.1 }⟩] [⟨2, 63, Unit, fun _ => { val := v0_0 }⟩, ⟨3, 64, Unit, fun _ => { val := (iq l92i13) }⟩, ⟨4, 65, Unit, fun _ => { val := (iq (wq (l92i13 + (1 : Int)))) }⟩] rfl rfl rfl (by kernel_rfl) rfl rfl rfl ⟨⟨_, rfl, [], rfl, by
 intro X_ Y_ F_ K_ hK_
 refine al_show (m := Mem.plus (memOf w0 Z0 [(oRow v0_0 3 tq a0)] [(oRow v0_0 3 tq l92x0)] [(fPtr (tyList tyS_api_Waste) c4_0 a4_0)]) X_ Y_) (S := over (tab [(0, v0_0), (10, (iq j88i10)), (13, (iq l92i13))]) F_) ?_
 refine al_mv rfl rfl ?_
 refine al_nil ?_
 exact fr_fin hK_ ()⟩, ⟨_, rfl, [], rfl, by
 intro X_ Y_ F_ K_ hK_
 refine al_show (m := Mem.plus (memOf w0 Z0 [(oRow v0_0 3 tq a0)] [(oRow v0_0 3 tq l92x0)] [(fPtr (tyList tyS_api_Waste) c4_0 a4_0)]) X_ Y_) (S := over (tab [(0, v0_0), (10, (iq j88i10)), (13, (iq l92i13))]) F_) ?_
 refine al_mv rfl rfl ?_
 refine al_nil ?_
 exact fr_fin hK_ ()⟩, ⟨_, rfl, [], rfl, by
 intro X_ Y_ F_ K_ hK_
 refine al_show (m := Mem.plus (memOf w0 Z0 [(oRow v0_0 3 tq a0)] [(oRow v0_0 3 tq l92x0)] [(fPtr (tyList tyS_api_Waste) c4_0 a4_0)]) X_ Y_) (S := over (tab [(0, v0_0), (10, (iq j88i10)), (13, (iq l92i13))]) F_) ?_
 refine al_mv rfl rfl ?_
 refine al_nil ?_
 exact fr_fin hK_ ()⟩, ⟨_, rfl, [], rfl, by
 intro X_ Y_ F_ K_ hK_
 refine al_show (m := Mem.plus (memOf w0 Z0 [(oRow v0_0 3 tq a0)] [(oRow v0_0 3 tq l92x0)] [(fPtr (tyList tyS_api_Waste) c4_0 a4_0)]) X_ Y_) (S := over (tab [(0, v0_0), (10, (iq j88i10)), (13, (iq l92i13))]) F_) ?_
 refine al_mv rfl rfl ?_
 refine al_nil ?_
 exact fr_fin hK_ ()⟩, ⟨_, rfl, [3], rfl, by
 intro _
 intro X_ Y_ F_ K_ hK_
 refine al_show (m := Mem.plus (memOf w0 Z0 [(oRow v0_0 3 tq a0)] [(oRow v0_0 3 tq l92x0)] [(fPtr (tyList tyS_api_Waste) c4_0 a4_0)]) X_ Y_) (S := over (put (tab [(0, v0_0), (10, (iq j88i10)), (13, (iq l92i13))]) 64 (iq l92i13)) F_) ?_
 refine al_in rfl rfl rfl rfl ?_
 refine al_nil ?_
 exact fr_fin hK_ ()⟩, ⟨_, rfl, [], rfl, by
 intro X_ Y_ F_ K_ hK_
 refine al_show (m := Mem.plus (memOf w0 Z0 [(oRow v0_0 3 tq a0)] [(oRow v0_0 3 tq l92x0)] [(fPtr (tyList tyS_api_Waste) c4_0 a4_0)]) X_ Y_) (S := over (tab [(0, v0_0), (10, (iq j88i10)), (13, (iq l92i13))]) F_) ?_
 refine al_mv rfl rfl ?_
 refine al_nil ?_
 exact fr_fin hK_ ()⟩, ⟨_, rfl, [], rfl, by
 intro X_ Y_ F_ K_ hK_
 refine al_show (m := Mem.plus (memOf w0 Z0 [(oRow v0_0 3 tq a0)] [(oRow v0_0 3 tq l92x0)] [(fPtr (tyList tyS_api_Waste) c4_0 a4_0)]) X_ Y_) (S := over (tab [(0, v0_0), (10, (iq j88i10)), (13, (iq l92i13))]) F_) ?_
 refine al_mv rfl rfl ?_
 refine al_nil ?_
 exact fr_fin hK_ ()⟩, ⟨_, rfl, [6], rfl, by
 intro _
 intro X_ Y_ F_ K_ hK_
 refine al_show (m := Mem.plus (memOf w0 Z0 [(oRow v0_0 3 tq a0)] [(oRow v0_0 3 tq l92x0)] [(fPtr (tyList tyS_api_Waste) c4_0 a4_0)]) X_ Y_) (S := over (put (tab [(0, v0_0), (10, (iq j88i10)), (13, (iq l92i13))]) 67 (iq l92i13)) F_) ?_
 refine al_in rfl rfl rfl rfl ?_
 refine al_nil ?_
 exact fr_fin hK_ ()⟩, ⟨_, rfl, [5, 7], rfl, by
 intro _
 intro _
 intro X_ Y_ F_ K_ hK_
 refine al_show (m := Mem.plus (memOf w0 Z0 [(oRow v0_0 3 tq a0)] [(oRow v0_0 3 tq l92x0)] [(fPtr (tyList tyS_api_Waste) c4_0 a4_0)]) X_ Y_) (S := over (put (put (tab [(0, v0_0), (10, (iq j88i10)), (13, (iq l92i13))]) 66 v0_0) 68 (iq (wq (l92i13 + (1 : Int))))) F_) ?_
 refine al_idxR 0 (at_some hu97).1 (at_some hu97).2.1 rfl rfl rfl Try.underlying49 sz3 rfl (fun p98 hp99 => ?_)
 refine al_nil ?_
 exact fr_fin hK_ ⟨p98, hp99⟩⟩, ⟨_, rfl, [8], rfl, by
 rintro ⟨p98, hp99⟩
 intro X_ Y_ F_ K_ hK_
 refine al_show (m := Mem.plus (memOf w0 Z0 [(oRow v0_0 3 tq a0)] [(oRow v0_0 3 tq l92x0)] [(fPtr (tyList tyS_api_Waste) c4_0 a4_0)]) X_ Y_) (S := over (put (tab [(0, v0_0), (10, (iq j88i10)), (13, (iq l92i13))]) 69 p98) F_) ?_
 refine al_val (ov_loadR (ds := [(iq u96)]) 0 rfl hp99 (at_some hu97).2.2 (fun h => h) rfl Try.underlying3 sz3 rfl rfl rfl) ?_
 refine al_nil ?_
 exact fr_fin hK_ ()⟩, ⟨_, rfl, [], rfl, by
 intro X_ Y_ F_ K_ hK_
 refine al_show (m := Mem.plus (memOf w0 Z0 [(oRow v0_0 3 tq a0)] [(oRow v0_0 3 tq l92x0)] [(fPtr (tyList tyS_api_Waste) c4_0 a4_0)]) X_ Y_) (S := over (tab [(0, v0_0), (10, (iq j88i10)), (13, (iq l92i13))]) F_) ?_
 refine al_mv rfl rfl ?_
 refine al_nil ?_
 exact fr_fin hK_ ()⟩, ⟨_, rfl, [], rfl, by
 intro X_ Y_ F_ K_ hK_
 refine al_show (m := Mem.plus (memOf w0 Z0 [(oRow v0_0 3 tq a0)] [(oRow v0_0 3 tq l92x0)] [(fPtr (tyList tyS_api_Waste) c4_0 a4_0)]) X_ Y_) (S := over (tab [(0, v0_0), (10, (iq j88i10)), (13, (iq l92i13))]) F_) ?_
 refine al_mv rfl rfl ?_
 refine al_nil ?_
 exact fr_fin hK_ ()⟩, ⟨_, rfl, [10, 11], rfl, by
 intro _
 intro _
 intro X_ Y_ F_ K_ hK_
 refine al_show (m := Mem.plus (memOf w0 Z0 [(oRow v0_0 3 tq a0)] [(oRow v0_0 3 tq l92x0)] [(fPtr (tyList tyS_api_Waste) c4_0 a4_0)]) X_ Y_) (S := over (put (put (tab [(0, v0_0), (10, (iq j88i10)), (13, (iq l92i13))]) 71 v0_0) 72 (iq l92i13)) F_) ?_
 refine al_idxR 0 (at_some hu101).1 (at_some hu101).2.1 rfl rfl rfl Try.underlying49 sz3 rfl (fun p102 hp103 => ?_)
 refine al_nil ?_
 exact fr_fin hK_ ⟨p102, hp103⟩⟩, ⟨_, rfl, [12], rfl, by
 rintro ⟨p102, hp103⟩
 intro X_ Y_ F_ K_ hK_
 refine al_show (m := Mem.plus (memOf w0 Z0 [(oRow v0_0 3 tq a0)] [(oRow v0_0 3 tq l92x0)] [(fPtr (tyList tyS_api_Waste) c4_0 a4_0)]) X_ Y_) (S := over (put (tab [(0, v0_0), (10, (iq j88i10)), (13, (iq l92i13))]) 73 p102) F_) ?_
 refine al_val (ov_loadR (ds := [(iq u100)]) 0 rfl hp103 (at_some hu101).2.2 (fun h => h) rfl Try.underlying3 sz3 rfl rfl rfl) ?_
 refine al_nil ?_
 exact fr_fin hK_ ()⟩, ⟨_, rfl, [0, 1, 5, 6, 7, 8, 9, 13], rfl, by
 intro _
 intro _
 intro _
 intro _
 intro _
 rintro ⟨p98, hp99⟩
 intro _
 intro _
 intro X_ Y_ F_ K_ hK_
 refine al_show (m := Mem.plus (memOf w0 Z0 [(oRow v0_0 3 tq a0)] [(oRow v0_0 3 tq l92x0)] [(fPtr (tyList tyS_api_Waste) c4_0 a4_0)]) X_ Y_) (S := over (put (put (put (put (put (put (put (put (tab [(0, v0_0), (10, (iq j88i10)), (13, (iq l92i13))]) 61 v0_0) 62 (iq l92i13)) 66 v0_0) 67 (iq l92i13)) 68 (iq (wq (l92i13 + (1 : Int))))) 69 p98) 70 (iq u96)) 74 (iq u100)) F_) ?_
 refine al_idxR 0 (at_some hu105).1 (at_some hu105).2.1 rfl rfl rfl Try.underlying49 sz3 rfl (fun p106 hp107 => ?_)
 refine al_nil ?_
 exact fr_fin hK_ ⟨p106, hp107⟩⟩, trivial⟩ ?_
       intro _
       intro _
       intro _
       intro _
       intro _
       rintro ⟨p98, hp99⟩
       intro _
       intro _
       intro _
       rintro ⟨p102, hp103⟩
       intro _
       rintro ⟨p106, hp107⟩
       intro X_ Y_ F_ K_ hK_
       refine al_show (m := Mem.plus (memOf w0 Z0 [(oRow v0_0 3 tq a0)] [(oRow v0_0 3 tq l92x0)] [(fPtr (tyList tyS_api_Waste) c4_0 a4_0)]) X_ Y_) (S := over (put (put (put (put (put (put (put (put (put (put (put (put (tab [(0, v0_0), (10, (iq j88i10)), (13, (iq l92i13))]) 61 v0_0) 62 (iq l92i13)) 66 v0_0) 67 (iq l92i13)) 68 (iq (wq (l92i13 + (1 : Int))))) 69 p98) 70 (iq u96)) 71 v0_0) 72 (iq l92i13)) 73 p102) 74 (iq u100)) 75 p106) F_) ?_
       refine al_storeR (k := (l92i13).toNat) (x := u96) (vs := [(iq u96)]) 0 rfl hp107 (idx_lt hu105) rfl rfl (cv_rfl rfl) (fun _ => rfl) sz3 rfl ?_
       refine al_nil ?_
       obtain ⟨u108, hu109, h⟩ := opt_some h
       refine aq_show (m := Mem.plus (memOf w0 Z0 [(oRow v0_0 3 tq a0)] [(oRow v0_0 3 tq (l92x0.set (l92i13).toNat u96))] [(fPtr (tyList tyS_api_Waste) c4_0 a4_0)]) X_ Y_) ?_
       refine aq_next hK_ [0] [0] [(0, v0_0), (10, (iq j88i10)), (13, (iq l92i13)), (74, (iq u100))] [63, 64, 65] [⟨16, 76, {p : Value // EltOf v0_0 p (((wq (l92i13 + (1 : Int)))).toNat * Ty.size tq)}, fun p => { val := p.1 }⟩] rfl rfl (by decide) rfl ⟨rfl, rfl, rfl, rfl, trivial⟩ ⟨rfl, rfl, rfl, trivial⟩ ?_
       clear hK_ K_ F_ X_ Y_
       refine ta_show (m := (memOf w0 Z0 [(oRow v0_0 3 tq a0)] [(oRow v0_0 3 tq (l92x0.set (l92i13).toNat u96))] [(fPtr (tyList tyS_api_Waste) c4_0 a4_0)])) (S := (tab [(0, v0_0), (10, (iq j88i10)), (13, (iq l92i13)), (74, (iq u100))])) ?_
       refine ta_step 17 _ [2, 3, 4, 16] [63, 64, 65, 76] [2, 3, 4, 16] [] [⟨2, 63, Unit, fun _ => { val := v0_0 }⟩, ⟨3, 64, Unit, fun _ => { val := (iq l92i13) }⟩, ⟨4, 65, Unit, fun _ => { val := (iq (wq (l92i13 + (1 : Int)))) }⟩, ⟨16, 76, {p : Value // EltOf v0_0 p (((wq (l92i13 + (1 : Int)))).toNat * Ty.size tq)}, fun p => { val := p.1 }⟩] [] rfl rfl rfl (by kernel_rfl) rfl rfl rfl ⟨⟨_, rfl, [], rfl, by
 intro X_ Y_ F_ K_ hK_
 refine al_show (m := Mem.plus (memOf w0 Z0 [(oRow v0_0 3 tq a0)] [(oRow v0_0 3 tq (l92x0.set (l92i13).toNat u96))] [(fPtr (tyList tyS_api_Waste) c4_0 a4_0)]) X_ Y_) (S := over (tab [(0, v0_0), (10, (iq j88i10)), (13, (iq l92i13)), (74, (iq u100))]) F_) ?_
 refine al_mv rfl rfl ?_
 refine al_nil ?_
 exact fr_fin hK_ ()⟩, ⟨_, rfl, [], rfl, by
 intro X_ Y_ F_ K_ hK_
 refine al_show (m := Mem.plus (memOf w0 Z0 [(oRow v0_0 3 tq a0)] [(oRow v0_0 3 tq (l92x0.set (l92i13).toNat u96))] [(fPtr (tyList tyS_api_Waste) c4_0 a4_0)]) X_ Y_) (S := over (tab [(0, v0_0), (10, (iq j88i10)), (13, (iq l92i13)), (74, (iq u100))]) F_) ?_
 refine al_mv rfl rfl ?_
 refine al_nil ?_
 exact fr_fin hK_ ()⟩, ⟨_, rfl, [1], rfl, by
 intro _
 intro X_ Y_ F_ K_ hK_
 refine al_show (m := Mem.plus (memOf w0 Z0 [(oRow v0_0 3 tq a0)] [(oRow v0_0 3 tq (l92x0.set (l92i13).toNat u96))] [(fPtr (tyList tyS_api_Waste) c4_0 a4_0)]) X_ Y_) (S := over (put (tab [(0, v0_0), (10, (iq j88i10)), (13, (iq l92i13)), (74, (iq u100))]) 64 (iq l92i13)) F_) ?_
 refine al_in rfl rfl rfl rfl ?_
 refine al_nil ?_
 exact fr_fin hK_ ()⟩, ⟨_, rfl, [0, 1, 2], rfl, by
 intro _
 intro _
 intro _
 intro X_ Y_ F_ K_ hK_
 refine al_show (m := Mem.plus (memOf w0 Z0 [(oRow v0_0 3 tq a0)] [(oRow v0_0 3 tq (l92x0.set (l92i13).toNat u96))] [(fPtr (tyList tyS_api_Waste) c4_0 a4_0)]) X_ Y_) (S := over (put (put (put (tab [(0, v0_0), (10, (iq j88i10)), (13, (iq l92i13)), (74, (iq u100))]) 63 v0_0) 64 (iq l92i13)) 65 (iq (wq (l92i13 + (1 : Int))))) F_) ?_
 refine al_idxR 0 (at_some hu109).1 (at_some hu109).2.1 rfl rfl rfl Try.underlying49 sz3 rfl (fun p110 hp111 => ?_)
 refine al_nil ?_
 exact fr_fin hK_ ⟨p110, hp111⟩⟩, trivial⟩ ?_
       intro _
       intro _
       intro _
       rintro ⟨p110, hp111⟩
       intro X_ Y_ F_ K_ hK_
       refine al_show (m := Mem.plus (memOf w0 Z0 [(oRow v0_0 3 tq a0)] [(oRow v0_0 3 tq (l92x0.set (l92i13).toNat u96))] [(fPtr (tyList tyS_api_Waste) c4_0 a4_0)]) X_ Y_) (S := over (put (put (put (put (tab [(0, v0_0), (10, (iq j88i10)), (13, (iq l92i13)), (74, (iq u100))]) 63 v0_0) 64 (iq l92i13)) 65 (iq (wq (l92i13 + (1 : Int))))) 76 p110) F_) ?_
       refine al_storeR (k := ((wq (l92i13 + (1 : Int)))).toNat) (x := u100) (vs := [(iq u100)]) 0 rfl hp111 (idx_lt hu109) rfl rfl (cv_rfl rfl) (fun _ => rfl) sz3 rfl ?_
       refine al_nil ?_
       refine aq_show (m := Mem.plus (memOf w0 Z0 [(oRow v0_0 3 tq a0)] [(oRow v0_0 3 tq ((l92x0.set (l92i13).toNat u96).set ((wq (l92i13 + (1 : Int)))).toNat u100))] [(fPtr (tyList tyS_api_Waste) c4_0 a4_0)]) X_ Y_) ?_
       refine aq_next hK_ [0] [0] [(0, v0_0), (10, (iq j88i10)), (13, (iq l92i13))] [] [] rfl rfl (by decide) rfl ⟨rfl, rfl, rfl, trivial⟩ trivial ?_
       clear hK_ K_ F_ X_ Y_
       refine ta_show (m := (memOf w0 Z0 [(oRow v0_0 3 tq a0)] [(oRow v0_0 3 tq ((l92x0.set (l92i13).toNat u96).set ((wq (l92i13 + (1 : Int)))).toNat u100))] [(fPtr (tyList tyS_api_Waste) c4_0 a4_0)])) (S := (tab [(0, v0_0), (10, (iq j88i10)), (13, (iq l92i13))])) ?_
       refine ta_end [] [] rfl rfl (by kernel_rfl) rfl trivial ?_
       refine aq_show (m := (memOf w0 Z0 [(oRow v0_0 3 tq a0)] [(oRow v0_0 3 tq ((l92x0.set (l92i13).toNat u96).set ((wq (l92i13 + (1 : Int)))).toNat u100))] [(fPtr (tyList tyS_api_Waste) c4_0 a4_0)])) (S := (tab [(0, v0_0), (10, (iq j88i10)), (13, (iq l92i13))])) ?_
       refine aq_block ?_
       refine aq_then ?_
       refine aw_region ?_
       refine al_mv rfl rfl ?_
       refine al_in rfl rfl rfl rfl ?_
       refine al_as rfl rfl ?_
       refine al_nil ?_
       exact aq_again k93 (((l92x0.set (l92i13).toNat u96).set ((wq (l92i13 + (1 : Int)))).toNat u100), (wq (l92i13 + (1 : Int)))) (Nat.lt_succ_self _) h (fun w a hm hs => norm hm hs [0] [0] [(0, v0_0), (10, (iq j88i10)), (13, (iq (wq (l92i13 + (1 : Int)))))] (by decide) ⟨rfl, rfl, rfl, trivial⟩)
      ·replace h := bif_f hb95 h
       refine aw_exit ?_
       refine aq_then_exit ?_
       refine aq_then_exit ?_
       refine aq_block_exit ?_
       exact aq_join l92x0 h (fun w a hm hs => norm hm hs [0] [0] [(0, v0_0)] (by decide) ⟨rfl, trivial⟩)
    ·clear hkk89
     refine aw_block ?_
     refine aw_state (aw_loop (ι := Int × Int) (fun i => (memOf w0 Z0 [(oRow v0_0 3 tq a0)] [(oRow v0_0 3 tq a0)] [(fPtr (tyList tyS_api_Waste) c4_0 a4_0)])) (fun i => (tab [(0, v0_0), (1, (iq a1)), (4, (Value.func (.func 73) #[] #[c4_0])), (10, (iq i.1)), (11, (iq i.2))])) (fun q i => f_slices_symMergeCmpFunc_int__lent_F73_L114 a0 a1 a4_0 kk89 fu q i.1 i.2 = some r) ?_ fu (a2, a3) h) (fun w a hm hs => norm hm hs [0] [0] [(0, v0_0), (1, (iq a1)), (4, (Value.func (.func 73) #[] #[c4_0])), (10, (iq a2)), (11, (iq a3))] (by decide) ⟨rfl, rfl, rfl, rfl, rfl, trivial⟩)
     clear h
     rintro k113 ⟨l112i10, l112i11⟩ h
     have h : f_slices_symMergeCmpFunc_int__lent_F73_L114 a0 a1 a4_0 kk89 fu k113 l112i10 l112i11 = some r := h
     obtain _ | k113 := k113
     · rw [f_slices_symMergeCmpFunc_int__lent_F73_L114] at h; cases h
     rw [f_slices_symMergeCmpFunc_int__lent_F73_L114] at h
     refine aw_show (m := (memOf w0 Z0 [(oRow v0_0 3 tq a0)] [(oRow v0_0 3 tq a0)] [(fPtr (tyList tyS_api_Waste) c4_0 a4_0)])) (S := (tab [(0, v0_0), (1, (iq a1)), (4, (Value.func (.func 73) #[] #[c4_0])), (10, (iq l112i10)), (11, (iq l112i11))])) ?_
     refine aw_seq ?_
     refine aw_sr ?_
     refine al_mv rfl rfl ?_
     refine al_mv rfl rfl ?_
     refine al_in rfl rfl rfl rfl ?_
     refine al_nt ?_
     refine aw_cond rfl (fun hb115 => ?_) (fun hb115 => ?_)
     ·replace h := bif_t hb115 h
      refine aw_skip ?_
      refine aq_then ?_
      refine aw_block ?_
      refine aw_sr ?_
      refine al_mv rfl rfl ?_
      refine al_mv rfl rfl ?_
      refine al_in rfl rfl rfl rfl ?_
      refine al_val (ov_convInt (by rw [Try.underlying3]; rfl) Try.underlying225 rfl rfl) ?_
      refine al_val (ov_shr (by decide) rfl rfl rfl) ?_
      refine al_val (ov_convInt (by rw [Try.underlying225]; rfl) Try.underlying3 rfl rfl) ?_
      refine al_as rfl rfl ?_
      refine al_nt ?_
      refine aw_seq ?_
      obtain ⟨u116, hu117, h⟩ := opt_some h
      obtain ⟨u120, hu121, h⟩ := opt_some h
      obtain ⟨r125, hc124, h⟩ := opt_some h
      refine aw_region_draw 10 [(40, (fun u => fEq u (Value.func (.func 73) #[] #[c4_0]))), (41, (fun u => fEq u v0_0)), (42, (fun u => fEq u (iq (wq (((wu (wq (l112i10 + l112i11)))).fdiv (2 ^ min ((1 : Int)).toNat (IntKind.bits .u64))))))), (43, (fun p => fElt v0_0 p (((wq (((wu (wq (l112i10 + l112i11)))).fdiv (2 ^ min ((1 : Int)).toNat (IntKind.bits .u64))))).toNat * Ty.size tq))), (44, (fun u => fEq u (iq u116))), (45, (fun u => fEq u v0_0)), (46, (fun u => fEq u (iq a1))), (47, (fun p => fElt v0_0 p ((a1).toNat * Ty.size tq))), (48, (fun u => fEq u (iq u120))), (49, (fun u => fEq u (iq r125)))] (tab [(0, v0_0), (1, (iq a1)), (4, (Value.func (.func 73) #[] #[c4_0])), (10, (iq l112i10)), (11, (iq l112i11)), (12, (iq (wq (((wu (wq (l112i10 + l112i11)))).fdiv (2 ^ min ((1 : Int)).toNat (IntKind.bits .u64))))))]) mixed (by kernel_rfl) rfl rfl rfl (fun a hs => hs.tab _ (allT_mem ⟨rfl, rfl, rfl, rfl, rfl, rfl, trivial⟩)) ⟨⟨rfl, ld_val (ov_move rfl rfl)⟩, ⟨rfl, ld_val (ov_move rfl rfl)⟩, ⟨rfl, ld_val (ov_move rfl rfl)⟩, ⟨rfl, ld_eq (j := 1) rfl rfl (ld_eq (j := 2) rfl rfl (ld_of (of_idxR 0 (at_some hu117).1 (at_some hu117).2.1 rfl rfl rfl Try.underlying49 sz3 rfl)))⟩, ⟨rfl, ld_elt (j := 3) rfl rfl (fun p118 hp119 => ld_val (ov_loadR (ds := [(iq u116)]) 0 rfl hp119 (at_some hu117).2.2 (fun h => h) rfl Try.underlying3 sz3 rfl rfl rfl))⟩, ⟨rfl, ld_val (ov_move rfl rfl)⟩, ⟨rfl, ld_val (ov_move rfl rfl)⟩, ⟨rfl, ld_eq (j := 5) rfl rfl (ld_eq (j := 6) rfl rfl (ld_of (of_idxR 0 (at_some hu121).1 (at_some hu121).2.1 rfl rfl rfl Try.underlying49 sz3 rfl)))⟩, ⟨rfl, ld_elt (j := 7) rfl rfl (fun p122 hp123 => ld_val (ov_loadR (ds := [(iq u120)]) 0 rfl hp123 (at_some hu121).2.2 (fun h => h) rfl Try.underlying3 sz3 rfl rfl rfl))⟩, ⟨rfl, ld_eq (j := 0) rfl rfl (ld_eq (j := 4) rfl rfl (ld_eq (j := 8) rfl rfl (ld_callF (vs := [(iq u116), (iq u120)]) (caps := [c4_0]) (f_waste_Choose_1_ok fu u116 u120 c4_0 a4_0 hc124) rfl [] (pre_fz 0 rfl pre_nil) rfl rfl Try.func73 rfl rfl rfl)))⟩, trivial⟩ ?_
      refine tl_eq 9 rfl ?_
      refine tl_done ?_
      refine al_in rfl rfl rfl rfl ?_
      refine al_nt ?_
      refine aw_cond rfl (fun hb126 => ?_) (fun hb126 => ?_)
      ·replace h := bif_t hb126 h
       refine aw_region ?_
       refine al_mv rfl rfl ?_
       refine al_in rfl rfl rfl rfl ?_
       refine al_as rfl rfl ?_
       refine al_nil ?_
       refine aq_block ?_
       exact aq_again k113 ((wq ((wq (((wu (wq (l112i10 + l112i11)))).fdiv (2 ^ min ((1 : Int)).toNat (IntKind.bits .u64)))) + (1 : Int))), l112i11) (Nat.lt_succ_self _) h (fun w a hm hs => norm hm hs [0] [0] [(0, v0_0), (1, (iq a1)), (4, (Value.func (.func 73) #[] #[c4_0])), (10, (iq (wq ((wq (((wu (wq (l112i10 + l112i11)))).fdiv (2 ^ min ((1 : Int)).toNat (IntKind.bits .u64)))) + (1 : Int))))), (11, (iq l112i11))] (by decide) ⟨rfl, rfl, rfl, rfl, rfl, trivial⟩)
      ·replace h := bif_f hb126 h
       refine aw_region ?_
       refine al_mv rfl rfl ?_
       refine al_as rfl rfl ?_
       refine al_nil ?_
       refine aq_block ?_
       exact aq_again k113 (l112i10, (wq (((wu (wq (l112i10 + l112i11)))).fdiv (2 ^ min ((1 : Int)).toNat (IntKind.bits .u64))))) (Nat.lt_succ_self _) h (fun w a hm hs => norm hm hs [0] [0] [(0, v0_0), (1, (iq a1)), (4, (Value.func (.func 73) #[] #[c4_0])), (10, (iq l112i10)), (11, (iq (wq (((wu (wq (l112i10 + l112i11)))).fdiv (2 ^ min ((1 : Int)).toNat (IntKind.bits .u64))))))] (by decide) ⟨rfl, rfl, rfl, rfl, rfl, trivial⟩)
     ·replace h := bif_f hb115 h
      refine aw_exit ?_
      refine aq_then_exit ?_
      refine aq_then_exit ?_
      refine aq_block_exit ?_
      exact aq_join l112i10 h (fun w a hm hs => norm hm hs [0] [0] [(0, v0_0), (1, (iq a1)), (10, (iq l112i10))] (by decide) ⟨rfl, rfl, rfl, trivial⟩)
   ·replace h := bif_f hb87 h
    refine aw_skip ?_
    exact aq_join () h (fun w a hm hs => norm hm hs [0] [0] [(0, v0_0), (1, (iq a1)), (2, (iq a2)), (3, (iq a3)), (4, (Value.func (.func 73) #[] #[c4_0]))] (by decide) ⟨rfl, rfl, rfl, rfl, rfl, trivial⟩)
def f_slices_stableCmpFunc_int__lent_F73_L19 (a1 : Int) (a2_0 : (List S_api_Waste)) (l5i6 : Int) (kk11 : ((List Int) → Int → Option (List Int))) (fu : Nat) : Nat → (List Int) → Int → Int → Option (List Int)
  | 0, _, _, _ => none
  | k18 + 1, l17x0, l17i7, l17i8 => (bif (decide (l17i8 ≤ a1)) then (opt (f_slices_symMergeCmpFunc_int__lent_F73 fu l17x0 l17i7 (IntKind.i64.wrap (l17i7 + l5i6)) l17i8 a2_0) fun (r22 : (List Int)) => (f_slices_stableCmpFunc_int__lent_F73_L19 a1 a2_0 l5i6 kk11 fu k18 r22 l17i8 (IntKind.i64.wrap (l17i8 + (IntKind.i64.wrap ((2 : Int) * l5i6)))))) else (kk11 l17x0 l17i7))
def f_slices_stableCmpFunc_int__lent_F73_L7 (a1 : Int) (a2_0 : (List S_api_Waste)) (fu : Nat) : Nat → (List Int) → Int → Option (List Int)
  | 0, _, _ => none
  | k6 + 1, l5x0, l5i6 => (lt (fun (l5x0 : (List Int)) (l5i6 : Int) => (f_slices_stableCmpFunc_int__lent_F73_L7 a1 a2_0 fu k6 l5x0 l5i6)) fun (kk8 : (List Int) → Int → Option (List Int)) => (bif (decide (l5i6 < a1)) then (lt (fun (j10x0 : (List Int)) (j10i7 : Int) => (lt (fun (j12x0 : (List Int)) => (kk8 j12x0 (IntKind.i64.wrap (l5i6 * (2 : Int))))) fun (kk13 : (List Int) → Option (List Int)) => (bif (decide ((IntKind.i64.wrap (j10i7 + l5i6)) < a1)) then (opt (f_slices_symMergeCmpFunc_int__lent_F73 fu j10x0 j10i7 (IntKind.i64.wrap (j10i7 + l5i6)) a1 a2_0) fun (r16 : (List Int)) => (kk13 r16)) else (kk13 j10x0)))) fun (kk11 : (List Int) → Int → Option (List Int)) => (f_slices_stableCmpFunc_int__lent_F73_L19 a1 a2_0 l5i6 kk11 fu fu l5x0 (0 : Int) (IntKind.i64.wrap ((2 : Int) * l5i6)))) else (some l5x0)))
def f_slices_stableCmpFunc_int__lent_F73_L25 (a1 : Int) (a2_0 : (List S_api_Waste)) (kk2 : ((List Int) → Int → Option (List Int))) (fu : Nat) : Nat → (List Int) → Int → Int → Option (List Int)
  | 0, _, _, _ => none
  | k24 + 1, l23x0, l23i7, l23i8 => (bif (decide (l23i8 ≤ a1)) then (opt (f_slices_insertionSortCmpFunc_int__lent_F73 fu l23x0 l23i7 l23i8 a2_0) fun (r28 : (List Int)) => (f_slices_stableCmpFunc_int__lent_F73_L25 a1 a2_0 kk2 fu k24 r28 l23i8 (IntKind.i64.wrap (l23i8 + (20 : Int))))) else (kk2 l23x0 l23i7))
def f_slices_stableCmpFunc_int__lent_F73 (fu : Nat) (a0 : (List Int)) (a1 : Int) (a2_0 : (List S_api_Waste)) : Option (List Int) := (lt (fun (j1x0 : (List Int)) (j1i7 : Int) => (opt (f_slices_insertionSortCmpFunc_int__lent_F73 fu j1x0 j1i7 a1 a2_0) fun (r4 : (List Int)) => (f_slices_stableCmpFunc_int__lent_F73_L7 a1 a2_0 fu fu r4 (20 : Int)))) fun (kk2 : (List Int) → Int → Option (List Int)) => (f_slices_stableCmpFunc_int__lent_F73_L25 a1 a2_0 kk2 fu fu a0 (0 : Int) (20 : Int)))
set_option maxHeartbeats 2000000 in
set_option maxRecDepth 100000 in
theorem f_slices_stableCmpFunc_int__lent_F73_ok (fu : Nat) (v0_0 : Value) (a0 : (List Int)) (a1 : Int) (c2_0 : Value) (a2_0 : (List S_api_Waste)) {r : (List Int)} (h : f_slices_stableCmpFunc_int__lent_F73 fu a0 a1 a2_0 = some r) : FnOk Try.prog 135 [v0_0, (int .i64 a1), (Value.func (.func 73) #[] #[c2_0])] [(fPtr (tyList tyS_api_Waste) c2_0 a2_0)] [(oRow v0_0 3 (tyInt .i64) a0)] (fun (i : Unit) => { val := (Value.tuple #[]), own := [(oRow v0_0 3 (tyInt .i64) r)] }) := by
 unfold f_slices_stableCmpFunc_int__lent_F73 at h
 refine fn_enter Try.func135 rfl Try.ntmps135 rfl (fun w0 Z0 => ?_)
 refine aw_sr ?_
 refine al_as rfl rfl ?_
 refine al_nt ?_
 refine aw_sr ?_
 refine al_mv rfl rfl ?_
 refine al_as rfl rfl ?_
 refine al_as rfl rfl ?_
 refine al_nt ?_
 obtain ⟨kk2, hkk2, h⟩ := lt_some h
 refine aw_seq_join (ι := (List Int) × Int) (fun i => (memOf w0 Z0 [(oRow v0_0 3 tq a0)] [(oRow v0_0 3 tq i.1)] [(fPtr (tyList tyS_api_Waste) c2_0 a2_0)])) (fun i => (tab [(0, v0_0), (1, (iq a1)), (2, (Value.func (.func 73) #[] #[c2_0])), (6, (iq (20 : Int))), (7, (iq i.2))])) (fun i => kk2 i.1 i.2 = some r) ?_ ?_
 ·rintro ⟨j1x0, j1i7⟩ h
  have h : kk2 j1x0 j1i7 = some r := h
  rw [hkk2] at h
  dsimp only at h
  clear hkk2
  refine aw_show (m := (memOf w0 Z0 [(oRow v0_0 3 tq a0)] [(oRow v0_0 3 tq j1x0)] [(fPtr (tyList tyS_api_Waste) c2_0 a2_0)])) (S := (tab [(0, v0_0), (1, (iq a1)), (2, (Value.func (.func 73) #[] #[c2_0])), (6, (iq (20 : Int))), (7, (iq j1i7))])) ?_
  refine aw_sr ?_
  refine al_mv rfl rfl ?_
  refine al_mv rfl rfl ?_
  refine al_mv rfl rfl ?_
  refine al_mv rfl rfl ?_
  obtain ⟨r4, hc3, h⟩ := opt_some h
  refine al_call (vs := [v0_0, (iq j1i7), (iq a1), (Value.func (.func 73) #[] #[c2_0])]) (f_slices_insertionSortCmpFunc_int__lent_F73_ok fu v0_0 j1x0 j1i7 a1 c2_0 a2_0 hc3) [] [0] [] (pre_fz 0 rfl pre_nil) rfl (by simp) (by decide) (.inl rfl) rfl Try.func170 rfl rfl rfl (fun _ => ?_)
  refine al_nt ?_
  refine aw_block ?_
  refine aw_state (aw_loop (ι := (List Int) × Int) (fun i => (memOf w0 Z0 [(oRow v0_0 3 tq a0)] [(oRow v0_0 3 tq i.1)] [(fPtr (tyList tyS_api_Waste) c2_0 a2_0)])) (fun i => (tab [(0, v0_0), (1, (iq a1)), (2, (Value.func (.func 73) #[] #[c2_0])), (6, (iq i.2))])) (fun q i => f_slices_stableCmpFunc_int__lent_F73_L7 a1 a2_0 fu q i.1 i.2 = some r) ?_ fu (r4, (20 : Int)) h) (fun w a hm hs => norm hm hs [0] [0] [(0, v0_0), (1, (iq a1)), (2, (Value.func (.func 73) #[] #[c2_0])), (6, (iq (20 : Int)))] (by decide) ⟨rfl, rfl, rfl, rfl, trivial⟩)
  clear h
  rintro k6 ⟨l5x0, l5i6⟩ h
  have h : f_slices_stableCmpFunc_int__lent_F73_L7 a1 a2_0 fu k6 l5x0 l5i6 = some r := h
  obtain _ | k6 := k6
  · rw [f_slices_stableCmpFunc_int__lent_F73_L7] at h; cases h
  rw [f_slices_stableCmpFunc_int__lent_F73_L7] at h
  refine aw_show (m := (memOf w0 Z0 [(oRow v0_0 3 tq a0)] [(oRow v0_0 3 tq l5x0)] [(fPtr (tyList tyS_api_Waste) c2_0 a2_0)])) (S := (tab [(0, v0_0), (1, (iq a1)), (2, (Value.func (.func 73) #[] #[c2_0])), (6, (iq l5i6))])) ?_
  obtain ⟨kk8, hkk8, h⟩ := lt_some h
  refine aw_body_join (ι := (List Int) × Int) (fun i => (memOf w0 Z0 [(oRow v0_0 3 tq a0)] [(oRow v0_0 3 tq i.1)] [(fPtr (tyList tyS_api_Waste) c2_0 a2_0)])) (fun i => (tab [(0, v0_0), (1, (iq a1)), (2, (Value.func (.func 73) #[] #[c2_0])), (6, (iq i.2))])) (fun i => kk8 i.1 i.2 = some r) (fun i h => aq_again k6 i (Nat.lt_succ_self _) (by rw [hkk8] at h; exact h) (fun w a hm hs => ⟨hm, hs⟩)) ?_
  clear hkk8
  refine aw_seq ?_
  refine aw_sr ?_
  refine al_mv rfl rfl ?_
  refine al_mv rfl rfl ?_
  refine al_in rfl rfl rfl rfl ?_
  refine al_nt ?_
  refine aw_cond rfl (fun hb9 => ?_) (fun hb9 => ?_)
  ·replace h := bif_t hb9 h
   refine aw_skip ?_
   refine aq_then ?_
   refine aw_block ?_
   refine aw_sr ?_
   refine al_mv rfl rfl ?_
   refine al_in rfl rfl rfl rfl ?_
   refine al_as rfl rfl ?_
   refine al_as rfl rfl ?_
   refine al_nt ?_
   obtain ⟨kk11, hkk11, h⟩ := lt_some h
   refine aw_seq_join (ι := (List Int) × Int) (fun i => (memOf w0 Z0 [(oRow v0_0 3 tq a0)] [(oRow v0_0 3 tq i.1)] [(fPtr (tyList tyS_api_Waste) c2_0 a2_0)])) (fun i => (tab [(0, v0_0), (1, (iq a1)), (2, (Value.func (.func 73) #[] #[c2_0])), (6, (iq l5i6)), (7, (iq i.2))])) (fun i => kk11 i.1 i.2 = some r) ?_ ?_
   ·rintro ⟨j10x0, j10i7⟩ h
    have h : kk11 j10x0 j10i7 = some r := h
    rw [hkk11] at h
    dsimp only at h
    clear hkk11
    refine aw_show (m := (memOf w0 Z0 [(oRow v0_0 3 tq a0)] [(oRow v0_0 3 tq j10x0)] [(fPtr (tyList tyS_api_Waste) c2_0 a2_0)])) (S := (tab [(0, v0_0), (1, (iq a1)), (2, (Value.func (.func 73) #[] #[c2_0])), (6, (iq l5i6)), (7, (iq j10i7))])) ?_
    obtain ⟨kk13, hkk13, h⟩ := lt_some h
    refine aw_seq_join (ι := (List Int)) (fun i => (memOf w0 Z0 [(oRow v0_0 3 tq a0)] [(oRow v0_0 3 tq i)] [(fPtr (tyList tyS_api_Waste) c2_0 a2_0)])) (fun i => (tab [(0, v0_0), (1, (iq a1)), (2, (Value.func (.func 73) #[] #[c2_0])), (6, (iq l5i6))])) (fun i => kk13 i = some r) ?_ ?_
    ·rintro j12x0 h
     have h : kk13 j12x0 = some r := h
     rw [hkk13] at h
     dsimp only at h
     clear hkk13
     refine aw_show (m := (memOf w0 Z0 [(oRow v0_0 3 tq a0)] [(oRow v0_0 3 tq j12x0)] [(fPtr (tyList tyS_api_Waste) c2_0 a2_0)])) (S := (tab [(0, v0_0), (1, (iq a1)), (2, (Value.func (.func 73) #[] #[c2_0])), (6, (iq l5i6))])) ?_
     refine aw_region ?_
     refine al_mv rfl rfl ?_
     refine al_in rfl rfl rfl rfl ?_
     refine al_as rfl rfl ?_
     refine al_nil ?_
     refine aq_block ?_
     exact aq_join (j12x0, (wq (l5i6 * (2 : Int)))) h (fun w a hm hs => norm hm hs [0] [0] [(0, v0_0), (1, (iq a1)), (2, (Value.func (.func 73) #[] #[c2_0])), (6, (iq (wq (l5i6 * (2 : Int)))))] (by decide) ⟨rfl, rfl, rfl, rfl, trivial⟩)
    ·clear hkk13
     refine aw_sr ?_
     refine al_mv rfl rfl ?_
     refine al_mv rfl rfl ?_
     refine al_in rfl rfl rfl rfl ?_
     refine al_as rfl rfl ?_
     refine al_nt ?_
     refine aw_sr ?_
     refine al_mv rfl rfl ?_
     refine al_mv rfl rfl ?_
     refine al_in rfl rfl rfl rfl ?_
     refine al_nt ?_
     refine aw_cond rfl (fun hb14 => ?_) (fun hb14 => ?_)
     ·replace h := bif_t hb14 h
      refine aw_region ?_
      refine al_mv rfl rfl ?_
      refine al_mv rfl rfl ?_
      refine al_mv rfl rfl ?_
      refine al_mv rfl rfl ?_
      refine al_mv rfl rfl ?_
      obtain ⟨r16, hc15, h⟩ := opt_some h
      refine al_call (vs := [v0_0, (iq j10i7), (iq (wq (j10i7 + l5i6))), (iq a1), (Value.func (.func 73) #[] #[c2_0])]) (f_slices_symMergeCmpFunc_int__lent_F73_ok fu v0_0 j10x0 j10i7 (wq (j10i7 + l5i6)) a1 c2_0 a2_0 hc15) [] [0] [] (pre_fz 0 rfl pre_nil) rfl (by simp) (by decide) (.inl rfl) rfl Try.func171 rfl rfl rfl (fun _ => ?_)
      refine al_nil ?_
      exact aq_join r16 h (fun w a hm hs => norm hm hs [0] [0] [(0, v0_0), (1, (iq a1)), (2, (Value.func (.func 73) #[] #[c2_0])), (6, (iq l5i6))] (by decide) ⟨rfl, rfl, rfl, rfl, trivial⟩)
     ·replace h := bif_f hb14 h
      refine aw_skip ?_
      exact aq_join j10x0 h (fun w a hm hs => norm hm hs [0] [0] [(0, v0_0), (1, (iq a1)), (2, (Value.func (.func 73) #[] #[c2_0])), (6, (iq l5i6))] (by decide) ⟨rfl, rfl, rfl, rfl, trivial⟩)
   ·clear hkk11
    refine aw_block ?_
    refine aw_state (aw_loop (ι := (List Int) × Int × Int) (fun i => (memOf w0 Z0 [(oRow v0_0 3 tq a0)] [(oRow v0_0 3 tq i.1)] [(fPtr (tyList tyS_api_Waste) c2_0 a2_0)])) (fun i => (tab [(0, v0_0), (1, (iq a1)), (2, (Value.func (.func 73) #[] #[c2_0])), (6, (iq l5i6)), (7, (iq i.2.1)), (8, (iq i.2.2))])) (fun q i => f_slices_stableCmpFunc_int__lent_F73_L19 a1 a2_0 l5i6 kk11 fu q i.1 i.2.1 i.2.2 = some r) ?_ fu (l5x0, (0 : Int), (wq ((2 : Int) * l5i6))) h) (fun w a hm hs => norm hm hs [0] [0] [(0, v0_0), (1, (iq a1)), (2, (Value.func (.func 73) #[] #[c2_0])), (6, (iq l5i6)), (7, (iq (0 : Int))), (8, (iq (wq ((2 : Int) * l5i6))))] (by decide) ⟨rfl, rfl, rfl, rfl, rfl, rfl, trivial⟩)
    clear h
    rintro k18 ⟨l17x0, l17i7, l17i8⟩ h
    have h : f_slices_stableCmpFunc_int__lent_F73_L19 a1 a2_0 l5i6 kk11 fu k18 l17x0 l17i7 l17i8 = some r := h
    obtain _ | k18 := k18
    · rw [f_slices_stableCmpFunc_int__lent_F73_L19] at h; cases h
    rw [f_slices_stableCmpFunc_int__lent_F73_L19] at h
    refine aw_show (m := (memOf w0 Z0 [(oRow v0_0 3 tq a0)] [(oRow v0_0 3 tq l17x0)] [(fPtr (tyList tyS_api_Waste) c2_0 a2_0)])) (S := (tab [(0, v0_0), (1, (iq a1)), (2, (Value.func (.func 73) #[] #[c2_0])), (6, (iq l5i6)), (7, (iq l17i7)), (8, (iq l17i8))])) ?_
    refine aw_seq ?_
    refine aw_sr ?_
    refine al_mv rfl rfl ?_
    refine al_mv rfl rfl ?_
    refine al_in rfl rfl rfl rfl ?_
    refine al_nt ?_
    refine aw_cond rfl (fun hb20 => ?_) (fun hb20 => ?_)
    ·replace h := bif_t hb20 h
     refine aw_skip ?_
     refine aq_then ?_
     refine aw_block ?_
     refine aw_sr ?_
     refine al_mv rfl rfl ?_
     refine al_mv rfl rfl ?_
     refine al_mv rfl rfl ?_
     refine al_mv rfl rfl ?_
     refine al_in rfl rfl rfl rfl ?_
     refine al_mv rfl rfl ?_
     refine al_mv rfl rfl ?_
     obtain ⟨r22, hc21, h⟩ := opt_some h
     refine al_call (vs := [v0_0, (iq l17i7), (iq (wq (l17i7 + l5i6))), (iq l17i8), (Value.func (.func 73) #[] #[c2_0])]) (f_slices_symMergeCmpFunc_int__lent_F73_ok fu v0_0 l17x0 l17i7 (wq (l17i7 + l5i6)) l17i8 c2_0 a2_0 hc21) [] [0] [] (pre_fz 0 rfl pre_nil) rfl (by simp) (by decide) (.inl rfl) rfl Try.func171 rfl rfl rfl (fun _ => ?_)
     refine al_nt ?_
     refine aw_sr ?_
     refine al_mv rfl rfl ?_
     refine al_as rfl rfl ?_
     refine al_nt ?_
     refine aw_region ?_
     refine al_mv rfl rfl ?_
     refine al_mv rfl rfl ?_
     refine al_in rfl rfl rfl rfl ?_
     refine al_in rfl rfl rfl rfl ?_
     refine al_as rfl rfl ?_
     refine al_nil ?_
     refine aq_block ?_
     exact aq_again k18 (r22, l17i8, (wq (l17i8 + (wq ((2 : Int) * l5i6))))) (Nat.lt_succ_self _) h (fun w a hm hs => norm hm hs [0] [0] [(0, v0_0), (1, (iq a1)), (2, (Value.func (.func 73) #[] #[c2_0])), (6, (iq l5i6)), (7, (iq l17i8)), (8, (iq (wq (l17i8 + (wq ((2 : Int) * l5i6))))))] (by decide) ⟨rfl, rfl, rfl, rfl, rfl, rfl, trivial⟩)
    ·replace h := bif_f hb20 h
     refine aw_exit ?_
     refine aq_then_exit ?_
     refine aq_then_exit ?_
     refine aq_block_exit ?_
     exact aq_join (l17x0, l17i7) h (fun w a hm hs => norm hm hs [0] [0] [(0, v0_0), (1, (iq a1)), (2, (Value.func (.func 73) #[] #[c2_0])), (6, (iq l5i6)), (7, (iq l17i7))] (by decide) ⟨rfl, rfl, rfl, rfl, rfl, trivial⟩)
  ·replace h := bif_f hb9 h
   refine aw_exit ?_
   refine aq_then_exit ?_
   refine aq_then_exit ?_
   refine aq_block_exit ?_
   refine fn_end ?_
   obtain rfl := Option.some.inj h
   exact fn_ret () [0] [] rfl rfl rfl rfl (resC rfl (resN) rfl) rfl rfl rfl (by decide)
 ·clear hkk2
  refine aw_block ?_
  refine aw_state (aw_loop (ι := (List Int) × Int × Int) (fun i => (memOf w0 Z0 [(oRow v0_0 3 tq a0)] [(oRow v0_0 3 tq i.1)] [(fPtr (tyList tyS_api_Waste) c2_0 a2_0)])) (fun i => (tab [(0, v0_0), (1, (iq a1)), (2, (Value.func (.func 73) #[] #[c2_0])), (6, (iq (20 : Int))), (7, (iq i.2.1)), (8, (iq i.2.2))])) (fun q i => f_slices_stableCmpFunc_int__lent_F73_L25 a1 a2_0 kk2 fu q i.1 i.2.1 i.2.2 = some r) ?_ fu (a0, (0 : Int), (20 : Int)) h) (fun w a hm hs => norm hm hs [0] [0] [(0, v0_0), (1, (iq a1)), (2, (Value.func (.func 73) #[] #[c2_0])), (6, (iq (20 : Int))), (7, (iq (0 : Int))), (8, (iq (20 : Int)))] (by decide) ⟨rfl, rfl, rfl, rfl, rfl, rfl, trivial⟩)
  clear h
  rintro k24 ⟨l23x0, l23i7, l23i8⟩ h
  have h : f_slices_stableCmpFunc_int__lent_F73_L25 a1 a2_0 kk2 fu k24 l23x0 l23i7 l23i8 = some r := h
  obtain _ | k24 := k24
  · rw [f_slices_stableCmpFunc_int__lent_F73_L25] at h; cases h
  rw [f_slices_stableCmpFunc_int__lent_F73_L25] at h
  refine aw_show (m := (memOf w0 Z0 [(oRow v0_0 3 tq a0)] [(oRow v0_0 3 tq l23x0)] [(fPtr (tyList tyS_api_Waste) c2_0 a2_0)])) (S := (tab [(0, v0_0), (1, (iq a1)), (2, (Value.func (.func 73) #[] #[c2_0])), (6, (iq (20 : Int))), (7, (iq l23i7)), (8, (iq l23i8))])) ?_
  refine aw_seq ?_
  refine aw_sr ?_
  refine al_mv rfl rfl ?_
  refine al_mv rfl rfl ?_
  refine al_in rfl rfl rfl rfl ?_
  refine al_nt ?_
  refine aw_cond rfl (fun hb26 => ?_) (fun hb26 => ?_)
  ·replace h := bif_t hb26 h
   refine aw_skip ?_
   refine aq_then ?_
   refine aw_block ?_
   refine aw_sr ?_
   refine al_mv rfl rfl ?_
   refine al_mv rfl rfl ?_
   refine al_mv rfl rfl ?_
   refine al_mv rfl rfl ?_
   obtain ⟨r28, hc27, h⟩ := opt_some h
   refine al_call (vs := [v0_0, (iq l23i7), (iq l23i8), (Value.func (.func 73) #[] #[c2_0])]) (f_slices_insertionSortCmpFunc_int__lent_F73_ok fu v0_0 l23x0 l23i7 l23i8 c2_0 a2_0 hc27) [] [0] [] (pre_fz 0 rfl pre_nil) rfl (by simp) (by decide) (.inl rfl) rfl Try.func170 rfl rfl rfl (fun _ => ?_)
   refine al_nt ?_
   refine aw_sr ?_
   refine al_mv rfl rfl ?_
   refine al_as rfl rfl ?_
   refine al_nt ?_
   refine aw_region ?_
   refine al_mv rfl rfl ?_
   refine al_mv rfl rfl ?_
   refine al_in rfl rfl rfl rfl ?_
   refine al_as rfl rfl ?_
   refine al_nil ?_
   refine aq_block ?_
   exact aq_again k24 (r28, l23i8, (wq (l23i8 + (20 : Int)))) (Nat.lt_succ_self _) h (fun w a hm hs => norm hm hs [0] [0] [(0, v0_0), (1, (iq a1)), (2, (Value.func (.func 73) #[] #[c2_0])), (6, (iq (20 : Int))), (7, (iq l23i8)), (8, (iq (wq (l23i8 + (20 : Int)))))] (by decide) ⟨rfl, rfl, rfl, rfl, rfl, rfl, trivial⟩)
  ·replace h := bif_f hb26 h
   refine aw_exit ?_
   refine aq_then_exit ?_
   refine aq_then_exit ?_
   refine aq_block_exit ?_
   exact aq_join (l23x0, l23i7) h (fun w a hm hs => norm hm hs [0] [0] [(0, v0_0), (1, (iq a1)), (2, (Value.func (.func 73) #[] #[c2_0])), (6, (iq (20 : Int))), (7, (iq l23i7))] (by decide) ⟨rfl, rfl, rfl, rfl, rfl, trivial⟩)
def f_slices_SortStableFunc___int_int__lent_F73 (fu : Nat) (a0 : (List Int)) (a1_0 : (List S_api_Waste)) : Option (List Int) := (opt (f_slices_stableCmpFunc_int__lent_F73 fu a0 (a0.length : Int) a1_0) fun (r2 : (List Int)) => (some r2))
set_option maxRecDepth 100000 in
theorem f_slices_SortStableFunc___int_int__lent_F73_ok (fu : Nat) (v0_0 : Value) (a0 : (List Int)) (c1_0 : Value) (a1_0 : (List S_api_Waste)) {r : (List Int)} (h : f_slices_SortStableFunc___int_int__lent_F73 fu a0 a1_0 = some r) : FnOk Try.prog 72 [v0_0, (Value.func (.func 73) #[] #[c1_0])] [(fPtr (tyList tyS_api_Waste) c1_0 a1_0)] [(oRow v0_0 3 (tyInt .i64) a0)] (fun (i : Unit) => { val := (Value.tuple #[]), own := [(oRow v0_0 3 (tyInt .i64) r)] }) := by
 unfold f_slices_SortStableFunc___int_int__lent_F73 at h
 refine fn_enter Try.func72 rfl Try.ntmps72 rfl (fun w0 Z0 => ?_)
 refine aw_region ?_
 refine al_mv rfl rfl ?_
 refine al_mv rfl rfl ?_
 refine al_val (ov_lenR 0 rfl rfl Try.underlying49 rfl) ?_
 refine al_mv rfl rfl ?_
 obtain ⟨r2, hc1, h⟩ := opt_some h
 refine al_call (vs := [v0_0, (iq (a0.length : Int)), (Value.func (.func 73) #[] #[c1_0])]) (f_slices_stableCmpFunc_int__lent_F73_ok fu v0_0 a0 (a0.length : Int) c1_0 a1_0 hc1) [] [0] [] (pre_fz 0 rfl pre_nil) rfl (by simp) (by decide) (.inl rfl) rfl Try.func135 rfl rfl rfl (fun _ => ?_)
 refine al_nil ?_
 refine fn_end ?_
 obtain rfl := Option.some.inj h
 exact fn_ret () [0] [] rfl rfl rfl rfl (resC rfl (resN) rfl) rfl rfl rfl (by decide)
def f_waste_Choose_L11 (a0 : (List S_api_Waste)) (a1 : Int) (kk6 : ((List Int) → Option ((List Int) × Int))) (fu : Nat) : Nat → (List Int) → Int → Option ((List Int) × Int)
  | 0, _, _ => none
  | k10 + 1, l9x7, l9i17 => (bif (decide (l9i17 < (a0.length : Int))) then (lt (fun (j13x7 : (List Int)) => (f_waste_Choose_L11 a0 a1 kk6 fu k10 j13x7 (IntKind.i64.wrap (l9i17 + (1 : Int))))) fun (kk14 : (List Int) → Option ((List Int) × Int)) => (opt (at? a0 l9i17) fun (u15 : S_api_Waste) => (lt (fun (j19b30 : Bool) => (bif j19b30 then (req (((l9x7.length + ([l9i17]).length) * 8 : Nat) ≤ 140737488355328 ∧ l9x7.length + ([l9i17]).length ≤ 9223372036854775807) (kk14 (l9x7 ++ ([l9i17])))) else (kk14 l9x7))) fun (kk20 : Bool → Option ((List Int) × Int)) => (bif (decide (u15.Size > (0 : Int))) then (opt (f_waste_Share fu u15) fun (r27 : Int) => (kk20 (FloatKind.f64.format.order (r27).toNat (a1).toNat == some .gt))) else (kk20 false))))) else (kk6 l9x7))
def f_waste_Choose (fu : Nat) (a0 : (List S_api_Waste)) (a1 : Int) : Option ((List Int) × Int) := (opt (f_waste_Check fu a0) fun (r3 : Int) => (bif (r3 != (0 : Int)) then (some (([] : List Int), r3)) else (lt (fun (j5x7 : (List Int)) => (opt (f_slices_SortStableFunc___int_int__lent_F73 fu j5x7 a0) fun (r8 : (List Int)) => (some (r8, (0 : Int))))) fun (kk6 : (List Int) → Option ((List Int) × Int)) => (f_waste_Choose_L11 a0 a1 kk6 fu fu ([] : List Int) (0 : Int)))))
set_option maxHeartbeats 2000000 in
set_option maxRecDepth 100000 in
theorem f_waste_Choose_ok (fu : Nat) (v0_0 : Value) (a0 : (List S_api_Waste)) (a1 : Int) {r : ((List Int) × Int)} (h : f_waste_Choose fu a0 a1 = some r) : FnOk Try.prog 21 [v0_0, (Value.float .f64 (a1).toNat)] [(fDat (tyList tyS_api_Waste) [v0_0] a0)] [] (fun (i : Value) => { val := (Value.tuple #[i, (int .i64 r.2)]), own := [(oRow i 3 (tyInt .i64) r.1)] }) := by
 unfold f_waste_Choose at h
 refine fn_enter Try.func21 rfl Try.ntmps21 rfl (fun w0 Z0 => ?_)
 refine aw_sr ?_
 refine al_box (vs := [v0_0]) rfl (cv_fz 0 rfl) rfl (fun g1 => ?_)
 refine al_as rfl rfl ?_
 refine al_as rfl rfl ?_
 refine al_nt ?_
 refine aw_seq ?_
 refine aw_sr ?_
 refine al_val (ov_load (i := 0) (v := v0_0) rfl rfl Try.underlying45 sz45 rfl rfl rfl rfl) ?_
 obtain ⟨r3, hc2, h⟩ := opt_some h
 refine al_call (vs := [v0_0]) (f_waste_Check_ok fu v0_0 a0 hc2) [] [] [0] (pre_fz 0 rfl pre_nil) rfl (by simp) (by decide) (.inl rfl) rfl Try.func28 rfl rfl rfl (fun _ => ?_)
 refine al_as rfl rfl ?_
 refine al_nt ?_
 refine aw_sr ?_
 refine al_mv rfl rfl ?_
 refine al_in rfl rfl rfl rfl ?_
 refine al_nt ?_
 refine aw_cond rfl (fun hb4 => ?_) (fun hb4 => ?_)
 ·replace h := bif_t hb4 h
  refine aw_sr ?_
  refine al_mv rfl rfl ?_
  refine al_as rfl rfl ?_
  refine al_as rfl rfl ?_
  refine al_nt ?_
  refine aw_ret ?_
  refine aq_then_ret ?_
  refine aq_nilR 3 tq ?_
  obtain rfl := Option.some.inj h
  exact fn_ret nS [0] [] rfl rfl rfl rfl (res2 rfl rfl rfl) rfl rfl rfl (by decide)
 ·replace h := bif_f hb4 h
  refine aw_skip ?_
  refine aq_tr ?_
  refine al_as rfl rfl ?_
  refine al_nt ?_
  obtain ⟨kk6, hkk6, h⟩ := lt_some h
  refine aw_seq_join (ι := Value × (List Int)) (fun i => (memOf w0 Z0 [] [(oBox g1 45 [v0_0]), (oRow i.1 3 tq i.2)] [(fDat (tyList tyS_api_Waste) [v0_0] a0)])) (fun i => (tab [(2, (pq g1)), (7, i.1)])) (fun i => kk6 i.2 = some r) ?_ ?_
  ·rintro ⟨j5v7, j5x7⟩ h
   have h : kk6 j5x7 = some r := h
   rw [hkk6] at h
   dsimp only at h
   clear hkk6
   refine aw_show (m := (memOf w0 Z0 [] [(oBox g1 45 [v0_0]), (oRow j5v7 3 tq j5x7)] [(fDat (tyList tyS_api_Waste) [v0_0] a0)])) (S := (tab [(2, (pq g1)), (7, j5v7)])) ?_
   refine aw_seq ?_
   refine aw_freezeBN (τ := (tyList tyS_api_Waste)) 0 (a0) rfl rfl (fun hm => fz_at (i := 0) hm rfl) ?_
   refine aw_region ?_
   refine al_mv rfl rfl ?_
   refine al_val (ov_makeFunc2 (vs := [(pq g1)]) rfl rfl) ?_
   obtain ⟨r8, hc7, h⟩ := opt_some h
   refine al_call (vs := [j5v7, (Value.func (.func 73) #[] #[(pq g1)])]) (f_slices_SortStableFunc___int_int__lent_F73_ok fu j5v7 j5x7 (pq g1) a0 hc7) [] [0] [] (pre_fz 0 rfl pre_nil) rfl (by simp) (by decide) (.inl rfl) rfl Try.func72 rfl rfl rfl (fun _ => ?_)
   refine al_nt ?_
   refine aw_sr ?_
   refine al_mv rfl rfl ?_
   refine al_as rfl rfl ?_
   refine al_as rfl rfl ?_
   refine al_nt ?_
   refine aw_ret ?_
   obtain rfl := Option.some.inj h
   exact fn_ret j5v7 [0] [] rfl rfl rfl rfl (res2 rfl rfl rfl) rfl rfl rfl (by decide)
  ·clear hkk6
   refine aw_sr ?_
   refine al_val (ov_load (i := 0) (v := v0_0) rfl rfl Try.underlying45 sz45 rfl rfl rfl rfl) ?_
   refine al_val (ov_lenD 0 rfl rfl Try.underlying45 rfl) ?_
   refine al_mv rfl rfl ?_
   refine al_nt ?_
   refine aw_block ?_
   refine aw_nilR 3 tq ?_
   refine aw_state (aw_loop (ι := Value × (List Int) × Int) (fun i => (memOf w0 Z0 [] [(oBox g1 45 [v0_0]), (oRow i.1 3 tq i.2.1)] [(fDat (tyList tyS_api_Waste) [v0_0] a0)])) (fun i => (tab [(1, (Value.float .f64 (a1).toNat)), (2, (pq g1)), (7, i.1), (15, v0_0), (16, (iq (a0.length : Int))), (17, (iq i.2.2))])) (fun q i => f_waste_Choose_L11 a0 a1 kk6 fu q i.2.1 i.2.2 = some r) ?_ fu (nS, ([] : List Int), (0 : Int)) h) (fun w a hm hs => norm hm hs [1, 0] [0] [(1, (Value.float .f64 (a1).toNat)), (2, (pq g1)), (7, nS), (15, v0_0), (16, (iq (a0.length : Int))), (17, (iq (0 : Int)))] (by decide) ⟨rfl, rfl, rfl, rfl, rfl, rfl, trivial⟩)
   clear h
   rintro k10 ⟨l9v7, l9x7, l9i17⟩ h
   have h : f_waste_Choose_L11 a0 a1 kk6 fu k10 l9x7 l9i17 = some r := h
   obtain _ | k10 := k10
   · rw [f_waste_Choose_L11] at h; cases h
   rw [f_waste_Choose_L11] at h
   refine aw_show (m := (memOf w0 Z0 [] [(oBox g1 45 [v0_0]), (oRow l9v7 3 tq l9x7)] [(fDat (tyList tyS_api_Waste) [v0_0] a0)])) (S := (tab [(1, (Value.float .f64 (a1).toNat)), (2, (pq g1)), (7, l9v7), (15, v0_0), (16, (iq (a0.length : Int))), (17, (iq l9i17))])) ?_
   refine aw_sr ?_
   refine al_in rfl rfl rfl rfl ?_
   refine al_nt ?_
   refine aw_seq ?_
   refine aw_cond rfl (fun hb12 => ?_) (fun hb12 => ?_)
   ·replace h := bif_t hb12 h
    refine aw_skip ?_
    refine aq_then ?_
    obtain ⟨kk14, hkk14, h⟩ := lt_some h
    refine aw_seq_join (ι := Value × (List Int)) (fun i => (memOf w0 Z0 [] [(oBox g1 45 [v0_0]), (oRow i.1 3 tq i.2)] [(fDat (tyList tyS_api_Waste) [v0_0] a0)])) (fun i => (tab [(1, (Value.float .f64 (a1).toNat)), (2, (pq g1)), (7, i.1), (15, v0_0), (16, (iq (a0.length : Int))), (17, (iq l9i17))])) (fun i => kk14 i.2 = some r) ?_ ?_
    ·rintro ⟨j13v7, j13x7⟩ h
     have h : kk14 j13x7 = some r := h
     rw [hkk14] at h
     dsimp only at h
     clear hkk14
     refine aw_show (m := (memOf w0 Z0 [] [(oBox g1 45 [v0_0]), (oRow j13v7 3 tq j13x7)] [(fDat (tyList tyS_api_Waste) [v0_0] a0)])) (S := (tab [(1, (Value.float .f64 (a1).toNat)), (2, (pq g1)), (7, j13v7), (15, v0_0), (16, (iq (a0.length : Int))), (17, (iq l9i17))])) ?_
     refine aw_region ?_
     refine al_in rfl rfl rfl rfl ?_
     refine al_mv rfl rfl ?_
     refine al_nil ?_
     exact aq_again k10 (j13v7, j13x7, (wq (l9i17 + (1 : Int)))) (Nat.lt_succ_self _) h (fun w a hm hs => norm hm hs [0, 1] [0] [(1, (Value.float .f64 (a1).toNat)), (2, (pq g1)), (7, j13v7), (15, v0_0), (16, (iq (a0.length : Int))), (17, (iq (wq (l9i17 + (1 : Int)))))] (by decide) ⟨rfl, rfl, rfl, rfl, rfl, rfl, trivial⟩)
    ·clear hkk14
     refine aw_block ?_
     refine aw_sr ?_
     refine al_mv rfl rfl ?_
     obtain ⟨u15, hu16, h⟩ := opt_some h
     refine al_idxD 0 hu16 rfl rfl rfl Try.underlying45 sz47 rfl (fun p17 => ?_)
     refine al_val (ov_loadP (ds := [(iq u15.Size), (iq u15.Dead)]) 0 rfl encS_api_Waste rfl Try.underlying47 sz47 rfl rfl rfl) ?_
     refine al_alloc (zs := [(iq (0 : Int)), (iq (0 : Int))]) (zeroOf_to to47) rfl rfl (fun g18 => ?_)
     refine al_as rfl rfl ?_
     refine al_store (i := 0) (vs := [(iq u15.Size), (iq u15.Dead)]) (cs' := [(iq u15.Size), (iq u15.Dead)]) rfl rfl rfl sz47 (cv_rfl rfl) rfl (co_val rfl (co_val rfl co_nil)) (Nat.le_of_ble_eq_true rfl) rfl rfl ?_
     refine al_nt ?_
     obtain ⟨kk20, hkk20, h⟩ := lt_some h
     refine aw_seq_join (ι := Bool) (fun i => (memOf w0 Z0 [] [(oBox g1 45 [v0_0]), (oRow l9v7 3 tq l9x7)] [(fDat (tyList tyS_api_Waste) [v0_0] a0), (fPtr tyS_api_Waste p17 u15)])) (fun i => (tab [(1, (Value.float .f64 (a1).toNat)), (2, (pq g1)), (7, l9v7), (8, (iq l9i17)), (15, v0_0), (16, (iq (a0.length : Int))), (17, (iq l9i17)), (30, (bool i))])) (fun i => kk20 i = some r) ?_ ?_
     ·rintro j19b30 h
      have h : kk20 j19b30 = some r := h
      rw [hkk20] at h
      dsimp only at h
      clear hkk20
      refine aw_show (m := (memOf w0 Z0 [] [(oBox g1 45 [v0_0]), (oRow l9v7 3 tq l9x7)] [(fDat (tyList tyS_api_Waste) [v0_0] a0), (fPtr tyS_api_Waste p17 u15)])) (S := (tab [(1, (Value.float .f64 (a1).toNat)), (2, (pq g1)), (7, l9v7), (8, (iq l9i17)), (15, v0_0), (16, (iq (a0.length : Int))), (17, (iq l9i17)), (30, (bool j19b30))])) ?_
      refine aw_cond rfl (fun hb21 => ?_) (fun hb21 => ?_)
      ·replace h := bif_t hb21 h
       refine aw_region ?_
       refine al_mv rfl rfl ?_
       refine al_mv rfl rfl ?_
       refine al_buildSlice (τ := tq) (e := 3) (k := 1) (sz := 0) (by_ := 0) (z := undef) (cs := [(iq l9i17)]) (xs := [l9i17]) rfl (by decide) (fun w a hm hs => ⟨([(iq l9i17)]).toArray, rfl, by simp only [List.map_toArray, List.map_cons, List.map_nil, hs.ev (x := .tmp 32) rfl]; exact run_bs [(iq l9i17)] [(iq l9i17)] Try.underlying49 to3 rfl rfl (bs_cons (l := [(iq l9i17)]) (cs := []) (cv_rfl rfl) rfl bs_nil) hm⟩) (fun hm => ⟨_, _, rfl, (fun _ => rfl) hm, rfl⟩) rfl (fun v22 => ?_)
       obtain ⟨hc23, h⟩ := req_some h
       refine al_append 2 hc23.1 hc23.2 rfl (src_own (i := 2) 0 rfl) rfl rfl Try.underlying49 to3 rfl rfl rfl (fun v24 => ?_)
       refine al_as rfl rfl ?_
       refine al_nil ?_
       refine aq_block ?_
       exact aq_join (v24, (l9x7 ++ ([l9i17]))) h (fun w a hm hs => norm hm hs [1, 2] [0] [(1, (Value.float .f64 (a1).toNat)), (2, (pq g1)), (7, v24), (15, v0_0), (16, (iq (a0.length : Int))), (17, (iq l9i17))] (by decide) ⟨rfl, rfl, rfl, rfl, rfl, rfl, trivial⟩)
      ·replace h := bif_f hb21 h
       refine aw_skip ?_
       refine aq_block ?_
       exact aq_join (l9v7, l9x7) h (fun w a hm hs => norm hm hs [0, 1] [0] [(1, (Value.float .f64 (a1).toNat)), (2, (pq g1)), (7, l9v7), (15, v0_0), (16, (iq (a0.length : Int))), (17, (iq l9i17))] (by decide) ⟨rfl, rfl, rfl, rfl, rfl, rfl, trivial⟩)
     ·clear hkk20
      refine aw_region ?_
      refine al_val (ov_fieldA (p := 0) rfl Try.underlying47 rfl sz3 rfl rfl rfl) ?_
      refine al_val (ov_load (i := 0) (v := (iq u15.Size)) rfl rfl Try.underlying3 sz3 rfl rfl rfl rfl) ?_
      refine al_in rfl rfl rfl rfl ?_
      refine al_mv rfl rfl ?_
      refine al_caseB 25 rfl (fun hb25 => ?_) (fun hb25 => ?_)
      ·replace h := bif_t hb25 h
       refine al_val (ov_load (i := 0) (v := (ag [(iq u15.Size), (iq u15.Dead)])) rfl rfl Try.underlying47 sz47 rfl rfl rfl rfl) ?_
       obtain ⟨r27, hc26, h⟩ := opt_some h
       refine al_call (vs := [(ag [(iq u15.Size), (iq u15.Dead)])]) (f_waste_Share_ok fu u15 hc26) [] [] [0, 1, 2] pre_nil rfl (by simp) (by decide) (.inl rfl) rfl Try.func26 rfl rfl rfl (fun _ => ?_)
       refine al_mv rfl rfl ?_
       refine al_val (ov_floatCmp rfl rfl rfl rfl) ?_
       refine al_val (ov_pick_t rfl rfl rfl) ?_
       refine al_nil ?_
       exact aq_join (FloatKind.f64.format.order (r27).toNat (a1).toNat == some .gt) h (fun w a hm hs => norm hm hs [1, 2] [1, 0] [(1, (Value.float .f64 (a1).toNat)), (2, (pq g1)), (7, l9v7), (8, (iq l9i17)), (15, v0_0), (16, (iq (a0.length : Int))), (17, (iq l9i17)), (30, (bool (FloatKind.f64.format.order (r27).toNat (a1).toNat == some .gt)))] (by decide) ⟨rfl, rfl, rfl, rfl, rfl, rfl, rfl, rfl, trivial⟩)
      ·replace h := bif_f hb25 h
       refine al_skip ?_
       refine al_skip ?_
       refine al_skip ?_
       refine al_skip ?_
       refine al_val (ov_pick_f rfl rfl rfl) ?_
       refine al_nil ?_
       exact aq_join false h (fun w a hm hs => norm hm hs [1, 2] [1, 0] [(1, (Value.float .f64 (a1).toNat)), (2, (pq g1)), (7, l9v7), (8, (iq l9i17)), (15, v0_0), (16, (iq (a0.length : Int))), (17, (iq l9i17)), (30, (bool false))] (by decide) ⟨rfl, rfl, rfl, rfl, rfl, rfl, rfl, rfl, trivial⟩)
   ·replace h := bif_f hb12 h
    refine aw_exit ?_
    refine aq_then_exit ?_
    refine aq_then_exit ?_
    refine aq_block_exit ?_
    exact aq_join (l9v7, l9x7) h (fun w a hm hs => norm hm hs [0, 1] [0] [(2, (pq g1)), (7, l9v7)] (by decide) ⟨rfl, rfl, trivial⟩)
def f_lumref_Wastes_L6 (a0 : (List S_api_Waste)) (kk3 : (Unit → Option Int)) : Nat → Int → Option Int
  | 0, _ => none
  | k5 + 1, l4i10 => (bif (decide (l4i10 < (a0.length : Int))) then (opt (at? a0 l4i10) fun (u8 : S_api_Waste) => (lt (fun (j12b33 : Bool) => (bif j12b33 then (some (1 : Int)) else (f_lumref_Wastes_L6 a0 kk3 k5 (IntKind.i64.wrap (l4i10 + (1 : Int)))))) fun (kk13 : Bool → Option Int) => (bif (decide (u8.Size < (0 : Int))) then (kk13 true) else (bif (decide (u8.Size > (1099511627776 : Int))) then (kk13 true) else (bif (decide (u8.Dead < (0 : Int))) then (kk13 true) else (kk13 (decide (u8.Dead > u8.Size)))))))) else (kk3 ()))
def f_lumref_Wastes (fu : Nat) (a0 : (List S_api_Waste)) : Option Int := (bif (decide ((a0.length : Int) > (100 : Int))) then (some (2 : Int)) else (lt (fun (_ : Unit) => (some (0 : Int))) fun (kk3 : Unit → Option Int) => (f_lumref_Wastes_L6 a0 kk3 fu (0 : Int))))
set_option maxHeartbeats 2000000 in
set_option maxRecDepth 100000 in
theorem f_lumref_Wastes_ok (fu : Nat) (v0_0 : Value) (a0 : (List S_api_Waste)) {r : Int} (h : f_lumref_Wastes fu a0 = some r) : FnOk Try.prog 29 [v0_0] [(fDat (tyList tyS_api_Waste) [v0_0] a0)] [] (fun (i : Unit) => { val := (int .i64 r) }) := by
 unfold f_lumref_Wastes at h
 refine fn_enter Try.func29 rfl Try.ntmps29 rfl (fun w0 Z0 => ?_)
 refine aw_sr ?_
 refine al_as rfl rfl ?_
 refine al_nt ?_
 refine aw_seq ?_
 refine aw_sr ?_
 refine al_mv rfl rfl ?_
 refine al_val (ov_lenD 0 rfl rfl Try.underlying45 rfl) ?_
 refine al_in rfl rfl rfl rfl ?_
 refine al_nt ?_
 refine aw_cond rfl (fun hb1 => ?_) (fun hb1 => ?_)
 ·replace h := bif_t hb1 h
  refine aw_sr ?_
  refine al_as rfl rfl ?_
  refine al_nt ?_
  refine aw_ret ?_
  refine aq_then_ret ?_
  obtain rfl := Option.some.inj h
  exact fn_ret () [] [] rfl rfl rfl rfl (res1 rfl rfl) rfl rfl rfl (by decide)
 ·replace h := bif_f hb1 h
  refine aw_skip ?_
  refine aq_then ?_
  obtain ⟨kk3, hkk3, h⟩ := lt_some h
  refine aw_seq_join (ι := Unit) (fun i => (memOf w0 Z0 [] [] [(fDat (tyList tyS_api_Waste) [v0_0] a0)])) (fun i => (tab [])) (fun i => kk3 () = some r) ?_ ?_
  ·rintro _ h
   have h : kk3 () = some r := h
   rw [hkk3] at h
   dsimp only at h
   clear hkk3
   refine aw_show (m := (memOf w0 Z0 [] [] [(fDat (tyList tyS_api_Waste) [v0_0] a0)])) (S := (tab [])) ?_
   refine aw_sr ?_
   refine al_as rfl rfl ?_
   refine al_nt ?_
   refine aw_ret ?_
   obtain rfl := Option.some.inj h
   exact fn_ret () [] [] rfl rfl rfl rfl (res1 rfl rfl) rfl rfl rfl (by decide)
  ·clear hkk3
   refine aw_sr ?_
   refine al_mv rfl rfl ?_
   refine al_val (ov_lenD 0 rfl rfl Try.underlying45 rfl) ?_
   refine al_mv rfl rfl ?_
   refine al_nt ?_
   refine aw_block ?_
   refine aw_state (aw_loop (ι := Int) (fun i => (memOf w0 Z0 [] [] [(fDat (tyList tyS_api_Waste) [v0_0] a0)])) (fun i => (tab [(8, v0_0), (9, (iq (a0.length : Int))), (10, (iq i))])) (fun q i => f_lumref_Wastes_L6 a0 kk3 q i = some r) ?_ fu (0 : Int) h) (fun w a hm hs => norm hm hs [] [0] [(8, v0_0), (9, (iq (a0.length : Int))), (10, (iq (0 : Int)))] (by decide) ⟨rfl, rfl, rfl, trivial⟩)
   clear h
   rintro k5 l4i10 h
   have h : f_lumref_Wastes_L6 a0 kk3 k5 l4i10 = some r := h
   obtain _ | k5 := k5
   · rw [f_lumref_Wastes_L6] at h; cases h
   rw [f_lumref_Wastes_L6] at h
   refine aw_show (m := (memOf w0 Z0 [] [] [(fDat (tyList tyS_api_Waste) [v0_0] a0)])) (S := (tab [(8, v0_0), (9, (iq (a0.length : Int))), (10, (iq l4i10))])) ?_
   refine aw_sr ?_
   refine al_in rfl rfl rfl rfl ?_
   refine al_nt ?_
   refine aw_seq ?_
   refine aw_cond rfl (fun hb7 => ?_) (fun hb7 => ?_)
   ·replace h := bif_t hb7 h
    refine aw_skip ?_
    refine aq_then ?_
    refine aw_seq ?_
    refine aw_block ?_
    refine aw_sr ?_
    obtain ⟨u8, hu9, h⟩ := opt_some h
    refine al_idxD 0 hu9 rfl rfl rfl Try.underlying45 sz47 rfl (fun p10 => ?_)
    refine al_val (ov_loadP (ds := [(iq u8.Size), (iq u8.Dead)]) 0 rfl encS_api_Waste rfl Try.underlying47 sz47 rfl rfl rfl) ?_
    refine al_alloc (zs := [(iq (0 : Int)), (iq (0 : Int))]) (zeroOf_to to47) rfl rfl (fun g11 => ?_)
    refine al_store (i := 0) (vs := [(iq u8.Size), (iq u8.Dead)]) (cs' := [(iq u8.Size), (iq u8.Dead)]) rfl rfl rfl sz47 (cv_rfl rfl) rfl (co_val rfl (co_val rfl co_nil)) (Nat.le_of_ble_eq_true rfl) rfl rfl ?_
    refine al_nt ?_
    obtain ⟨kk13, hkk13, h⟩ := lt_some h
    refine aw_seq_join (ι := Bool) (fun i => (memOf w0 Z0 [] [] [(fDat (tyList tyS_api_Waste) [v0_0] a0), (fPtr tyS_api_Waste p10 u8)])) (fun i => (tab [(8, v0_0), (9, (iq (a0.length : Int))), (10, (iq l4i10)), (33, (bool i))])) (fun i => kk13 i = some r) ?_ ?_
    ·rintro j12b33 h
     have h : kk13 j12b33 = some r := h
     rw [hkk13] at h
     dsimp only at h
     clear hkk13
     refine aw_show (m := (memOf w0 Z0 [] [] [(fDat (tyList tyS_api_Waste) [v0_0] a0), (fPtr tyS_api_Waste p10 u8)])) (S := (tab [(8, v0_0), (9, (iq (a0.length : Int))), (10, (iq l4i10)), (33, (bool j12b33))])) ?_
     refine aw_cond rfl (fun hb14 => ?_) (fun hb14 => ?_)
     ·replace h := bif_t hb14 h
      refine aw_sr ?_
      refine al_as rfl rfl ?_
      refine al_nt ?_
      refine aw_ret ?_
      refine aq_block_ret ?_
      refine aq_then_ret ?_
      refine aq_then_ret ?_
      refine aq_block_ret ?_
      refine aq_then_ret ?_
      obtain rfl := Option.some.inj h
      exact fn_ret () [] [] rfl rfl rfl rfl (res1 rfl rfl) rfl rfl rfl (by decide)
     ·replace h := bif_f hb14 h
      refine aw_skip ?_
      refine aq_block ?_
      refine aq_then ?_
      refine aw_region ?_
      refine al_in rfl rfl rfl rfl ?_
      refine al_mv rfl rfl ?_
      refine al_nil ?_
      exact aq_again k5 (wq (l4i10 + (1 : Int))) (Nat.lt_succ_self _) h (fun w a hm hs => norm hm hs [] [0] [(8, v0_0), (9, (iq (a0.length : Int))), (10, (iq (wq (l4i10 + (1 : Int)))))] (by decide) ⟨rfl, rfl, rfl, trivial⟩)
    ·clear hkk13
     refine aw_region ?_
     refine al_val (ov_fieldA (p := 0) rfl Try.underlying47 rfl sz3 rfl rfl rfl) ?_
     refine al_val (ov_load (i := 0) (v := (iq u8.Size)) rfl rfl Try.underlying3 sz3 rfl rfl rfl rfl) ?_
     refine al_in rfl rfl rfl rfl ?_
     refine al_mv rfl rfl ?_
     refine al_caseB 17 rfl (fun hb15 => ?_) (fun hb15 => ?_)
     ·replace h := bif_t hb15 h
      refine al_skip ?_
      refine al_skip ?_
      refine al_skip ?_
      refine al_val (ov_pick_t rfl rfl rfl) ?_
      refine al_mv rfl rfl ?_
      refine al_skip ?_
      refine al_skip ?_
      refine al_skip ?_
      refine al_val (ov_pick_t rfl rfl rfl) ?_
      refine al_mv rfl rfl ?_
      refine al_skip ?_
      refine al_skip ?_
      refine al_skip ?_
      refine al_skip ?_
      refine al_skip ?_
      refine al_val (ov_pick_t rfl rfl rfl) ?_
      refine al_nil ?_
      exact aq_join true h (fun w a hm hs => norm hm hs [] [1, 0] [(8, v0_0), (9, (iq (a0.length : Int))), (10, (iq l4i10)), (33, (bool true))] (by decide) ⟨rfl, rfl, rfl, rfl, trivial⟩)
     ·replace h := bif_f hb15 h
      refine al_val (ov_fieldA (p := 0) rfl Try.underlying47 rfl sz3 rfl rfl rfl) ?_
      refine al_val (ov_load (i := 0) (v := (iq u8.Size)) rfl rfl Try.underlying3 sz3 rfl rfl rfl rfl) ?_
      refine al_in rfl rfl rfl rfl ?_
      refine al_val (ov_pick_f rfl rfl rfl) ?_
      refine al_mv rfl rfl ?_
      refine al_caseB 22 rfl (fun hb16 => ?_) (fun hb16 => ?_)
      ·replace h := bif_t hb16 h
       refine al_skip ?_
       refine al_skip ?_
       refine al_skip ?_
       refine al_val (ov_pick_t rfl rfl rfl) ?_
       refine al_mv rfl rfl ?_
       refine al_skip ?_
       refine al_skip ?_
       refine al_skip ?_
       refine al_skip ?_
       refine al_skip ?_
       refine al_val (ov_pick_t rfl rfl rfl) ?_
       refine al_nil ?_
       exact aq_join true h (fun w a hm hs => norm hm hs [] [1, 0] [(8, v0_0), (9, (iq (a0.length : Int))), (10, (iq l4i10)), (33, (bool true))] (by decide) ⟨rfl, rfl, rfl, rfl, trivial⟩)
      ·replace h := bif_f hb16 h
       refine al_val (ov_fieldA (p := 1) rfl Try.underlying47 rfl sz3 rfl rfl rfl) ?_
       refine al_val (ov_load (i := 0) (v := (iq u8.Dead)) rfl rfl Try.underlying3 sz3 rfl rfl rfl rfl) ?_
       refine al_in rfl rfl rfl rfl ?_
       refine al_val (ov_pick_f rfl rfl rfl) ?_
       refine al_mv rfl rfl ?_
       refine al_caseB 27 rfl (fun hb17 => ?_) (fun hb17 => ?_)
       ·replace h := bif_t hb17 h
        refine al_skip ?_
        refine al_skip ?_
        refine al_skip ?_
        refine al_skip ?_
        refine al_skip ?_
        refine al_val (ov_pick_t rfl rfl rfl) ?_
        refine al_nil ?_
        exact aq_join true h (fun w a hm hs => norm hm hs [] [1, 0] [(8, v0_0), (9, (iq (a0.length : Int))), (10, (iq l4i10)), (33, (bool true))] (by decide) ⟨rfl, rfl, rfl, rfl, trivial⟩)
       ·replace h := bif_f hb17 h
        refine al_val (ov_fieldA (p := 1) rfl Try.underlying47 rfl sz3 rfl rfl rfl) ?_
        refine al_val (ov_load (i := 0) (v := (iq u8.Dead)) rfl rfl Try.underlying3 sz3 rfl rfl rfl rfl) ?_
        refine al_val (ov_fieldA (p := 0) rfl Try.underlying47 rfl sz3 rfl rfl rfl) ?_
        refine al_val (ov_load (i := 0) (v := (iq u8.Size)) rfl rfl Try.underlying3 sz3 rfl rfl rfl rfl) ?_
        refine al_in rfl rfl rfl rfl ?_
        refine al_val (ov_pick_f rfl rfl rfl) ?_
        refine al_nil ?_
        exact aq_join (decide (u8.Dead > u8.Size)) h (fun w a hm hs => norm hm hs [] [1, 0] [(8, v0_0), (9, (iq (a0.length : Int))), (10, (iq l4i10)), (33, (bool (decide (u8.Dead > u8.Size))))] (by decide) ⟨rfl, rfl, rfl, rfl, trivial⟩)
   ·replace h := bif_f hb7 h
    refine aw_exit ?_
    refine aq_then_exit ?_
    refine aq_then_exit ?_
    refine aq_block_exit ?_
    exact aq_join () h (fun w a hm hs => norm hm hs [] [0] [] (by decide) trivial)
def f_lumref_has_L5 (a0 : (List Int)) (a1 : Int) (kk2 : (Unit → Option Bool)) : Nat → Int → Option Bool
  | 0, _ => none
  | k4 + 1, l3i9 => (bif (decide (l3i9 < (a0.length : Int))) then (opt (at? a0 l3i9) fun (u7 : Int) => (bif (u7 == a1) then (some true) else (f_lumref_has_L5 a0 a1 kk2 k4 (IntKind.i64.wrap (l3i9 + (1 : Int)))))) else (kk2 ()))
def f_lumref_has (fu : Nat) (a0 : (List Int)) (a1 : Int) : Option Bool := (lt (fun (_ : Unit) => (some false)) fun (kk2 : Unit → Option Bool) => (f_lumref_has_L5 a0 a1 kk2 fu (0 : Int)))
set_option maxHeartbeats 2000000 in
set_option maxRecDepth 100000 in
theorem f_lumref_has_ok (fu : Nat) (v0_0 : Value) (a0 : (List Int)) (a1 : Int) {r : Bool} (h : f_lumref_has fu a0 a1 = some r) : FnOk Try.prog 75 [v0_0, (int .i64 a1)] [(fDat (tyList (tyInt .i64)) [v0_0] a0)] [] (fun (i : Unit) => { val := (bool r) }) := by
 unfold f_lumref_has at h
 refine fn_enter Try.func75 rfl Try.ntmps75 rfl (fun w0 Z0 => ?_)
 refine aw_sr ?_
 refine al_as rfl rfl ?_
 refine al_nt ?_
 obtain ⟨kk2, hkk2, h⟩ := lt_some h
 refine aw_seq_join (ι := Unit) (fun i => (memOf w0 Z0 [] [] [(fDat (tyList tq) [v0_0] a0)])) (fun i => (tab [])) (fun i => kk2 () = some r) ?_ ?_
 ·rintro _ h
  have h : kk2 () = some r := h
  rw [hkk2] at h
  dsimp only at h
  clear hkk2
  refine aw_show (m := (memOf w0 Z0 [] [] [(fDat (tyList tq) [v0_0] a0)])) (S := (tab [])) ?_
  refine aw_sr ?_
  refine al_as rfl rfl ?_
  refine al_nt ?_
  refine aw_ret ?_
  obtain rfl := Option.some.inj h
  exact fn_ret () [] [] rfl rfl rfl rfl (res1 rfl rfl) rfl rfl rfl (by decide)
 ·clear hkk2
  refine aw_sr ?_
  refine al_mv rfl rfl ?_
  refine al_val (ov_lenD 0 rfl rfl Try.underlying49 rfl) ?_
  refine al_mv rfl rfl ?_
  refine al_nt ?_
  refine aw_block ?_
  refine aw_state (aw_loop (ι := Int) (fun i => (memOf w0 Z0 [] [] [(fDat (tyList tq) [v0_0] a0)])) (fun i => (tab [(1, (iq a1)), (7, v0_0), (8, (iq (a0.length : Int))), (9, (iq i))])) (fun q i => f_lumref_has_L5 a0 a1 kk2 q i = some r) ?_ fu (0 : Int) h) (fun w a hm hs => norm hm hs [] [0] [(1, (iq a1)), (7, v0_0), (8, (iq (a0.length : Int))), (9, (iq (0 : Int)))] (by decide) ⟨rfl, rfl, rfl, rfl, trivial⟩)
  clear h
  rintro k4 l3i9 h
  have h : f_lumref_has_L5 a0 a1 kk2 k4 l3i9 = some r := h
  obtain _ | k4 := k4
  · rw [f_lumref_has_L5] at h; cases h
  rw [f_lumref_has_L5] at h
  refine aw_show (m := (memOf w0 Z0 [] [] [(fDat (tyList tq) [v0_0] a0)])) (S := (tab [(1, (iq a1)), (7, v0_0), (8, (iq (a0.length : Int))), (9, (iq l3i9))])) ?_
  refine aw_sr ?_
  refine al_in rfl rfl rfl rfl ?_
  refine al_nt ?_
  refine aw_seq ?_
  refine aw_cond rfl (fun hb6 => ?_) (fun hb6 => ?_)
  ·replace h := bif_t hb6 h
   refine aw_skip ?_
   refine aq_then ?_
   refine aw_seq ?_
   refine aw_block ?_
   refine aw_sr ?_
   obtain ⟨u7, hu8, h⟩ := opt_some h
   refine al_idxD 0 hu8 rfl rfl rfl Try.underlying49 sz3 rfl (fun p9 => ?_)
   refine al_val (ov_loadP (ds := [(iq u7)]) 0 rfl (fun h => h) rfl Try.underlying3 sz3 rfl rfl rfl) ?_
   refine al_as rfl rfl ?_
   refine al_nt ?_
   refine aw_sr ?_
   refine al_mv rfl rfl ?_
   refine al_mv rfl rfl ?_
   refine al_in rfl rfl rfl rfl ?_
   refine al_nt ?_
   refine aw_cond rfl (fun hb10 => ?_) (fun hb10 => ?_)
   ·replace h := bif_t hb10 h
    refine aw_sr ?_
    refine al_as rfl rfl ?_
    refine al_nt ?_
    refine aw_ret ?_
    refine aq_block_ret ?_
    refine aq_then_ret ?_
    refine aq_then_ret ?_
    refine aq_block_ret ?_
    refine aq_then_ret ?_
    obtain rfl := Option.some.inj h
    exact fn_ret () [] [] rfl rfl rfl rfl (res1 rfl rfl) rfl rfl rfl (by decide)
   ·replace h := bif_f hb10 h
    refine aw_skip ?_
    refine aq_block ?_
    refine aq_then ?_
    refine aw_region ?_
    refine al_in rfl rfl rfl rfl ?_
    refine al_mv rfl rfl ?_
    refine al_nil ?_
    exact aq_again k4 (wq (l3i9 + (1 : Int))) (Nat.lt_succ_self _) h (fun w a hm hs => norm hm hs [] [1] [(1, (iq a1)), (7, v0_0), (8, (iq (a0.length : Int))), (9, (iq (wq (l3i9 + (1 : Int)))))] (by decide) ⟨rfl, rfl, rfl, rfl, trivial⟩)
  ·replace h := bif_f hb6 h
   refine aw_exit ?_
   refine aq_then_exit ?_
   refine aq_then_exit ?_
   refine aq_block_exit ?_
   exact aq_join () h (fun w a hm hs => norm hm hs [] [0] [] (by decide) trivial)
def f_lumref_Share (fu : Nat) (a0 : S_api_Waste) : Option Int := (bif (a0.Size == (0 : Int)) then (some (0 : Int)) else (opt (Option.map (fun n : Nat => (n : Int)) (FloatKind.f64.format.div (((FloatKind.f64.nearest a0.Dead : Nat) : Int)).toNat (((FloatKind.f64.nearest a0.Size : Nat) : Int)).toNat)) fun (r3 : Int) => (some r3)))
set_option maxHeartbeats 2000000 in
set_option maxRecDepth 100000 in
theorem f_lumref_Share_ok (fu : Nat) (a0 : S_api_Waste) {r : Int} (h : f_lumref_Share fu a0 = some r) : FnOk Try.prog 27 [(ag [(int .i64 a0.Size), (int .i64 a0.Dead)])] [] [] (fun (i : Unit) => { val := (Value.float .f64 (r).toNat) }) := by
 unfold f_lumref_Share at h
 refine fn_enter Try.func27 rfl Try.ntmps27 rfl (fun w0 Z0 => ?_)
 refine aw_sr ?_
 refine al_box (vs := [(iq a0.Size), (iq a0.Dead)]) rfl (cv_rfl rfl) rfl (fun g1 => ?_)
 refine al_as rfl rfl ?_
 refine al_nt ?_
 refine aw_seq ?_
 refine aw_sr ?_
 refine al_val (ov_fieldA (p := 0) rfl Try.underlying47 rfl sz3 rfl rfl rfl) ?_
 refine al_val (ov_load (i := 0) (v := (iq a0.Size)) rfl rfl Try.underlying3 sz3 rfl rfl rfl rfl) ?_
 refine al_in rfl rfl rfl rfl ?_
 refine al_nt ?_
 refine aw_cond rfl (fun hb2 => ?_) (fun hb2 => ?_)
 ·replace h := bif_t hb2 h
  refine aw_sr ?_
  refine al_as rfl rfl ?_
  refine al_nt ?_
  refine aw_ret ?_
  refine aq_then_ret ?_
  obtain rfl := Option.some.inj h
  exact fn_ret () [] [] rfl rfl rfl rfl (res1 rfl rfl) rfl rfl rfl (by decide)
 ·replace h := bif_f hb2 h
  refine aw_skip ?_
  refine aq_tr ?_
  refine al_val (ov_fieldA (p := 1) rfl Try.underlying47 rfl sz3 rfl rfl rfl) ?_
  refine al_val (ov_load (i := 0) (v := (iq a0.Dead)) rfl rfl Try.underlying3 sz3 rfl rfl rfl rfl) ?_
  refine al_val (ov_convFloat Try.underlying3 Try.underlying48 rfl rfl) ?_
  refine al_val (ov_fieldA (p := 0) rfl Try.underlying47 rfl sz3 rfl rfl rfl) ?_
  refine al_val (ov_load (i := 0) (v := (iq a0.Size)) rfl rfl Try.underlying3 sz3 rfl rfl rfl rfl) ?_
  refine al_val (ov_convFloat Try.underlying3 Try.underlying48 rfl rfl) ?_
  obtain ⟨r3, hc4, h⟩ := opt_some h
  refine al_val (ov_floatQuo hc4 rfl rfl rfl) ?_
  refine al_as rfl rfl ?_
  refine al_nt ?_
  refine aw_ret ?_
  obtain rfl := Option.some.inj h
  exact fn_ret () [] [] rfl rfl rfl rfl (res1 rfl rfl) rfl rfl rfl (by decide)
def f_lumref_Choose_L16 (a0 : (List S_api_Waste)) (a1 : Int) (l4x7 : (List Int)) (kk9 : (Int → Option ((List Int) × Int))) (fu : Nat) : Nat → Int → Int → Option ((List Int) × Int)
  | 0, _, _ => none
  | k15 + 1, l14i8, l14i18 => (bif (decide (l14i18 < (a0.length : Int))) then (lt (fun (j18i8 : Int) => (f_lumref_Choose_L16 a0 a1 l4x7 kk9 fu k15 j18i8 (IntKind.i64.wrap (l14i18 + (1 : Int))))) fun (kk19 : Int → Option ((List Int) × Int)) => (opt (at? a0 l14i18) fun (u20 : S_api_Waste) => (lt (fun (j24b37 : Bool) => (bif j24b37 then (kk19 l14i8) else (lt (fun (j27b49 : Bool) => (bif j27b49 then (kk19 l14i18) else (kk19 l14i8))) fun (kk28 : Bool → Option ((List Int) × Int)) => (bif (decide (l14i8 < (0 : Int))) then (kk28 true) else (opt (f_lumref_Share fu u20) fun (r32 : Int) => (opt (at? a0 l14i8) fun (u33 : S_api_Waste) => (opt (f_lumref_Share fu u33) fun (r37 : Int) => (kk28 (FloatKind.f64.format.order (r32).toNat (r37).toNat == some .gt))))))))) fun (kk25 : Bool → Option ((List Int) × Int)) => (bif (u20.Size == (0 : Int)) then (kk25 true) else (opt (f_lumref_has fu l4x7 l14i18) fun (r40 : Bool) => (bif r40 then (kk25 true) else (opt (f_lumref_Share fu u20) fun (r43 : Int) => (kk25 (!(FloatKind.f64.format.order (r43).toNat (a1).toNat == some .gt)))))))))) else (kk9 l14i8))
def f_lumref_Choose_L6 (a0 : (List S_api_Waste)) (a1 : Int) (fu : Nat) : Nat → (List Int) → Option ((List Int) × Int)
  | 0, _ => none
  | k5 + 1, l4x7 => (lt (fun (l4x7 : (List Int)) => (f_lumref_Choose_L6 a0 a1 fu k5 l4x7)) fun (kk7 : (List Int) → Option ((List Int) × Int)) => (lt (fun (j8i8 : Int) => (bif (decide (j8i8 < (0 : Int))) then (some (l4x7, (0 : Int))) else (req (((l4x7.length + ([j8i8]).length) * 8 : Nat) ≤ 140737488355328 ∧ l4x7.length + ([j8i8]).length ≤ 9223372036854775807) (kk7 (l4x7 ++ ([j8i8])))))) fun (kk9 : Int → Option ((List Int) × Int)) => (f_lumref_Choose_L16 a0 a1 l4x7 kk9 fu fu (-1 : Int) (0 : Int))))
def f_lumref_Choose (fu : Nat) (a0 : (List S_api_Waste)) (a1 : Int) : Option ((List Int) × Int) := (opt (f_lumref_Wastes fu a0) fun (r2 : Int) => (bif (r2 != (0 : Int)) then (some (([] : List Int), r2)) else (f_lumref_Choose_L6 a0 a1 fu fu ([] : List Int))))
set_option maxRecDepth 100000 in
set_option maxHeartbeats 2000000 in
set_option maxHeartbeats 2000000 in
theorem f_lumref_Choose_ok (fu : Nat) (v0_0 : Value) (a0 : (List S_api_Waste)) (a1 : Int) {r : ((List Int) × Int)} (h : f_lumref_Choose fu a0 a1 = some r) : FnOk Try.prog 22 [v0_0, (Value.float .f64 (a1).toNat)] [(fDat (tyList tyS_api_Waste) [v0_0] a0)] [] (fun (i : Value) => { val := (Value.tuple #[i, (int .i64 r.2)]), own := [(oRow i 3 (tyInt .i64) r.1)] }) := by
 unfold f_lumref_Choose at h
 refine fn_enter Try.func22 rfl Try.ntmps22 rfl (fun w0 Z0 => ?_)
 refine aw_sr ?_
 refine al_as rfl rfl ?_
 refine al_as rfl rfl ?_
 refine al_nt ?_
 refine aw_seq ?_
 refine aw_sr ?_
 refine al_mv rfl rfl ?_
 obtain ⟨r2, hc1, h⟩ := opt_some h
 refine al_call (vs := [v0_0]) (f_lumref_Wastes_ok fu v0_0 a0 hc1) [] [] [] (pre_fz 0 rfl pre_nil) rfl (by simp) (by decide) (.inl rfl) rfl Try.func29 rfl rfl rfl (fun _ => ?_)
 refine al_as rfl rfl ?_
 refine al_nt ?_
 refine aw_sr ?_
 refine al_mv rfl rfl ?_
 refine al_in rfl rfl rfl rfl ?_
 refine al_nt ?_
 refine aw_cond rfl (fun hb3 => ?_) (fun hb3 => ?_)
 ·replace h := bif_t hb3 h
  refine aw_sr ?_
  refine al_mv rfl rfl ?_
  refine al_as rfl rfl ?_
  refine al_as rfl rfl ?_
  refine al_nt ?_
  refine aw_ret ?_
  refine aq_then_ret ?_
  refine aq_nilR 3 tq ?_
  obtain rfl := Option.some.inj h
  exact fn_ret nS [0] [] rfl rfl rfl rfl (res2 rfl rfl rfl) rfl rfl rfl (by decide)
 ·replace h := bif_f hb3 h
  refine aw_skip ?_
  refine aq_tr ?_
  refine al_as rfl rfl ?_
  refine al_nt ?_
  refine aw_block ?_
  refine aw_nilR 3 tq ?_
  refine aw_state (aw_loop (ι := Value × (List Int)) (fun i => (memOf w0 Z0 [] [(oRow i.1 3 tq i.2)] [(fDat (tyList tyS_api_Waste) [v0_0] a0)])) (fun i => (tab [(0, v0_0), (1, (Value.float .f64 (a1).toNat)), (7, i.1)])) (fun q i => f_lumref_Choose_L6 a0 a1 fu q i.2 = some r) ?_ fu (nS, ([] : List Int)) h) (fun w a hm hs => norm hm hs [0] [0] [(0, v0_0), (1, (Value.float .f64 (a1).toNat)), (7, nS)] (by decide) ⟨rfl, rfl, rfl, trivial⟩)
  clear h
  rintro k5 ⟨l4v7, l4x7⟩ h
  have h : f_lumref_Choose_L6 a0 a1 fu k5 l4x7 = some r := h
  obtain _ | k5 := k5
  · rw [f_lumref_Choose_L6] at h; cases h
  rw [f_lumref_Choose_L6] at h
  refine aw_show (m := (memOf w0 Z0 [] [(oRow l4v7 3 tq l4x7)] [(fDat (tyList tyS_api_Waste) [v0_0] a0)])) (S := (tab [(0, v0_0), (1, (Value.float .f64 (a1).toNat)), (7, l4v7)])) ?_
  obtain ⟨kk7, hkk7, h⟩ := lt_some h
  refine aw_body_join (ι := Value × (List Int)) (fun i => (memOf w0 Z0 [] [(oRow i.1 3 tq i.2)] [(fDat (tyList tyS_api_Waste) [v0_0] a0)])) (fun i => (tab [(0, v0_0), (1, (Value.float .f64 (a1).toNat)), (7, i.1)])) (fun i => kk7 i.2 = some r) (fun i h => aq_again k5 i (Nat.lt_succ_self _) (by rw [hkk7] at h; exact h) (fun w a hm hs => ⟨hm, hs⟩)) ?_
  clear hkk7
  refine aw_block ?_
  refine aw_sr ?_
  refine al_as rfl rfl ?_
  refine al_nt ?_
  obtain ⟨kk9, hkk9, h⟩ := lt_some h
  refine aw_seq_join (ι := Int) (fun i => (memOf w0 Z0 [] [(oRow l4v7 3 tq l4x7)] [(fDat (tyList tyS_api_Waste) [v0_0] a0)])) (fun i => (tab [(0, v0_0), (1, (Value.float .f64 (a1).toNat)), (7, l4v7), (8, (iq i))])) (fun i => kk9 i = some r) ?_ ?_
  ·rintro j8i8 h
   have h : kk9 j8i8 = some r := h
   rw [hkk9] at h
   dsimp only at h
   clear hkk9
   refine aw_show (m := (memOf w0 Z0 [] [(oRow l4v7 3 tq l4x7)] [(fDat (tyList tyS_api_Waste) [v0_0] a0)])) (S := (tab [(0, v0_0), (1, (Value.float .f64 (a1).toNat)), (7, l4v7), (8, (iq j8i8))])) ?_
   refine aw_seq ?_
   refine aw_sr ?_
   refine al_mv rfl rfl ?_
   refine al_in rfl rfl rfl rfl ?_
   refine al_nt ?_
   refine aw_cond rfl (fun hb10 => ?_) (fun hb10 => ?_)
   ·replace h := bif_t hb10 h
    refine aw_sr ?_
    refine al_mv rfl rfl ?_
    refine al_as rfl rfl ?_
    refine al_as rfl rfl ?_
    refine al_nt ?_
    refine aw_ret ?_
    refine aq_then_ret ?_
    refine aq_block_ret ?_
    refine aq_then_ret ?_
    refine aq_block_ret ?_
    obtain rfl := Option.some.inj h
    exact fn_ret l4v7 [0] [] rfl rfl rfl rfl (res2 rfl rfl rfl) rfl rfl rfl (by decide)
   ·replace h := bif_f hb10 h
    refine aw_skip ?_
    refine aq_then ?_
    refine aw_region ?_
    refine al_mv rfl rfl ?_
    refine al_mv rfl rfl ?_
    refine al_buildSlice (τ := tq) (e := 3) (k := 1) (sz := 0) (by_ := 0) (z := undef) (cs := [(iq j8i8)]) (xs := [j8i8]) rfl (by decide) (fun w a hm hs => ⟨([(iq j8i8)]).toArray, rfl, by simp only [List.map_toArray, List.map_cons, List.map_nil, hs.ev (x := .tmp 56) rfl]; exact run_bs [(iq j8i8)] [(iq j8i8)] Try.underlying49 to3 rfl rfl (bs_cons (l := [(iq j8i8)]) (cs := []) (cv_rfl rfl) rfl bs_nil) hm⟩) (fun hm => ⟨_, _, rfl, (fun _ => rfl) hm, rfl⟩) rfl (fun v11 => ?_)
    obtain ⟨hc12, h⟩ := req_some h
    refine al_append 1 hc12.1 hc12.2 rfl (src_own (i := 1) 0 rfl) rfl rfl Try.underlying49 to3 rfl rfl rfl (fun v13 => ?_)
    refine al_as rfl rfl ?_
    refine al_nil ?_
    refine aq_block ?_
    exact aq_join (v13, (l4x7 ++ ([j8i8]))) h (fun w a hm hs => norm hm hs [1] [0] [(0, v0_0), (1, (Value.float .f64 (a1).toNat)), (7, v13)] (by decide) ⟨rfl, rfl, rfl, trivial⟩)
  ·clear hkk9
   refine aw_sr ?_
   refine al_mv rfl rfl ?_
   refine al_val (ov_lenD 0 rfl rfl Try.underlying45 rfl) ?_
   refine al_mv rfl rfl ?_
   refine al_nt ?_
   refine aw_block ?_
   refine aw_state (aw_loop (ι := Int × Int) (fun i => (memOf w0 Z0 [] [(oRow l4v7 3 tq l4x7)] [(fDat (tyList tyS_api_Waste) [v0_0] a0)])) (fun i => (tab [(0, v0_0), (1, (Value.float .f64 (a1).toNat)), (7, l4v7), (8, (iq i.1)), (16, v0_0), (17, (iq (a0.length : Int))), (18, (iq i.2))])) (fun q i => f_lumref_Choose_L16 a0 a1 l4x7 kk9 fu q i.1 i.2 = some r) ?_ fu ((-1 : Int), (0 : Int)) h) (fun w a hm hs => norm hm hs [0] [0] [(0, v0_0), (1, (Value.float .f64 (a1).toNat)), (7, l4v7), (8, (iq (-1 : Int))), (16, v0_0), (17, (iq (a0.length : Int))), (18, (iq (0 : Int)))] (by decide) ⟨rfl, rfl, rfl, rfl, rfl, rfl, rfl, trivial⟩)
   clear h
   rintro k15 ⟨l14i8, l14i18⟩ h
   have h : f_lumref_Choose_L16 a0 a1 l4x7 kk9 fu k15 l14i8 l14i18 = some r := h
   obtain _ | k15 := k15
   · rw [f_lumref_Choose_L16] at h; cases h
   rw [f_lumref_Choose_L16] at h
   refine aw_show (m := (memOf w0 Z0 [] [(oRow l4v7 3 tq l4x7)] [(fDat (tyList tyS_api_Waste) [v0_0] a0)])) (S := (tab [(0, v0_0), (1, (Value.float .f64 (a1).toNat)), (7, l4v7), (8, (iq l14i8)), (16, v0_0), (17, (iq (a0.length : Int))), (18, (iq l14i18))])) ?_
   refine aw_sr ?_
   refine al_in rfl rfl rfl rfl ?_
   refine al_nt ?_
   refine aw_seq ?_
   refine aw_cond rfl (fun hb17 => ?_) (fun hb17 => ?_)
   ·replace h := bif_t hb17 h
    refine aw_skip ?_
    refine aq_then ?_
    obtain ⟨kk19, hkk19, h⟩ := lt_some h
    refine aw_seq_join (ι := Int) (fun i => (memOf w0 Z0 [] [(oRow l4v7 3 tq l4x7)] [(fDat (tyList tyS_api_Waste) [v0_0] a0)])) (fun i => (tab [(0, v0_0), (1, (Value.float .f64 (a1).toNat)), (7, l4v7), (8, (iq i)), (16, v0_0), (17, (iq (a0.length : Int))), (18, (iq l14i18))])) (fun i => kk19 i = some r) ?_ ?_
    ·rintro j18i8 h
     have h : kk19 j18i8 = some r := h
     rw [hkk19] at h
     dsimp only at h
     clear hkk19
     refine aw_show (m := (memOf w0 Z0 [] [(oRow l4v7 3 tq l4x7)] [(fDat (tyList tyS_api_Waste) [v0_0] a0)])) (S := (tab [(0, v0_0), (1, (Value.float .f64 (a1).toNat)), (7, l4v7), (8, (iq j18i8)), (16, v0_0), (17, (iq (a0.length : Int))), (18, (iq l14i18))])) ?_
     refine aw_region ?_
     refine al_in rfl rfl rfl rfl ?_
     refine al_mv rfl rfl ?_
     refine al_nil ?_
     exact aq_again k15 (j18i8, (wq (l14i18 + (1 : Int)))) (Nat.lt_succ_self _) h (fun w a hm hs => norm hm hs [0] [0] [(0, v0_0), (1, (Value.float .f64 (a1).toNat)), (7, l4v7), (8, (iq j18i8)), (16, v0_0), (17, (iq (a0.length : Int))), (18, (iq (wq (l14i18 + (1 : Int)))))] (by decide) ⟨rfl, rfl, rfl, rfl, rfl, rfl, rfl, trivial⟩)
    ·clear hkk19
     refine aw_block ?_
     refine aw_sr ?_
     refine al_mv rfl rfl ?_
     obtain ⟨u20, hu21, h⟩ := opt_some h
     refine al_idxD 0 hu21 rfl rfl rfl Try.underlying45 sz47 rfl (fun p22 => ?_)
     refine al_val (ov_loadP (ds := [(iq u20.Size), (iq u20.Dead)]) 0 rfl encS_api_Waste rfl Try.underlying47 sz47 rfl rfl rfl) ?_
     refine al_alloc (zs := [(iq (0 : Int)), (iq (0 : Int))]) (zeroOf_to to47) rfl rfl (fun g23 => ?_)
     refine al_as rfl rfl ?_
     refine al_store (i := 0) (vs := [(iq u20.Size), (iq u20.Dead)]) (cs' := [(iq u20.Size), (iq u20.Dead)]) rfl rfl rfl sz47 (cv_rfl rfl) rfl (co_val rfl (co_val rfl co_nil)) (Nat.le_of_ble_eq_true rfl) rfl rfl ?_
     refine al_nt ?_
     refine aw_seq ?_
     obtain ⟨kk25, hkk25, h⟩ := lt_some h
     refine aw_seq_join (ι := Bool) (fun i => (memOf w0 Z0 [] [(oRow l4v7 3 tq l4x7), (oBox g23 47 [(iq u20.Size), (iq u20.Dead)])] [(fDat (tyList tyS_api_Waste) [v0_0] a0), (fPtr tyS_api_Waste p22 u20)])) (fun i => (tab [(0, v0_0), (1, (Value.float .f64 (a1).toNat)), (7, l4v7), (8, (iq l14i8)), (9, (iq l14i18)), (10, (pq g23)), (16, v0_0), (17, (iq (a0.length : Int))), (18, (iq l14i18)), (37, (bool i))])) (fun i => kk25 i = some r) ?_ ?_
     ·rintro j24b37 h
      have h : kk25 j24b37 = some r := h
      rw [hkk25] at h
      dsimp only at h
      clear hkk25
      refine aw_show (m := (memOf w0 Z0 [] [(oRow l4v7 3 tq l4x7), (oBox g23 47 [(iq u20.Size), (iq u20.Dead)])] [(fDat (tyList tyS_api_Waste) [v0_0] a0), (fPtr tyS_api_Waste p22 u20)])) (S := (tab [(0, v0_0), (1, (Value.float .f64 (a1).toNat)), (7, l4v7), (8, (iq l14i8)), (9, (iq l14i18)), (10, (pq g23)), (16, v0_0), (17, (iq (a0.length : Int))), (18, (iq l14i18)), (37, (bool j24b37))])) ?_
      refine aw_cond rfl (fun hb26 => ?_) (fun hb26 => ?_)
      ·replace h := bif_t hb26 h
       refine aw_exit ?_
       refine aq_then_exit ?_
       refine aq_block_exit ?_
       exact aq_join l14i8 h (fun w a hm hs => norm hm hs [0] [0] [(0, v0_0), (1, (Value.float .f64 (a1).toNat)), (7, l4v7), (8, (iq l14i8)), (16, v0_0), (17, (iq (a0.length : Int))), (18, (iq l14i18))] (by decide) ⟨rfl, rfl, rfl, rfl, rfl, rfl, rfl, trivial⟩)
      ·replace h := bif_f hb26 h
       refine aw_skip ?_
       refine aq_then ?_
       obtain ⟨kk28, hkk28, h⟩ := lt_some h
       refine aw_seq_join (ι := Bool) (fun i => (memOf w0 Z0 [] [(oRow l4v7 3 tq l4x7)] [(fDat (tyList tyS_api_Waste) [v0_0] a0), (fPtr tyS_api_Waste p22 u20)])) (fun i => (tab [(0, v0_0), (1, (Value.float .f64 (a1).toNat)), (7, l4v7), (8, (iq l14i8)), (9, (iq l14i18)), (16, v0_0), (17, (iq (a0.length : Int))), (18, (iq l14i18)), (49, (bool i))])) (fun i => kk28 i = some r) ?_ ?_
       ·rintro j27b49 h
        have h : kk28 j27b49 = some r := h
        rw [hkk28] at h
        dsimp only at h
        clear hkk28
        refine aw_show (m := (memOf w0 Z0 [] [(oRow l4v7 3 tq l4x7)] [(fDat (tyList tyS_api_Waste) [v0_0] a0), (fPtr tyS_api_Waste p22 u20)])) (S := (tab [(0, v0_0), (1, (Value.float .f64 (a1).toNat)), (7, l4v7), (8, (iq l14i8)), (9, (iq l14i18)), (16, v0_0), (17, (iq (a0.length : Int))), (18, (iq l14i18)), (49, (bool j27b49))])) ?_
        refine aw_cond rfl (fun hb29 => ?_) (fun hb29 => ?_)
        ·replace h := bif_t hb29 h
         refine aw_region ?_
         refine al_mv rfl rfl ?_
         refine al_as rfl rfl ?_
         refine al_nil ?_
         refine aq_block ?_
         exact aq_join l14i18 h (fun w a hm hs => norm hm hs [0] [0] [(0, v0_0), (1, (Value.float .f64 (a1).toNat)), (7, l4v7), (8, (iq l14i18)), (16, v0_0), (17, (iq (a0.length : Int))), (18, (iq l14i18))] (by decide) ⟨rfl, rfl, rfl, rfl, rfl, rfl, rfl, trivial⟩)
        ·replace h := bif_f hb29 h
         refine aw_skip ?_
         refine aq_block ?_
         exact aq_join l14i8 h (fun w a hm hs => norm hm hs [0] [0] [(0, v0_0), (1, (Value.float .f64 (a1).toNat)), (7, l4v7), (8, (iq l14i8)), (16, v0_0), (17, (iq (a0.length : Int))), (18, (iq l14i18))] (by decide) ⟨rfl, rfl, rfl, rfl, rfl, rfl, rfl, trivial⟩)
       ·clear hkk28
        rcases Bool.eq_false_or_eq_true (decide (l14i8 < (0 : Int))) with hb30 | hb30
        ·replace h := bif_t hb30 h
         refine aw_region_draw 11 [(38, (fun u => fEq u (iq l14i8))), (39, (fun u => fEq u (bool true))), (40, (fun u => fEq u (bool true))), (41, (fun u => fEq u undef)), (42, (fun u => fEq u undef)), (43, (fun u => fEq u undef)), (44, (fun u => fEq u undef)), (45, (fun u => fEq u undef)), (46, (fun u => fEq u undef)), (47, (fun u => fEq u undef)), (48, (fun u => fEq u undef))] (tab [(0, v0_0), (1, (Value.float .f64 (a1).toNat)), (7, l4v7), (8, (iq l14i8)), (9, (iq l14i18)), (10, (pq g23)), (16, v0_0), (17, (iq (a0.length : Int))), (18, (iq l14i18))]) mixed (by kernel_rfl) rfl rfl rfl (fun a hs => hs.tab _ (allT_mem ⟨rfl, rfl, rfl, rfl, rfl, rfl, rfl, rfl, rfl, trivial⟩)) ⟨⟨rfl, ld_val (ov_move rfl rfl)⟩, ⟨rfl, ld_eq (j := 0) rfl rfl (ld_val (ov_cast (by first | rw [hb30] | rfl) (ov_int rfl rfl rfl rfl)))⟩, ⟨rfl, ld_eq (j := 1) rfl rfl (ld_val (ov_cast (by first | rw [hb30] | rfl) (ov_move rfl rfl)))⟩, ⟨rfl, ld_eq (j := 2) rfl rfl (ld_skip)⟩, ⟨rfl, ld_eq (j := 2) rfl rfl (ld_skip)⟩, ⟨rfl, ld_eq (j := 2) rfl rfl (ld_skip)⟩, ⟨rfl, ld_eq (j := 2) rfl rfl (ld_skip)⟩, ⟨rfl, ld_eq (j := 2) rfl rfl (ld_skip)⟩, ⟨rfl, ld_eq (j := 2) rfl rfl (ld_skip)⟩, ⟨rfl, ld_eq (j := 2) rfl rfl (ld_skip)⟩, ⟨rfl, ld_eq (j := 2) rfl rfl (ld_skip)⟩, trivial⟩ ?_
         refine tl_eq 2 rfl ?_
         refine tl_eq 10 rfl ?_
         refine tl_done ?_
         refine al_val (ov_pick_t rfl rfl rfl) ?_
         refine al_nil ?_
         exact aq_join true h (fun w a hm hs => norm hm hs [0] [0, 1] [(0, v0_0), (1, (Value.float .f64 (a1).toNat)), (7, l4v7), (8, (iq l14i8)), (9, (iq l14i18)), (16, v0_0), (17, (iq (a0.length : Int))), (18, (iq l14i18)), (49, (bool true))] (by decide) ⟨rfl, rfl, rfl, rfl, rfl, rfl, rfl, rfl, rfl, trivial⟩)
        ·replace h := bif_f hb30 h
         obtain ⟨r32, hc31, h⟩ := opt_some h
         obtain ⟨u33, hu34, h⟩ := opt_some h
         obtain ⟨r37, hc36, h⟩ := opt_some h
         refine aw_region_draw 11 [(38, (fun u => fEq u (iq l14i8))), (39, (fun u => fEq u (bool false))), (40, (fun u => fEq u (bool false))), (41, (fun u => fEq u (ag [(iq u20.Size), (iq u20.Dead)]))), (42, (fun u => fEq u (Value.float .f64 (r32).toNat))), (43, (fun u => fEq u v0_0)), (44, (fun u => fEq u (iq l14i8))), (45, (fun p35 => (fPtr tyS_api_Waste p35 u33))), (46, (fun u => fEq u (ag [(iq u33.Size), (iq u33.Dead)]))), (47, (fun u => fEq u (Value.float .f64 (r37).toNat))), (48, (fun u => fEq u (bool (FloatKind.f64.format.order (r32).toNat (r37).toNat == some .gt))))] (tab [(0, v0_0), (1, (Value.float .f64 (a1).toNat)), (7, l4v7), (8, (iq l14i8)), (9, (iq l14i18)), (10, (pq g23)), (16, v0_0), (17, (iq (a0.length : Int))), (18, (iq l14i18))]) mixed (by kernel_rfl) rfl rfl rfl (fun a hs => hs.tab _ (allT_mem ⟨rfl, rfl, rfl, rfl, rfl, rfl, rfl, rfl, rfl, trivial⟩)) ⟨⟨rfl, ld_val (ov_move rfl rfl)⟩, ⟨rfl, ld_eq (j := 0) rfl rfl (ld_val (ov_cast (by first | rw [hb30] | rfl) (ov_int rfl rfl rfl rfl)))⟩, ⟨rfl, ld_eq (j := 1) rfl rfl (ld_val (ov_cast (by first | rw [hb30] | rfl) (ov_move rfl rfl)))⟩, ⟨rfl, ld_eq (j := 2) rfl rfl (ld_val (ov_load (i := 1) (v := (ag [(iq u20.Size), (iq u20.Dead)])) rfl rfl Try.underlying47 sz47 rfl rfl rfl rfl))⟩, ⟨rfl, ld_eq (j := 2) rfl rfl (ld_eq (j := 3) rfl rfl (ld_callV (vs := [(ag [(iq u20.Size), (iq u20.Dead)])]) (f_lumref_Share_ok fu u20 hc31) [] pre_nil rfl Try.func27 rfl rfl rfl))⟩, ⟨rfl, ld_eq (j := 2) rfl rfl (ld_val (ov_move rfl rfl))⟩, ⟨rfl, ld_eq (j := 2) rfl rfl (ld_val (ov_move rfl rfl))⟩, ⟨rfl, ld_eq (j := 2) rfl rfl (ld_eq (j := 5) rfl rfl (ld_eq (j := 6) rfl rfl (ld_of (of_idxD 0 hu34 rfl rfl rfl Try.underlying45 sz47 rfl))))⟩, ⟨rfl, ld_eq (j := 2) rfl rfl (ld_fact (j := 7) rfl rfl (fun p35 => ld_val (ov_loadP (ds := [(iq u33.Size), (iq u33.Dead)]) 0 rfl encS_api_Waste rfl Try.underlying47 sz47 rfl rfl rfl)))⟩, ⟨rfl, ld_eq (j := 2) rfl rfl (ld_eq (j := 8) rfl rfl (ld_callV (vs := [(ag [(iq u33.Size), (iq u33.Dead)])]) (f_lumref_Share_ok fu u33 hc36) [] pre_nil rfl Try.func27 rfl rfl rfl))⟩, ⟨rfl, ld_eq (j := 2) rfl rfl (ld_eq (j := 4) rfl rfl (ld_eq (j := 9) rfl rfl (ld_val (ov_floatCmp rfl rfl rfl rfl))))⟩, trivial⟩ ?_
         refine tl_eq 2 rfl ?_
         refine tl_eq 10 rfl ?_
         refine tl_done ?_
         refine al_val (ov_pick_f rfl rfl rfl) ?_
         refine al_nil ?_
         exact aq_join (FloatKind.f64.format.order (r32).toNat (r37).toNat == some .gt) h (fun w a hm hs => norm hm hs [0] [0, 1] [(0, v0_0), (1, (Value.float .f64 (a1).toNat)), (7, l4v7), (8, (iq l14i8)), (9, (iq l14i18)), (16, v0_0), (17, (iq (a0.length : Int))), (18, (iq l14i18)), (49, (bool (FloatKind.f64.format.order (r32).toNat (r37).toNat == some .gt)))] (by decide) ⟨rfl, rfl, rfl, rfl, rfl, rfl, rfl, rfl, rfl, trivial⟩)
     ·clear hkk25
      refine aw_region ?_
      refine al_val (ov_fieldA (p := 0) rfl Try.underlying47 rfl sz3 rfl rfl rfl) ?_
      refine al_val (ov_load (i := 0) (v := (iq u20.Size)) rfl rfl Try.underlying3 sz3 rfl rfl rfl rfl) ?_
      refine al_in rfl rfl rfl rfl ?_
      refine al_mv rfl rfl ?_
      refine al_caseB 26 rfl (fun hb38 => ?_) (fun hb38 => ?_)
      ·replace h := bif_t hb38 h
       refine al_skip ?_
       refine al_skip ?_
       refine al_skip ?_
       refine al_val (ov_pick_t rfl rfl rfl) ?_
       refine al_mv rfl rfl ?_
       refine al_skip ?_
       refine al_skip ?_
       refine al_skip ?_
       refine al_skip ?_
       refine al_skip ?_
       refine al_val (ov_pick_t rfl rfl rfl) ?_
       refine al_nil ?_
       exact aq_join true h (fun w a hm hs => norm hm hs [1, 0] [1, 0] [(0, v0_0), (1, (Value.float .f64 (a1).toNat)), (7, l4v7), (8, (iq l14i8)), (9, (iq l14i18)), (10, (pq g23)), (16, v0_0), (17, (iq (a0.length : Int))), (18, (iq l14i18)), (37, (bool true))] (by decide) ⟨rfl, rfl, rfl, rfl, rfl, rfl, rfl, rfl, rfl, rfl, trivial⟩)
      ·replace h := bif_f hb38 h
       refine al_mv rfl rfl ?_
       refine al_mv rfl rfl ?_
       obtain ⟨r40, hc39, h⟩ := opt_some h
       refine al_call (vs := [l4v7, (iq l14i18)]) (f_lumref_has_ok fu l4v7 l4x7 l14i18 hc39) [1] [] [0, 1] (pre_own 1 rfl rfl pre_nil) rfl (by simp) (by decide) (.inr flat_res0) rfl Try.func75 rfl rfl rfl (fun _ => ?_)
       refine al_val (ov_pick_f rfl rfl rfl) ?_
       refine al_mv rfl rfl ?_
       refine al_caseB 31 rfl (fun hb41 => ?_) (fun hb41 => ?_)
       ·replace h := bif_t hb41 h
        refine al_skip ?_
        refine al_skip ?_
        refine al_skip ?_
        refine al_skip ?_
        refine al_skip ?_
        refine al_val (ov_pick_t rfl rfl rfl) ?_
        refine al_nil ?_
        exact aq_join true h (fun w a hm hs => norm hm hs [1, 0] [1, 0] [(0, v0_0), (1, (Value.float .f64 (a1).toNat)), (7, l4v7), (8, (iq l14i8)), (9, (iq l14i18)), (10, (pq g23)), (16, v0_0), (17, (iq (a0.length : Int))), (18, (iq l14i18)), (37, (bool true))] (by decide) ⟨rfl, rfl, rfl, rfl, rfl, rfl, rfl, rfl, rfl, rfl, trivial⟩)
       ·replace h := bif_f hb41 h
        refine al_val (ov_load (i := 0) (v := (ag [(iq u20.Size), (iq u20.Dead)])) rfl rfl Try.underlying47 sz47 rfl rfl rfl rfl) ?_
        obtain ⟨r43, hc42, h⟩ := opt_some h
        refine al_call (vs := [(ag [(iq u20.Size), (iq u20.Dead)])]) (f_lumref_Share_ok fu u20 hc42) [] [] [0, 1] pre_nil rfl (by simp) (by decide) (.inl rfl) rfl Try.func27 rfl rfl rfl (fun _ => ?_)
        refine al_mv rfl rfl ?_
        refine al_val (ov_floatCmp rfl rfl rfl rfl) ?_
        refine al_val (ov_not rfl rfl) ?_
        refine al_val (ov_pick_f rfl rfl rfl) ?_
        refine al_nil ?_
        exact aq_join (!(FloatKind.f64.format.order (r43).toNat (a1).toNat == some .gt)) h (fun w a hm hs => norm hm hs [1, 0] [1, 0] [(0, v0_0), (1, (Value.float .f64 (a1).toNat)), (7, l4v7), (8, (iq l14i8)), (9, (iq l14i18)), (10, (pq g23)), (16, v0_0), (17, (iq (a0.length : Int))), (18, (iq l14i18)), (37, (bool (!(FloatKind.f64.format.order (r43).toNat (a1).toNat == some .gt))))] (by decide) ⟨rfl, rfl, rfl, rfl, rfl, rfl, rfl, rfl, rfl, rfl, trivial⟩)
   ·replace h := bif_f hb17 h
    refine aw_exit ?_
    refine aq_then_exit ?_
    refine aq_then_exit ?_
    refine aq_block_exit ?_
    exact aq_join l14i8 h (fun w a hm hs => norm hm hs [0] [0] [(0, v0_0), (1, (Value.float .f64 (a1).toNat)), (7, l4v7), (8, (iq l14i8))] (by decide) ⟨rfl, rfl, rfl, rfl, trivial⟩)
def f_waste_Total_L11 (a0 : (List S_api_Waste)) (a1 : (List Int)) (kk8 : (Int → Int → Option (S_api_Waste × Int))) : Nat → (List (Int × Bool)) → Int → Int → Int → Option (S_api_Waste × Int)
  | 0, _, _, _, _ => none
  | k10 + 1, l9xm7, l9i8_0, l9i8_1, l9i20 => (bif (decide (l9i20 < (a1.length : Int))) then (opt (at? a1 l9i20) fun (u13 : Int) => (lt (fun (j16b31 : Bool) => (bif j16b31 then (some ((S_api_Waste.mk (0 : Int) (0 : Int)), (1 : Int))) else (req ((Lit.int .i64 u13).wf = true) (bif ((gget l9xm7 u13).getD false) then (some ((S_api_Waste.mk (0 : Int) (0 : Int)), (10 : Int))) else (req ((Lit.int .i64 u13).wf = true) (opt (at? a0 u13) fun (u22 : S_api_Waste) => (opt (at? a0 u13) fun (u26 : S_api_Waste) => (f_waste_Total_L11 a0 a1 kk8 k10 (gset l9xm7 u13 true) (IntKind.i64.wrap (l9i8_0 + u22.Size)) (IntKind.i64.wrap (l9i8_1 + u26.Dead)) (IntKind.i64.wrap (l9i20 + (1 : Int))))))))))) fun (kk17 : Bool → Option (S_api_Waste × Int)) => (bif (decide (u13 < (0 : Int))) then (kk17 true) else (kk17 (decide (u13 ≥ (a0.length : Int))))))) else (kk8 l9i8_0 l9i8_1))
def f_waste_Total (fu : Nat) (a0 : (List S_api_Waste)) (a1 : (List Int)) : Option (S_api_Waste × Int) := (opt (f_waste_Check fu a0) fun (r3 : Int) => (bif (r3 != (0 : Int)) then (some ((S_api_Waste.mk (0 : Int) (0 : Int)), r3)) else (lt (fun (j7i8_0 : Int) (j7i8_1 : Int) => (some ((S_api_Waste.mk j7i8_0 j7i8_1), (0 : Int)))) fun (kk8 : Int → Int → Option (S_api_Waste × Int)) => (f_waste_Total_L11 a0 a1 kk8 fu ([] : List (Int × Bool)) (0 : Int) (0 : Int) (0 : Int)))))
set_option maxHeartbeats 2000000 in
set_option maxRecDepth 100000 in
theorem f_waste_Total_ok (fu : Nat) (v0_0 : Value) (a0 : (List S_api_Waste)) (v1_0 : Value) (a1 : (List Int)) {r : (S_api_Waste × Int)} (h : f_waste_Total fu a0 a1 = some r) : FnOk Try.prog 23 [v0_0, v1_0] [(fDat (tyList tyS_api_Waste) [v0_0] a0), (fDat (tyList (tyInt .i64)) [v1_0] a1)] [] (fun (i : Unit) => { val := (Value.tuple #[(ag [(int .i64 r.1.Size), (int .i64 r.1.Dead)]), (int .i64 r.2)]) }) := by
 unfold f_waste_Total at h
 refine fn_enter Try.func23 rfl Try.ntmps23 rfl (fun w0 Z0 => ?_)
 refine aw_sr ?_
 refine al_alloc (zs := [(iq (0 : Int)), (iq (0 : Int))]) (zeroOf_to to47) rfl rfl (fun g1 => ?_)
 refine al_as rfl rfl ?_
 refine al_nt ?_
 refine aw_seq ?_
 refine aw_sr ?_
 refine al_mv rfl rfl ?_
 obtain ⟨r3, hc2, h⟩ := opt_some h
 refine al_call (vs := [v0_0]) (f_waste_Check_ok fu v0_0 a0 hc2) [] [] [0] (pre_fz 0 rfl pre_nil) rfl (by simp) (by decide) (.inl rfl) rfl Try.func28 rfl rfl rfl (fun _ => ?_)
 refine al_as rfl rfl ?_
 refine al_nt ?_
 refine aw_sr ?_
 refine al_mv rfl rfl ?_
 refine al_in rfl rfl rfl rfl ?_
 refine al_nt ?_
 refine aw_cond rfl (fun hb4 => ?_) (fun hb4 => ?_)
 ·replace h := bif_t hb4 h
  refine aw_sr ?_
  refine al_val (ov_build (cells := ([(iq (0 : Int)), (iq (0 : Int))]).toArray) (cs := [(iq (0 : Int)), (iq (0 : Int))]) rfl (fun w a hm hs => by simp only [List.map_toArray, List.map_cons, List.map_nil, List.toList_toArray]; kernel_rfl)) ?_
  refine al_mv rfl rfl ?_
  refine al_store (i := 0) (vs := [(iq (0 : Int)), (iq (0 : Int))]) (cs' := [(iq (0 : Int)), (iq (0 : Int))]) rfl rfl rfl sz47 (cv_rfl rfl) rfl (co_val rfl (co_val rfl co_nil)) (Nat.le_of_ble_eq_true rfl) rfl rfl ?_
  refine al_as rfl rfl ?_
  refine al_nt ?_
  refine aw_ret ?_
  refine aq_then_ret ?_
  obtain rfl := Option.some.inj h
  exact fn_ret () [] [] rfl rfl rfl rfl (resC rfl (resB (i := 0) rfl rfl Try.underlying47 sz47 rfl rfl rfl (resT rfl (resN))) rfl) rfl rfl rfl (by decide)
 ·replace h := bif_f hb4 h
  refine aw_skip ?_
  refine aq_tr ?_
  refine al_makeMapK (ν := Bool) 3 (fun x : Int => iq x) (fun x : Bool => bool x) rfl (fun g5 => ?_)
  refine al_as rfl rfl ?_
  refine al_nt ?_
  refine aw_sr ?_
  refine al_alloc (zs := [(iq (0 : Int)), (iq (0 : Int))]) (zeroOf_to to47) rfl rfl (fun g6 => ?_)
  refine al_nt ?_
  obtain ⟨kk8, hkk8, h⟩ := lt_some h
  refine aw_seq_join (ι := Int × Int) (fun i => (memOf w0 Z0 [] [(oBox g1 47 [(iq (0 : Int)), (iq (0 : Int))]), (oBox g6 47 [(iq i.1), (iq i.2)])] [(fDat (tyList tyS_api_Waste) [v0_0] a0), (fDat (tyList tq) [v1_0] a1)])) (fun i => (tab [(4, (pq g1)), (8, (pq g6))])) (fun i => kk8 i.1 i.2 = some r) ?_ ?_
  ·rintro ⟨j7i8_0, j7i8_1⟩ h
   have h : kk8 j7i8_0 j7i8_1 = some r := h
   rw [hkk8] at h
   dsimp only at h
   clear hkk8
   refine aw_show (m := (memOf w0 Z0 [] [(oBox g1 47 [(iq (0 : Int)), (iq (0 : Int))]), (oBox g6 47 [(iq j7i8_0), (iq j7i8_1)])] [(fDat (tyList tyS_api_Waste) [v0_0] a0), (fDat (tyList tq) [v1_0] a1)])) (S := (tab [(4, (pq g1)), (8, (pq g6))])) ?_
   refine aw_sr ?_
   refine al_val (ov_load (i := 1) (v := (ag [(iq j7i8_0), (iq j7i8_1)])) rfl rfl Try.underlying47 sz47 rfl rfl rfl rfl) ?_
   refine al_store (i := 0) (vs := [(iq j7i8_0), (iq j7i8_1)]) (cs' := [(iq j7i8_0), (iq j7i8_1)]) rfl rfl rfl sz47 (cv_rfl rfl) rfl (co_val rfl (co_val rfl co_nil)) (Nat.le_of_ble_eq_true rfl) rfl rfl ?_
   refine al_as rfl rfl ?_
   refine al_nt ?_
   refine aw_ret ?_
   obtain rfl := Option.some.inj h
   exact fn_ret () [] [] rfl rfl rfl rfl (resC rfl (resB (i := 0) rfl rfl Try.underlying47 sz47 rfl rfl rfl (resT rfl (resN))) rfl) rfl rfl rfl (by decide)
  ·clear hkk8
   refine aw_sr ?_
   refine al_mv rfl rfl ?_
   refine al_val (ov_lenD 1 rfl rfl Try.underlying49 rfl) ?_
   refine al_mv rfl rfl ?_
   refine al_nt ?_
   refine aw_block ?_
   refine aw_state (aw_loop (ι := (List (Int × Bool)) × Int × Int × Int) (fun i => (memOf w0 Z0 [] [(oBox g1 47 [(iq (0 : Int)), (iq (0 : Int))]), (oMapK Try.prog 3 g5 (fun x : Int => iq x) (fun x : Bool => bool x) i.1), (oBox g6 47 [(iq i.2.1), (iq i.2.2.1)])] [(fDat (tyList tyS_api_Waste) [v0_0] a0), (fDat (tyList tq) [v1_0] a1)])) (fun i => (tab [(0, v0_0), (4, (pq g1)), (7, (Value.map (some g5))), (8, (pq g6)), (18, v1_0), (19, (iq (a1.length : Int))), (20, (iq i.2.2.2))])) (fun q i => f_waste_Total_L11 a0 a1 kk8 q i.1 i.2.1 i.2.2.1 i.2.2.2 = some r) ?_ fu (([] : List (Int × Bool)), (0 : Int), (0 : Int), (0 : Int)) h) (fun w a hm hs => norm hm hs [2, 1, 0] [0, 1] [(0, v0_0), (4, (pq g1)), (7, (Value.map (some g5))), (8, (pq g6)), (18, v1_0), (19, (iq (a1.length : Int))), (20, (iq (0 : Int)))] (by decide) ⟨rfl, rfl, rfl, rfl, rfl, rfl, rfl, trivial⟩)
   clear h
   rintro k10 ⟨l9xm7, l9i8_0, l9i8_1, l9i20⟩ h
   have h : f_waste_Total_L11 a0 a1 kk8 k10 l9xm7 l9i8_0 l9i8_1 l9i20 = some r := h
   obtain _ | k10 := k10
   · rw [f_waste_Total_L11] at h; cases h
   rw [f_waste_Total_L11] at h
   refine aw_show (m := (memOf w0 Z0 [] [(oBox g1 47 [(iq (0 : Int)), (iq (0 : Int))]), (oMapK Try.prog 3 g5 (fun x : Int => iq x) (fun x : Bool => bool x) l9xm7), (oBox g6 47 [(iq l9i8_0), (iq l9i8_1)])] [(fDat (tyList tyS_api_Waste) [v0_0] a0), (fDat (tyList tq) [v1_0] a1)])) (S := (tab [(0, v0_0), (4, (pq g1)), (7, (Value.map (some g5))), (8, (pq g6)), (18, v1_0), (19, (iq (a1.length : Int))), (20, (iq l9i20))])) ?_
   refine aw_sr ?_
   refine al_in rfl rfl rfl rfl ?_
   refine al_nt ?_
   refine aw_seq ?_
   refine aw_cond rfl (fun hb12 => ?_) (fun hb12 => ?_)
   ·replace h := bif_t hb12 h
    refine aw_skip ?_
    refine aq_then ?_
    refine aw_seq ?_
    refine aw_block ?_
    refine aw_sr ?_
    obtain ⟨u13, hu14, h⟩ := opt_some h
    refine al_idxD 1 hu14 rfl rfl rfl Try.underlying49 sz3 rfl (fun p15 => ?_)
    refine al_val (ov_loadP (ds := [(iq u13)]) 0 rfl (fun h => h) rfl Try.underlying3 sz3 rfl rfl rfl) ?_
    refine al_as rfl rfl ?_
    refine al_nt ?_
    refine aw_seq ?_
    obtain ⟨kk17, hkk17, h⟩ := lt_some h
    refine aw_seq_join (ι := Bool) (fun i => (memOf w0 Z0 [] [(oBox g1 47 [(iq (0 : Int)), (iq (0 : Int))]), (oMapK Try.prog 3 g5 (fun x : Int => iq x) (fun x : Bool => bool x) l9xm7), (oBox g6 47 [(iq l9i8_0), (iq l9i8_1)])] [(fDat (tyList tyS_api_Waste) [v0_0] a0), (fDat (tyList tq) [v1_0] a1), (fPtr tq p15 u13)])) (fun i => (tab [(0, v0_0), (4, (pq g1)), (7, (Value.map (some g5))), (8, (pq g6)), (10, (iq u13)), (18, v1_0), (19, (iq (a1.length : Int))), (20, (iq l9i20)), (31, (bool i))])) (fun i => kk17 i = some r) ?_ ?_
    ·rintro j16b31 h
     have h : kk17 j16b31 = some r := h
     rw [hkk17] at h
     dsimp only at h
     clear hkk17
     refine aw_show (m := (memOf w0 Z0 [] [(oBox g1 47 [(iq (0 : Int)), (iq (0 : Int))]), (oMapK Try.prog 3 g5 (fun x : Int => iq x) (fun x : Bool => bool x) l9xm7), (oBox g6 47 [(iq l9i8_0), (iq l9i8_1)])] [(fDat (tyList tyS_api_Waste) [v0_0] a0), (fDat (tyList tq) [v1_0] a1), (fPtr tq p15 u13)])) (S := (tab [(0, v0_0), (4, (pq g1)), (7, (Value.map (some g5))), (8, (pq g6)), (10, (iq u13)), (18, v1_0), (19, (iq (a1.length : Int))), (20, (iq l9i20)), (31, (bool j16b31))])) ?_
     refine aw_cond rfl (fun hb18 => ?_) (fun hb18 => ?_)
     ·replace h := bif_t hb18 h
      refine aw_sr ?_
      refine al_val (ov_build (cells := ([(iq (0 : Int)), (iq (0 : Int))]).toArray) (cs := [(iq (0 : Int)), (iq (0 : Int))]) rfl (fun w a hm hs => by simp only [List.map_toArray, List.map_cons, List.map_nil, List.toList_toArray]; kernel_rfl)) ?_
      refine al_store (i := 0) (vs := [(iq (0 : Int)), (iq (0 : Int))]) (cs' := [(iq (0 : Int)), (iq (0 : Int))]) rfl rfl rfl sz47 (cv_rfl rfl) rfl (co_val rfl (co_val rfl co_nil)) (Nat.le_of_ble_eq_true rfl) rfl rfl ?_
      refine al_as rfl rfl ?_
      refine al_nt ?_
      refine aw_ret ?_
      refine aq_then_ret ?_
      refine aq_block_ret ?_
      refine aq_then_ret ?_
      refine aq_then_ret ?_
      refine aq_block_ret ?_
      refine aq_then_ret ?_
      obtain rfl := Option.some.inj h
      exact fn_ret () [] [] rfl rfl rfl rfl (resC rfl (resB (i := 0) rfl rfl Try.underlying47 sz47 rfl rfl rfl (resT rfl (resN))) rfl) rfl rfl rfl (by decide)
     ·replace h := bif_f hb18 h
      refine aw_skip ?_
      refine aq_then ?_
      refine aw_seq ?_
      refine aw_sr ?_
      refine al_mv rfl rfl ?_
      refine al_mv rfl rfl ?_
      obtain ⟨hc19, h⟩ := req_some h
      refine al_val (v := (bool ((gget l9xm7 u13).getD false))) (ov_lookupK (k := u13) (ek := (fun x : Int => iq x)) (ew := (fun x : Bool => bool x)) (z := false) 1 kd3 (vint_inj .i64) (key_int Try.underlying3 hc19) rfl rfl rfl Try.underlying138 (zeroOf_to to4) rfl) ?_
      refine al_nt ?_
      refine aw_cond rfl (fun hb20 => ?_) (fun hb20 => ?_)
      ·replace h := bif_t hb20 h
       refine aw_sr ?_
       refine al_val (ov_build (cells := ([(iq (0 : Int)), (iq (0 : Int))]).toArray) (cs := [(iq (0 : Int)), (iq (0 : Int))]) rfl (fun w a hm hs => by simp only [List.map_toArray, List.map_cons, List.map_nil, List.toList_toArray]; kernel_rfl)) ?_
       refine al_store (i := 0) (vs := [(iq (0 : Int)), (iq (0 : Int))]) (cs' := [(iq (0 : Int)), (iq (0 : Int))]) rfl rfl rfl sz47 (cv_rfl rfl) rfl (co_val rfl (co_val rfl co_nil)) (Nat.le_of_ble_eq_true rfl) rfl rfl ?_
       refine al_as rfl rfl ?_
       refine al_nt ?_
       refine aw_ret ?_
       refine aq_then_ret ?_
       refine aq_block_ret ?_
       refine aq_then_ret ?_
       refine aq_then_ret ?_
       refine aq_block_ret ?_
       refine aq_then_ret ?_
       obtain rfl := Option.some.inj h
       exact fn_ret () [] [] rfl rfl rfl rfl (resC rfl (resB (i := 0) rfl rfl Try.underlying47 sz47 rfl rfl rfl (resT rfl (resN))) rfl) rfl rfl rfl (by decide)
      ·replace h := bif_f hb20 h
       refine aw_skip ?_
       refine aq_tr ?_
       refine al_mv rfl rfl ?_
       refine al_mv rfl rfl ?_
       obtain ⟨hc21, h⟩ := req_some h
       refine al_mapSetK (ek := (fun x : Int => iq x)) (ew := (fun x : Bool => bool x)) (k := u13) (v := true) 1 kd3 (vint_inj .i64) (key_int Try.underlying3 hc21) rfl rfl rfl rfl Try.underlying138 rfl ?_
       refine al_nt ?_
       refine aw_seq ?_
       obtain ⟨u22, hu23, h⟩ := opt_some h
       refine aw_region_draw 9 [(39, (fun u => fEq u (pq g6))), (40, (fun u => fEq u (iq l9i8_0))), (41, (fun u => fEq u v0_0)), (42, (fun u => fEq u (iq u13))), (43, (fun p24 => (fPtr tyS_api_Waste p24 u22))), (44, (fun p25 => (fPtr tq p25 u22.Size))), (45, (fun u => fEq u (iq u22.Size))), (46, (fun u => fEq u (iq (wq (l9i8_0 + u22.Size))))), (47, (fun u => fEq u (pq g6)))] (tab [(0, v0_0), (4, (pq g1)), (7, (Value.map (some g5))), (8, (pq g6)), (10, (iq u13)), (18, v1_0), (19, (iq (a1.length : Int))), (20, (iq l9i20))]) mixed (by kernel_rfl) rfl rfl rfl (fun a hs => hs.tab _ (allT_mem ⟨rfl, rfl, rfl, rfl, rfl, rfl, rfl, rfl, trivial⟩)) ⟨⟨rfl, ld_val (ov_fieldA (p := 0) rfl Try.underlying47 rfl sz3 rfl rfl rfl)⟩, ⟨rfl, ld_eq (j := 0) rfl rfl (ld_val (ov_load (i := 2) (v := (iq l9i8_0)) rfl rfl Try.underlying3 sz3 rfl rfl rfl rfl))⟩, ⟨rfl, ld_val (ov_move rfl rfl)⟩, ⟨rfl, ld_val (ov_move rfl rfl)⟩, ⟨rfl, ld_eq (j := 2) rfl rfl (ld_eq (j := 3) rfl rfl (ld_of (of_idxD 0 hu23 rfl rfl rfl Try.underlying45 sz47 rfl)))⟩, ⟨rfl, ld_fact (j := 4) rfl rfl (fun p24 => ld_of (of_fieldD (pr := fun (y : S_api_Waste) => y.Size) 0 rfl subS_api_Waste_0 rfl Try.underlying47 rfl sz3 rfl rfl))⟩, ⟨rfl, ld_fact (j := 5) rfl rfl (fun p25 => ld_val (ov_loadP (ds := [(iq u22.Size)]) 0 rfl (fun h => h) rfl Try.underlying3 sz3 rfl rfl rfl))⟩, ⟨rfl, ld_eq (j := 1) rfl rfl (ld_eq (j := 6) rfl rfl (ld_val (ov_int rfl rfl rfl rfl)))⟩, ⟨rfl, ld_val (ov_fieldA (p := 0) rfl Try.underlying47 rfl sz3 rfl rfl rfl)⟩, trivial⟩ ?_
       refine tl_eq 7 rfl ?_
       refine tl_eq 8 rfl ?_
       refine tl_done ?_
       refine al_store (i := 2) (vs := [(iq (wq (l9i8_0 + u22.Size)))]) (cs' := [(iq (wq (l9i8_0 + u22.Size))), (iq l9i8_1)]) rfl rfl rfl sz3 (cv_rfl rfl) rfl (co_val rfl co_nil) (Nat.le_of_ble_eq_true rfl) rfl rfl ?_
       refine al_nt ?_
       obtain ⟨u26, hu27, h⟩ := opt_some h
       refine aw_region_draw 9 [(48, (fun u => fEq u (ptr g6 1))), (49, (fun u => fEq u (iq l9i8_1))), (50, (fun u => fEq u v0_0)), (51, (fun u => fEq u (iq u13))), (52, (fun p28 => (fPtr tyS_api_Waste p28 u26))), (53, (fun p29 => (fPtr tq p29 u26.Dead))), (54, (fun u => fEq u (iq u26.Dead))), (55, (fun u => fEq u (iq (wq (l9i8_1 + u26.Dead))))), (56, (fun u => fEq u (ptr g6 1)))] (tab [(0, v0_0), (4, (pq g1)), (7, (Value.map (some g5))), (8, (pq g6)), (10, (iq u13)), (18, v1_0), (19, (iq (a1.length : Int))), (20, (iq l9i20))]) mixed (by kernel_rfl) rfl rfl rfl (fun a hs => hs.tab _ (allT_mem ⟨rfl, rfl, rfl, rfl, rfl, rfl, rfl, rfl, trivial⟩)) ⟨⟨rfl, ld_val (ov_fieldA (p := 1) rfl Try.underlying47 rfl sz3 rfl rfl rfl)⟩, ⟨rfl, ld_eq (j := 0) rfl rfl (ld_val (ov_load (i := 2) (v := (iq l9i8_1)) rfl rfl Try.underlying3 sz3 rfl rfl rfl rfl))⟩, ⟨rfl, ld_val (ov_move rfl rfl)⟩, ⟨rfl, ld_val (ov_move rfl rfl)⟩, ⟨rfl, ld_eq (j := 2) rfl rfl (ld_eq (j := 3) rfl rfl (ld_of (of_idxD 0 hu27 rfl rfl rfl Try.underlying45 sz47 rfl)))⟩, ⟨rfl, ld_fact (j := 4) rfl rfl (fun p28 => ld_of (of_fieldD (pr := fun (y : S_api_Waste) => y.Dead) 0 rfl subS_api_Waste_1 rfl Try.underlying47 rfl sz3 rfl rfl))⟩, ⟨rfl, ld_fact (j := 5) rfl rfl (fun p29 => ld_val (ov_loadP (ds := [(iq u26.Dead)]) 0 rfl (fun h => h) rfl Try.underlying3 sz3 rfl rfl rfl))⟩, ⟨rfl, ld_eq (j := 1) rfl rfl (ld_eq (j := 6) rfl rfl (ld_val (ov_int rfl rfl rfl rfl)))⟩, ⟨rfl, ld_val (ov_fieldA (p := 1) rfl Try.underlying47 rfl sz3 rfl rfl rfl)⟩, trivial⟩ ?_
       refine tl_eq 7 rfl ?_
       refine tl_eq 8 rfl ?_
       refine tl_done ?_
       refine al_store (i := 2) (vs := [(iq (wq (l9i8_1 + u26.Dead)))]) (cs' := [(iq (wq (l9i8_0 + u22.Size))), (iq (wq (l9i8_1 + u26.Dead)))]) rfl rfl rfl sz3 (cv_rfl rfl) rfl (co_val rfl co_nil) (Nat.le_of_ble_eq_true rfl) rfl rfl ?_
       refine al_nil ?_
       refine aq_block ?_
       refine aq_then ?_
       refine aw_region ?_
       refine al_in rfl rfl rfl rfl ?_
       refine al_mv rfl rfl ?_
       refine al_nil ?_
       exact aq_again k10 ((gset l9xm7 u13 true), (wq (l9i8_0 + u22.Size)), (wq (l9i8_1 + u26.Dead)), (wq (l9i20 + (1 : Int)))) (Nat.lt_succ_self _) h (fun w a hm hs => norm hm hs [0, 1, 2] [0, 1] [(0, v0_0), (4, (pq g1)), (7, (Value.map (some g5))), (8, (pq g6)), (18, v1_0), (19, (iq (a1.length : Int))), (20, (iq (wq (l9i20 + (1 : Int)))))] (by decide) ⟨rfl, rfl, rfl, rfl, rfl, rfl, rfl, trivial⟩)
    ·clear hkk17
     refine aw_region ?_
     refine al_mv rfl rfl ?_
     refine al_in rfl rfl rfl rfl ?_
     refine al_mv rfl rfl ?_
     refine al_caseB 26 rfl (fun hb30 => ?_) (fun hb30 => ?_)
     ·replace h := bif_t hb30 h
      refine al_skip ?_
      refine al_skip ?_
      refine al_skip ?_
      refine al_skip ?_
      refine al_val (ov_pick_t rfl rfl rfl) ?_
      refine al_nil ?_
      exact aq_join true h (fun w a hm hs => norm hm hs [0, 1, 2] [1, 2, 0] [(0, v0_0), (4, (pq g1)), (7, (Value.map (some g5))), (8, (pq g6)), (10, (iq u13)), (18, v1_0), (19, (iq (a1.length : Int))), (20, (iq l9i20)), (31, (bool true))] (by decide) ⟨rfl, rfl, rfl, rfl, rfl, rfl, rfl, rfl, rfl, trivial⟩)
     ·replace h := bif_f hb30 h
      refine al_mv rfl rfl ?_
      refine al_mv rfl rfl ?_
      refine al_val (ov_lenD 1 rfl rfl Try.underlying45 rfl) ?_
      refine al_in rfl rfl rfl rfl ?_
      refine al_val (ov_pick_f rfl rfl rfl) ?_
      refine al_nil ?_
      exact aq_join (decide (u13 ≥ (a0.length : Int))) h (fun w a hm hs => norm hm hs [0, 1, 2] [1, 2, 0] [(0, v0_0), (4, (pq g1)), (7, (Value.map (some g5))), (8, (pq g6)), (10, (iq u13)), (18, v1_0), (19, (iq (a1.length : Int))), (20, (iq l9i20)), (31, (bool (decide (u13 ≥ (a0.length : Int)))))] (by decide) ⟨rfl, rfl, rfl, rfl, rfl, rfl, rfl, rfl, rfl, trivial⟩)
   ·replace h := bif_f hb12 h
    refine aw_exit ?_
    refine aq_then_exit ?_
    refine aq_then_exit ?_
    refine aq_block_exit ?_
    exact aq_join (l9i8_0, l9i8_1) h (fun w a hm hs => norm hm hs [0, 2] [0, 1] [(4, (pq g1)), (8, (pq g6))] (by decide) ⟨rfl, rfl, trivial⟩)
def f_lumref_Total_L10 (a0 : (List S_api_Waste)) (a1 : (List Int)) (kk7 : (Int → Int → Option (S_api_Waste × Int))) (fu : Nat) : Nat → Int → Int → Int → Option (S_api_Waste × Int)
  | 0, _, _, _ => none
  | k9 + 1, l8i7_0, l8i7_1, l8i18 => (bif (decide (l8i18 < (a1.length : Int))) then (opt (at? a1 l8i18) fun (u12 : Int) => (lt (fun (j15b30 : Bool) => (bif j15b30 then (some ((S_api_Waste.mk (0 : Int) (0 : Int)), (1 : Int))) else (req (0 ≤ l8i18 ∧ l8i18 ≤ (a1.length : Int)) (opt (f_lumref_has fu (a1.take (l8i18).toNat) u12) fun (r21 : Bool) => (bif r21 then (some ((S_api_Waste.mk (0 : Int) (0 : Int)), (10 : Int))) else (opt (at? a0 u12) fun (u23 : S_api_Waste) => (opt (at? a0 u12) fun (u27 : S_api_Waste) => (f_lumref_Total_L10 a0 a1 kk7 fu k9 (IntKind.i64.wrap (l8i7_0 + u23.Size)) (IntKind.i64.wrap (l8i7_1 + u27.Dead)) (IntKind.i64.wrap (l8i18 + (1 : Int))))))))))) fun (kk16 : Bool → Option (S_api_Waste × Int)) => (bif (decide (u12 < (0 : Int))) then (kk16 true) else (kk16 (decide (u12 ≥ (a0.length : Int))))))) else (kk7 l8i7_0 l8i7_1))
def f_lumref_Total (fu : Nat) (a0 : (List S_api_Waste)) (a1 : (List Int)) : Option (S_api_Waste × Int) := (opt (f_lumref_Wastes fu a0) fun (r3 : Int) => (bif (r3 != (0 : Int)) then (some ((S_api_Waste.mk (0 : Int) (0 : Int)), r3)) else (lt (fun (j6i7_0 : Int) (j6i7_1 : Int) => (some ((S_api_Waste.mk j6i7_0 j6i7_1), (0 : Int)))) fun (kk7 : Int → Int → Option (S_api_Waste × Int)) => (f_lumref_Total_L10 a0 a1 kk7 fu fu (0 : Int) (0 : Int) (0 : Int)))))
end Go.Proofs.Ythdifoidlpiikaa
