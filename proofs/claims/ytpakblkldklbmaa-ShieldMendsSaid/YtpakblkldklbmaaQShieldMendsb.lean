/- What ShieldMends leans on, part 2. No condition. -/
import Derived.Test.YtpakblkldklbmaaQShieldMendsa
import Derived.Test.YtpakblkldklbmaaChecked
namespace Go.Proofs.Ytpakblkldklbmaa
open Go.RowKit Ytpakblkldklbmaa.En
set_option linter.unusedVariables false
set_option linter.unusedSimpArgs false
open Go.Value (int bool)
structure S_api_Shard where
  Has : Bool
  Bytes : (List UInt8)
  deriving DecidableEq
def tyS_api_Shard : Ty S_api_Shard := tyVia (fun x => (x.Has, x.Bytes)) (tyPair tyBool tyStr)
theorem subS_api_Shard_1 : Sub tyS_api_Shard 1 tyStr (fun x => x.Bytes) := Sub.via (Sub.snd (Sub.whole _))
theorem encS_api_Shard {Z w cs} {x : S_api_Shard} (h : tyS_api_Shard.rep Z w cs x) : cs = [(bool x.Has), (str x.Bytes)] := by
  obtain ⟨c0, d0, rfl, p0, q0⟩ := h
  rw [show _ = _ from p0]
  rw [show _ = _ from q0]
  rfl
theorem mkS_api_Shard {Z w cs} {x : S_api_Shard} (h : cs = [(bool x.Has), (str x.Bytes)]) : tyS_api_Shard.rep Z w cs x := by
  subst h
  exact ⟨_, _, (List.take_append_drop 1 _).symm, rfl, rfl⟩
theorem sz3 : szOf Try.prog 3 = some 1 := by kernel_rfl
theorem to3 : tyOf Try.prog 3 = some (1, 8, some (int .i64 (0 : Int))) := by kernel_rfl
theorem sz4 : szOf Try.prog 4 = some 1 := by kernel_rfl
theorem sz5 : szOf Try.prog 5 = some 1 := by kernel_rfl
theorem to5 : tyOf Try.prog 5 = some (1, 1, some (int .u8 (0 : Int))) := by kernel_rfl
theorem sz9 : szOf Try.prog 9 = some 1 := by kernel_rfl
theorem to9 : tyOf Try.prog 9 = some (1, 16, some (str ([] : List UInt8))) := by kernel_rfl
theorem sz29 : szOf Try.prog 29 = some 2 := by kernel_rfl
theorem to29 : tyOf Try.prog 29 = some (2, 24, some (ag [(bool false), (str ([] : List UInt8))])) := by kernel_rfl
theorem sz94 : szOf Try.prog 94 = some 1 := by kernel_rfl
theorem to94 : tyOf Try.prog 94 = some (1, 24, some (Value.slice none 0 0)) := by kernel_rfl
theorem mixed : Try.prog.follows .mixedOrders = true := by kernel_rfl
def okS_api_Shard (x : S_api_Shard) : Prop := (True) ∧ (x.Bytes.length ≤ 9223372036854775807)
set_option maxRecDepth 100000 in
theorem opnS_api_Shard {H : Type} : Opn H Try.prog 29 tyS_api_Shard okS_api_Shard := opn_struct (fun x => (x.Has, x.Bytes)) (fun y => S_api_Shard.mk y.1 y.2) (fun _ => rfl) Try.underlying29 sz29 (fields_cons sz4 (opn_bool Try.underlying4) (fields_one sz9 (opn_str Try.underlying9)))
def f_shield_check_L9 (a0 : (List S_api_Shard)) (kk5 : ((List Int) → Option ((List Int) × Int))) : Nat → (List Int) → Int → Option ((List Int) × Int)
  | 0, _, _ => none
  | k8 + 1, l7x6, l7i31 => (bif (decide (l7i31 < (a0.length : Int))) then (lt (fun (j11x6 : (List Int)) => (f_shield_check_L9 a0 kk5 k8 j11x6 (IntKind.i64.wrap (l7i31 + (1 : Int))))) fun (kk12 : (List Int) → Option ((List Int) × Int)) => (opt (at? a0 l7i31) fun (u13 : S_api_Shard) => (bif (!u13.Has) then (kk12 l7x6) else (req (((l7x6.length + ([l7i31]).length) * 8 : Nat) ≤ 140737488355328 ∧ l7x6.length + ([l7i31]).length ≤ 9223372036854775807) (bif (decide ((u13.Bytes.length : Int) > (4096 : Int))) then (some (([] : List Int), (2 : Int))) else (opt (at? (l7x6 ++ ([l7i31])) (0 : Int)) fun (u22 : Int) => (opt (at? a0 u22) fun (u26 : S_api_Shard) => (bif ((u13.Bytes.length : Int) != (u26.Bytes.length : Int)) then (some (([] : List Int), (4 : Int))) else (kk12 (l7x6 ++ ([l7i31]))))))))))) else (kk5 l7x6))
def f_shield_check (fu : Nat) (a0 : (List S_api_Shard)) (a1 : Int) : Option ((List Int) × Int) := (lt (fun (j1b28 : Bool) => (bif j1b28 then (some (([] : List Int), (1 : Int))) else (lt (fun (j4x6 : (List Int)) => (bif (decide ((j4x6.length : Int) < a1)) then (some (([] : List Int), (7 : Int))) else (some (j4x6, (0 : Int))))) fun (kk5 : (List Int) → Option ((List Int) × Int)) => (f_shield_check_L9 a0 kk5 fu ([] : List Int) (0 : Int))))) fun (kk2 : Bool → Option ((List Int) × Int)) => (bif (decide (a1 < (1 : Int))) then (kk2 true) else (bif (decide (a1 > (16 : Int))) then (kk2 true) else (bif (decide ((a0.length : Int) < (IntKind.i64.wrap (a1 + (1 : Int))))) then (kk2 true) else (kk2 (decide ((a0.length : Int) > (IntKind.i64.wrap (a1 + (8 : Int))))))))))
set_option maxRecDepth 100000 in
set_option maxHeartbeats 2000000 in
set_option maxHeartbeats 2000000 in
theorem f_shield_check_ok (fu : Nat) (v0_0 : Value) (a0 : (List S_api_Shard)) (a1 : Int) {r : ((List Int) × Int)} (h : f_shield_check fu a0 a1 = some r) : FnOk Try.prog 39 [v0_0, (int .i64 a1)] [(fDat (tyList tyS_api_Shard) [v0_0] a0)] [] (fun (i : Value) => { val := (Value.tuple #[i, (int .i64 r.2)]), own := [(oRow i 3 (tyInt .i64) r.1)] }) := by
 unfold f_shield_check at h
 refine fn_enter Try.func39 rfl Try.ntmps39 rfl (fun w0 Z0 => ?_)
 refine aw_sr ?_
 refine al_as rfl rfl ?_
 refine al_as rfl rfl ?_
 refine al_nt ?_
 refine aw_seq ?_
 obtain ⟨kk2, hkk2, h⟩ := lt_some h
 refine aw_seq_join (ι := Bool) (fun i => (memOf w0 Z0 [] [] [(fDat (tyList tyS_api_Shard) [v0_0] a0)])) (fun i => (tab [(0, v0_0), (1, (iq a1)), (28, (bool i))])) (fun i => kk2 i = some r) ?_ ?_
 ·rintro j1b28 h
  have h : kk2 j1b28 = some r := h
  rw [hkk2] at h
  dsimp only at h
  clear hkk2
  refine aw_show (m := (memOf w0 Z0 [] [] [(fDat (tyList tyS_api_Shard) [v0_0] a0)])) (S := (tab [(0, v0_0), (1, (iq a1)), (28, (bool j1b28))])) ?_
  refine aw_cond rfl (fun hb3 => ?_) (fun hb3 => ?_)
  ·replace h := bif_t hb3 h
   refine aw_sr ?_
   refine al_as rfl rfl ?_
   refine al_as rfl rfl ?_
   refine al_nt ?_
   refine aw_ret ?_
   refine aq_then_ret ?_
   refine aq_nilR 3 tq ?_
   obtain rfl := Option.some.inj h
   exact fn_ret nS [0] [] rfl rfl rfl rfl (res2 rfl rfl rfl) rfl rfl rfl (by decide)
  ·replace h := bif_f hb3 h
   refine aw_skip ?_
   refine aq_tr ?_
   refine al_as rfl rfl ?_
   refine al_nt ?_
   obtain ⟨kk5, hkk5, h⟩ := lt_some h
   refine aw_seq_join (ι := Value × (List Int)) (fun i => (memOf w0 Z0 [] [(oRow i.1 3 tq i.2)] [(fDat (tyList tyS_api_Shard) [v0_0] a0)])) (fun i => (tab [(1, (iq a1)), (6, i.1)])) (fun i => kk5 i.2 = some r) ?_ ?_
   ·rintro ⟨j4v6, j4x6⟩ h
    have h : kk5 j4x6 = some r := h
    rw [hkk5] at h
    dsimp only at h
    clear hkk5
    refine aw_show (m := (memOf w0 Z0 [] [(oRow j4v6 3 tq j4x6)] [(fDat (tyList tyS_api_Shard) [v0_0] a0)])) (S := (tab [(1, (iq a1)), (6, j4v6)])) ?_
    refine aw_seq ?_
    refine aw_sr ?_
    refine al_mv rfl rfl ?_
    refine al_val (ov_lenR 0 rfl rfl Try.underlying50 rfl) ?_
    refine al_mv rfl rfl ?_
    refine al_in rfl rfl rfl rfl ?_
    refine al_nt ?_
    refine aw_cond rfl (fun hb6 => ?_) (fun hb6 => ?_)
    ·replace h := bif_t hb6 h
     refine aw_sr ?_
     refine al_as rfl rfl ?_
     refine al_as rfl rfl ?_
     refine al_nt ?_
     refine aw_ret ?_
     refine aq_then_ret ?_
     refine aq_nilR 3 tq ?_
     obtain rfl := Option.some.inj h
     exact fn_ret nS [0] [] rfl rfl rfl rfl (res2 rfl rfl rfl) rfl rfl rfl (by decide)
    ·replace h := bif_f hb6 h
     refine aw_skip ?_
     refine aq_tr ?_
     refine al_mv rfl rfl ?_
     refine al_as rfl rfl ?_
     refine al_as rfl rfl ?_
     refine al_nt ?_
     refine aw_ret ?_
     obtain rfl := Option.some.inj h
     exact fn_ret j4v6 [0] [] rfl rfl rfl rfl (res2 rfl rfl rfl) rfl rfl rfl (by decide)
   ·clear hkk5
    refine aw_sr ?_
    refine al_mv rfl rfl ?_
    refine al_val (ov_lenD 0 rfl rfl Try.underlying22 rfl) ?_
    refine al_mv rfl rfl ?_
    refine al_nt ?_
    refine aw_block ?_
    refine aw_nilR 3 tq ?_
    refine aw_state (aw_loop (ι := Value × (List Int) × Int) (fun i => (memOf w0 Z0 [] [(oRow i.1 3 tq i.2.1)] [(fDat (tyList tyS_api_Shard) [v0_0] a0)])) (fun i => (tab [(0, v0_0), (1, (iq a1)), (6, i.1), (29, v0_0), (30, (iq (a0.length : Int))), (31, (iq i.2.2))])) (fun q i => f_shield_check_L9 a0 kk5 q i.2.1 i.2.2 = some r) ?_ fu (nS, ([] : List Int), (0 : Int)) h) (fun w a hm hs => norm hm hs [0] [0] [(0, v0_0), (1, (iq a1)), (6, nS), (29, v0_0), (30, (iq (a0.length : Int))), (31, (iq (0 : Int)))] (by decide) ⟨rfl, rfl, rfl, rfl, rfl, rfl, trivial⟩)
    clear h
    rintro k8 ⟨l7v6, l7x6, l7i31⟩ h
    have h : f_shield_check_L9 a0 kk5 k8 l7x6 l7i31 = some r := h
    obtain _ | k8 := k8
    · rw [f_shield_check_L9] at h; cases h
    rw [f_shield_check_L9] at h
    refine aw_show (m := (memOf w0 Z0 [] [(oRow l7v6 3 tq l7x6)] [(fDat (tyList tyS_api_Shard) [v0_0] a0)])) (S := (tab [(0, v0_0), (1, (iq a1)), (6, l7v6), (29, v0_0), (30, (iq (a0.length : Int))), (31, (iq l7i31))])) ?_
    refine aw_sr ?_
    refine al_in rfl rfl rfl rfl ?_
    refine al_nt ?_
    refine aw_seq ?_
    refine aw_cond rfl (fun hb10 => ?_) (fun hb10 => ?_)
    ·replace h := bif_t hb10 h
     refine aw_skip ?_
     refine aq_then ?_
     obtain ⟨kk12, hkk12, h⟩ := lt_some h
     refine aw_seq_join (ι := Value × (List Int)) (fun i => (memOf w0 Z0 [] [(oRow i.1 3 tq i.2)] [(fDat (tyList tyS_api_Shard) [v0_0] a0)])) (fun i => (tab [(0, v0_0), (1, (iq a1)), (6, i.1), (29, v0_0), (30, (iq (a0.length : Int))), (31, (iq l7i31))])) (fun i => kk12 i.2 = some r) ?_ ?_
     ·rintro ⟨j11v6, j11x6⟩ h
      have h : kk12 j11x6 = some r := h
      rw [hkk12] at h
      dsimp only at h
      clear hkk12
      refine aw_show (m := (memOf w0 Z0 [] [(oRow j11v6 3 tq j11x6)] [(fDat (tyList tyS_api_Shard) [v0_0] a0)])) (S := (tab [(0, v0_0), (1, (iq a1)), (6, j11v6), (29, v0_0), (30, (iq (a0.length : Int))), (31, (iq l7i31))])) ?_
      refine aw_region ?_
      refine al_in rfl rfl rfl rfl ?_
      refine al_mv rfl rfl ?_
      refine al_nil ?_
      exact aq_again k8 (j11v6, j11x6, (wq (l7i31 + (1 : Int)))) (Nat.lt_succ_self _) h (fun w a hm hs => norm hm hs [0] [0] [(0, v0_0), (1, (iq a1)), (6, j11v6), (29, v0_0), (30, (iq (a0.length : Int))), (31, (iq (wq (l7i31 + (1 : Int)))))] (by decide) ⟨rfl, rfl, rfl, rfl, rfl, rfl, trivial⟩)
     ·clear hkk12
      refine aw_block ?_
      refine aw_sr ?_
      refine al_mv rfl rfl ?_
      obtain ⟨u13, hu14, h⟩ := opt_some h
      refine al_idxD 0 hu14 rfl rfl rfl Try.underlying22 sz29 rfl (fun p15 => ?_)
      refine al_val (ov_loadP (ds := [(bool u13.Has), (str u13.Bytes)]) 0 rfl encS_api_Shard rfl Try.underlying29 sz29 rfl rfl rfl) ?_
      refine al_alloc (zs := [(bool false), (str ([] : List UInt8))]) (zeroOf_to to29) rfl rfl (fun g16 => ?_)
      refine al_as rfl rfl ?_
      refine al_store (i := 0) (vs := [(bool u13.Has), (str u13.Bytes)]) (cs' := [(bool u13.Has), (str u13.Bytes)]) rfl rfl rfl sz29 (cv_rfl rfl) rfl (co_val rfl (co_val rfl co_nil)) (Nat.le_of_ble_eq_true rfl) rfl rfl ?_
      refine al_nt ?_
      refine aw_seq ?_
      refine aw_sr ?_
      refine al_val (ov_fieldA (p := 0) rfl Try.underlying29 rfl sz4 rfl rfl rfl) ?_
      refine al_val (ov_load (i := 0) (v := (bool u13.Has)) rfl rfl Try.underlying4 sz4 rfl rfl rfl rfl) ?_
      refine al_val (ov_not rfl rfl) ?_
      refine al_nt ?_
      refine aw_cond rfl (fun hb17 => ?_) (fun hb17 => ?_)
      ·replace h := bif_t hb17 h
       refine aw_exit ?_
       refine aq_then_exit ?_
       refine aq_block_exit ?_
       exact aq_join (l7v6, l7x6) h (fun w a hm hs => norm hm hs [1] [1] [(0, v0_0), (1, (iq a1)), (6, l7v6), (29, v0_0), (30, (iq (a0.length : Int))), (31, (iq l7i31))] (by decide) ⟨rfl, rfl, rfl, rfl, rfl, rfl, trivial⟩)
      ·replace h := bif_f hb17 h
       refine aw_skip ?_
       refine aq_tr ?_
       refine al_mv rfl rfl ?_
       refine al_mv rfl rfl ?_
       refine al_buildSlice (τ := tq) (e := 3) (k := 1) (sz := 0) (by_ := 0) (z := undef) (cs := [(iq l7i31)]) (xs := [l7i31]) rfl (by decide) (fun w a hm hs => ⟨([(iq l7i31)]).toArray, rfl, by simp only [List.map_toArray, List.map_cons, List.map_nil, hs.ev (x := .tmp 40) rfl]; exact run_bs [(iq l7i31)] [(iq l7i31)] Try.underlying50 to3 rfl rfl (bs_cons (l := [(iq l7i31)]) (cs := []) (cv_rfl rfl) rfl bs_nil) hm⟩) (fun hm => ⟨_, _, rfl, (fun _ => rfl) hm, rfl⟩) rfl (fun v18 => ?_)
       obtain ⟨hc19, h⟩ := req_some h
       refine al_append 2 hc19.1 hc19.2 rfl (src_own (i := 2) 0 rfl) rfl rfl Try.underlying50 to3 rfl rfl rfl (fun v20 => ?_)
       refine al_as rfl rfl ?_
       refine al_nt ?_
       refine aw_seq ?_
       refine aw_sr ?_
       refine al_val (ov_fieldA (p := 1) rfl Try.underlying29 rfl sz9 rfl rfl rfl) ?_
       refine al_val (ov_load (i := 1) (v := (str u13.Bytes)) rfl rfl Try.underlying9 sz9 rfl rfl rfl rfl) ?_
       refine al_val (ov_strLen Try.underlying9 rfl rfl) ?_
       refine al_in rfl rfl rfl rfl ?_
       refine al_nt ?_
       refine aw_cond rfl (fun hb21 => ?_) (fun hb21 => ?_)
       ·replace h := bif_t hb21 h
        refine aw_sr ?_
        refine al_as rfl rfl ?_
        refine al_as rfl rfl ?_
        refine al_nt ?_
        refine aw_ret ?_
        refine aq_then_ret ?_
        refine aq_block_ret ?_
        refine aq_then_ret ?_
        refine aq_then_ret ?_
        refine aq_block_ret ?_
        refine aq_then_ret ?_
        refine aq_nilR 3 tq ?_
        obtain rfl := Option.some.inj h
        exact fn_ret nS [0] [] rfl rfl rfl rfl (res2 rfl rfl rfl) rfl rfl rfl (by decide)
       ·replace h := bif_f hb21 h
        refine aw_skip ?_
        refine aq_then ?_
        refine aw_seq ?_
        obtain ⟨u22, hu23, h⟩ := opt_some h
        obtain ⟨u26, hu27, h⟩ := opt_some h
        refine aw_region_draw 11 [(47, (fun u => fEq u (ptr g16 1))), (48, (fun u => fEq u (str u13.Bytes))), (49, (fun u => fEq u (iq (u13.Bytes.length : Int)))), (50, (fun u => fEq u v0_0)), (51, (fun u => fEq u v20)), (52, (fun p => fElt v20 p (((0 : Int)).toNat * Ty.size tq))), (53, (fun u => fEq u (iq u22))), (54, (fun p28 => (fPtr tyS_api_Shard p28 u26))), (55, (fun p29 => (fPtr tyStr p29 u26.Bytes))), (56, (fun u => fEq u (str u26.Bytes))), (57, (fun u => fEq u (iq (u26.Bytes.length : Int))))] (tab [(0, v0_0), (1, (iq a1)), (6, v20), (8, (pq g16)), (29, v0_0), (30, (iq (a0.length : Int))), (31, (iq l7i31))]) mixed (by kernel_rfl) rfl rfl rfl (fun a hs => hs.tab _ (allT_mem ⟨rfl, rfl, rfl, rfl, rfl, rfl, rfl, trivial⟩)) ⟨⟨rfl, ld_val (ov_fieldA (p := 1) rfl Try.underlying29 rfl sz9 rfl rfl rfl)⟩, ⟨rfl, ld_eq (j := 0) rfl rfl (ld_val (ov_load (i := 1) (v := (str u13.Bytes)) rfl rfl Try.underlying9 sz9 rfl rfl rfl rfl))⟩, ⟨rfl, ld_eq (j := 1) rfl rfl (ld_val (ov_strLen Try.underlying9 rfl rfl))⟩, ⟨rfl, ld_val (ov_move rfl rfl)⟩, ⟨rfl, ld_val (ov_move rfl rfl)⟩, ⟨rfl, ld_eq (j := 4) rfl rfl (ld_of (of_idxR 2 (at_some hu23).1 (at_some hu23).2.1 rfl rfl rfl Try.underlying50 sz3 rfl))⟩, ⟨rfl, ld_elt (j := 5) rfl rfl (fun p24 hp25 => ld_val (ov_loadR (ds := [(iq u22)]) 2 rfl hp25 (at_some hu23).2.2 (fun h => h) rfl Try.underlying3 sz3 rfl rfl rfl))⟩, ⟨rfl, ld_eq (j := 3) rfl rfl (ld_eq (j := 6) rfl rfl (ld_of (of_idxD 1 hu27 rfl rfl rfl Try.underlying22 sz29 rfl)))⟩, ⟨rfl, ld_fact (j := 7) rfl rfl (fun p28 => ld_of (of_fieldD (pr := fun (y : S_api_Shard) => y.Bytes) 0 rfl subS_api_Shard_1 rfl Try.underlying29 rfl sz9 rfl rfl))⟩, ⟨rfl, ld_fact (j := 8) rfl rfl (fun p29 => ld_val (ov_loadP (ds := [(str u26.Bytes)]) 0 rfl (fun h => h) rfl Try.underlying9 sz9 rfl rfl rfl))⟩, ⟨rfl, ld_eq (j := 9) rfl rfl (ld_val (ov_strLen Try.underlying9 rfl rfl))⟩, trivial⟩ ?_
        refine tl_eq 2 rfl ?_
        refine tl_eq 10 rfl ?_
        refine tl_done ?_
        refine al_in rfl rfl rfl rfl ?_
        refine al_nt ?_
        refine aw_cond rfl (fun hb30 => ?_) (fun hb30 => ?_)
        ·replace h := bif_t hb30 h
         refine aw_sr ?_
         refine al_as rfl rfl ?_
         refine al_as rfl rfl ?_
         refine al_nt ?_
         refine aw_ret ?_
         refine aq_block_ret ?_
         refine aq_then_ret ?_
         refine aq_then_ret ?_
         refine aq_block_ret ?_
         refine aq_then_ret ?_
         refine aq_nilR 3 tq ?_
         obtain rfl := Option.some.inj h
         exact fn_ret nS [0] [] rfl rfl rfl rfl (res2 rfl rfl rfl) rfl rfl rfl (by decide)
        ·replace h := bif_f hb30 h
         refine aw_skip ?_
         refine aq_block ?_
         exact aq_join (v20, (l7x6 ++ ([l7i31]))) h (fun w a hm hs => norm hm hs [2] [1] [(0, v0_0), (1, (iq a1)), (6, v20), (29, v0_0), (30, (iq (a0.length : Int))), (31, (iq l7i31))] (by decide) ⟨rfl, rfl, rfl, rfl, rfl, rfl, trivial⟩)
    ·replace h := bif_f hb10 h
     refine aw_exit ?_
     refine aq_then_exit ?_
     refine aq_then_exit ?_
     refine aq_block_exit ?_
     exact aq_join (l7v6, l7x6) h (fun w a hm hs => norm hm hs [0] [0] [(1, (iq a1)), (6, l7v6)] (by decide) ⟨rfl, rfl, trivial⟩)
 ·clear hkk2
  refine aw_region ?_
  refine al_mv rfl rfl ?_
  refine al_in rfl rfl rfl rfl ?_
  refine al_mv rfl rfl ?_
  refine al_caseB 11 rfl (fun hb31 => ?_) (fun hb31 => ?_)
  ·replace h := bif_t hb31 h
   refine al_skip ?_
   refine al_skip ?_
   refine al_val (ov_pick_t rfl rfl rfl) ?_
   refine al_mv rfl rfl ?_
   refine al_skip ?_
   refine al_skip ?_
   refine al_skip ?_
   refine al_skip ?_
   refine al_skip ?_
   refine al_val (ov_pick_t rfl rfl rfl) ?_
   refine al_mv rfl rfl ?_
   refine al_skip ?_
   refine al_skip ?_
   refine al_skip ?_
   refine al_skip ?_
   refine al_skip ?_
   refine al_val (ov_pick_t rfl rfl rfl) ?_
   refine al_nil ?_
   exact aq_join true h (fun w a hm hs => norm hm hs [] [0] [(0, v0_0), (1, (iq a1)), (28, (bool true))] (by decide) ⟨rfl, rfl, rfl, trivial⟩)
  ·replace h := bif_f hb31 h
   refine al_mv rfl rfl ?_
   refine al_in rfl rfl rfl rfl ?_
   refine al_val (ov_pick_f rfl rfl rfl) ?_
   refine al_mv rfl rfl ?_
   refine al_caseB 15 rfl (fun hb32 => ?_) (fun hb32 => ?_)
   ·replace h := bif_t hb32 h
    refine al_skip ?_
    refine al_skip ?_
    refine al_skip ?_
    refine al_skip ?_
    refine al_skip ?_
    refine al_val (ov_pick_t rfl rfl rfl) ?_
    refine al_mv rfl rfl ?_
    refine al_skip ?_
    refine al_skip ?_
    refine al_skip ?_
    refine al_skip ?_
    refine al_skip ?_
    refine al_val (ov_pick_t rfl rfl rfl) ?_
    refine al_nil ?_
    exact aq_join true h (fun w a hm hs => norm hm hs [] [0] [(0, v0_0), (1, (iq a1)), (28, (bool true))] (by decide) ⟨rfl, rfl, rfl, trivial⟩)
   ·replace h := bif_f hb32 h
    refine al_mv rfl rfl ?_
    refine al_val (ov_lenD 0 rfl rfl Try.underlying22 rfl) ?_
    refine al_mv rfl rfl ?_
    refine al_in rfl rfl rfl rfl ?_
    refine al_in rfl rfl rfl rfl ?_
    refine al_val (ov_pick_f rfl rfl rfl) ?_
    refine al_mv rfl rfl ?_
    refine al_caseB 22 rfl (fun hb33 => ?_) (fun hb33 => ?_)
    ·replace h := bif_t hb33 h
     refine al_skip ?_
     refine al_skip ?_
     refine al_skip ?_
     refine al_skip ?_
     refine al_skip ?_
     refine al_val (ov_pick_t rfl rfl rfl) ?_
     refine al_nil ?_
     exact aq_join true h (fun w a hm hs => norm hm hs [] [0] [(0, v0_0), (1, (iq a1)), (28, (bool true))] (by decide) ⟨rfl, rfl, rfl, trivial⟩)
    ·replace h := bif_f hb33 h
     refine al_mv rfl rfl ?_
     refine al_val (ov_lenD 0 rfl rfl Try.underlying22 rfl) ?_
     refine al_mv rfl rfl ?_
     refine al_in rfl rfl rfl rfl ?_
     refine al_in rfl rfl rfl rfl ?_
     refine al_val (ov_pick_f rfl rfl rfl) ?_
     refine al_nil ?_
     exact aq_join (decide ((a0.length : Int) > (wq (a1 + (8 : Int))))) h (fun w a hm hs => norm hm hs [] [0] [(0, v0_0), (1, (iq a1)), (28, (bool (decide ((a0.length : Int) > (wq (a1 + (8 : Int)))))))] (by decide) ⟨rfl, rfl, rfl, trivial⟩)
def f_field_Mul_L5 (kk2 : (Int → Option Int)) : Nat → Int → Int → Int → Option Int
  | 0, _, _, _ => none
  | k4 + 1, l3i0, l3i1, l3i5 => (bif (l3i1 != (0 : Int)) then (lt (fun (j7i0 : Int) (j7i5 : Int) => (f_field_Mul_L5 kk2 k4 j7i0 ((l3i1).fdiv (2 ^ min ((1 : Int)).toNat (IntKind.bits .u8))) j7i5)) fun (kk8 : Int → Int → Option Int) => (lt (fun (j9i5 : Int) => (bif ((bits .and .u8 l3i0 (128 : Int)) != (0 : Int)) then (kk8 (bits .xor .u8 (IntKind.u8.wrap (l3i0 * 2 ^ min ((1 : Int)).toNat (IntKind.bits .u8))) (29 : Int)) j9i5) else (kk8 (IntKind.u8.wrap (l3i0 * 2 ^ min ((1 : Int)).toNat (IntKind.bits .u8))) j9i5))) fun (kk10 : Int → Option Int) => (bif ((bits .and .u8 l3i1 (1 : Int)) == (1 : Int)) then (kk10 (bits .xor .u8 l3i5 l3i0)) else (kk10 l3i5)))) else (kk2 l3i5))
def f_field_Mul (fu : Nat) (a0 : Int) (a1 : Int) : Option Int := (lt (fun (j1i5 : Int) => (some j1i5)) fun (kk2 : Int → Option Int) => (f_field_Mul_L5 kk2 fu a0 a1 (0 : Int)))
set_option maxHeartbeats 2000000 in
set_option maxRecDepth 100000 in
theorem f_field_Mul_ok (fu : Nat) (a0 : Int) (a1 : Int) {r : Int} (h : f_field_Mul fu a0 a1 = some r) : FnOk Try.prog 95 [(int .u8 a0), (int .u8 a1)] [] [] (fun (i : Unit) => { val := (int .u8 r) }) := by
 unfold f_field_Mul at h
 refine fn_enter Try.func95 rfl Try.ntmps95 rfl (fun w0 Z0 => ?_)
 refine aw_sr ?_
 refine al_as rfl rfl ?_
 refine al_nt ?_
 refine aw_sr ?_
 refine al_as rfl rfl ?_
 refine al_nt ?_
 obtain ⟨kk2, hkk2, h⟩ := lt_some h
 refine aw_seq_join (ι := Int) (fun i => (memOf w0 Z0 [] [] [])) (fun i => (tab [(5, (i8 i))])) (fun i => kk2 i = some r) ?_ ?_
 ·rintro j1i5 h
  have h : kk2 j1i5 = some r := h
  rw [hkk2] at h
  dsimp only at h
  clear hkk2
  refine aw_show (m := (memOf w0 Z0 [] [] [])) (S := (tab [(5, (i8 j1i5))])) ?_
  refine aw_sr ?_
  refine al_mv rfl rfl ?_
  refine al_as rfl rfl ?_
  refine al_nt ?_
  refine aw_ret ?_
  obtain rfl := Option.some.inj h
  exact fn_ret () [] [] rfl rfl rfl rfl (res1 rfl rfl) rfl rfl rfl (by decide)
 ·clear hkk2
  refine aw_block ?_
  refine aw_state (aw_loop (ι := Int × Int × Int) (fun i => (memOf w0 Z0 [] [] [])) (fun i => (tab [(0, (i8 i.1)), (1, (i8 i.2.1)), (5, (i8 i.2.2))])) (fun q i => f_field_Mul_L5 kk2 q i.1 i.2.1 i.2.2 = some r) ?_ fu (a0, a1, (0 : Int)) h) (fun w a hm hs => norm hm hs [] [] [(0, (i8 a0)), (1, (i8 a1)), (5, (i8 (0 : Int)))] (by decide) ⟨rfl, rfl, rfl, trivial⟩)
  clear h
  rintro k4 ⟨l3i0, l3i1, l3i5⟩ h
  have h : f_field_Mul_L5 kk2 k4 l3i0 l3i1 l3i5 = some r := h
  obtain _ | k4 := k4
  · rw [f_field_Mul_L5] at h; cases h
  rw [f_field_Mul_L5] at h
  refine aw_show (m := (memOf w0 Z0 [] [] [])) (S := (tab [(0, (i8 l3i0)), (1, (i8 l3i1)), (5, (i8 l3i5))])) ?_
  refine aw_seq ?_
  refine aw_sr ?_
  refine al_mv rfl rfl ?_
  refine al_in rfl rfl rfl rfl ?_
  refine al_nt ?_
  refine aw_cond rfl (fun hb6 => ?_) (fun hb6 => ?_)
  ·replace h := bif_t hb6 h
   refine aw_skip ?_
   refine aq_then ?_
   obtain ⟨kk8, hkk8, h⟩ := lt_some h
   refine aw_seq_join (ι := Int × Int) (fun i => (memOf w0 Z0 [] [] [])) (fun i => (tab [(0, (i8 i.1)), (1, (i8 l3i1)), (5, (i8 i.2))])) (fun i => kk8 i.1 i.2 = some r) ?_ ?_
   ·rintro ⟨j7i0, j7i5⟩ h
    have h : kk8 j7i0 j7i5 = some r := h
    rw [hkk8] at h
    dsimp only at h
    clear hkk8
    refine aw_show (m := (memOf w0 Z0 [] [] [])) (S := (tab [(0, (i8 j7i0)), (1, (i8 l3i1)), (5, (i8 j7i5))])) ?_
    refine aw_region ?_
    refine al_mv rfl rfl ?_
    refine al_val (ov_shr (by decide) rfl rfl rfl) ?_
    refine al_as rfl rfl ?_
    refine al_nil ?_
    exact aq_again k4 (j7i0, ((l3i1).fdiv (2 ^ min ((1 : Int)).toNat (IntKind.bits .u8))), j7i5) (Nat.lt_succ_self _) h (fun w a hm hs => norm hm hs [] [] [(0, (i8 j7i0)), (1, (i8 ((l3i1).fdiv (2 ^ min ((1 : Int)).toNat (IntKind.bits .u8))))), (5, (i8 j7i5))] (by decide) ⟨rfl, rfl, rfl, trivial⟩)
   ·clear hkk8
    refine aw_block ?_
    obtain ⟨kk10, hkk10, h⟩ := lt_some h
    refine aw_seq_join (ι := Int) (fun i => (memOf w0 Z0 [] [] [])) (fun i => (tab [(0, (i8 l3i0)), (1, (i8 l3i1)), (5, (i8 i))])) (fun i => kk10 i = some r) ?_ ?_
    ·rintro j9i5 h
     have h : kk10 j9i5 = some r := h
     rw [hkk10] at h
     dsimp only at h
     clear hkk10
     refine aw_show (m := (memOf w0 Z0 [] [] [])) (S := (tab [(0, (i8 l3i0)), (1, (i8 l3i1)), (5, (i8 j9i5))])) ?_
     refine aw_sr ?_
     refine al_mv rfl rfl ?_
     refine al_in rfl rfl rfl rfl ?_
     refine al_as rfl rfl ?_
     refine al_nt ?_
     refine aw_sr ?_
     refine al_mv rfl rfl ?_
     refine al_val (ov_shl (by decide) rfl rfl rfl) ?_
     refine al_as rfl rfl ?_
     refine al_nt ?_
     refine aw_sr ?_
     refine al_mv rfl rfl ?_
     refine al_in rfl rfl rfl rfl ?_
     refine al_nt ?_
     refine aw_cond rfl (fun hb11 => ?_) (fun hb11 => ?_)
     ·replace h := bif_t hb11 h
      refine aw_region ?_
      refine al_mv rfl rfl ?_
      refine al_in rfl rfl rfl rfl ?_
      refine al_as rfl rfl ?_
      refine al_nil ?_
      refine aq_block ?_
      exact aq_join ((bits .xor .u8 (w8 (l3i0 * 2 ^ min ((1 : Int)).toNat (IntKind.bits .u8))) (29 : Int)), j9i5) h (fun w a hm hs => norm hm hs [] [] [(0, (i8 (bits .xor .u8 (w8 (l3i0 * 2 ^ min ((1 : Int)).toNat (IntKind.bits .u8))) (29 : Int)))), (1, (i8 l3i1)), (5, (i8 j9i5))] (by decide) ⟨rfl, rfl, rfl, trivial⟩)
     ·replace h := bif_f hb11 h
      refine aw_skip ?_
      refine aq_block ?_
      exact aq_join ((w8 (l3i0 * 2 ^ min ((1 : Int)).toNat (IntKind.bits .u8))), j9i5) h (fun w a hm hs => norm hm hs [] [] [(0, (i8 (w8 (l3i0 * 2 ^ min ((1 : Int)).toNat (IntKind.bits .u8))))), (1, (i8 l3i1)), (5, (i8 j9i5))] (by decide) ⟨rfl, rfl, rfl, trivial⟩)
    ·clear hkk10
     refine aw_sr ?_
     refine al_mv rfl rfl ?_
     refine al_in rfl rfl rfl rfl ?_
     refine al_in rfl rfl rfl rfl ?_
     refine al_nt ?_
     refine aw_cond rfl (fun hb12 => ?_) (fun hb12 => ?_)
     ·replace h := bif_t hb12 h
      refine aw_region ?_
      refine al_mv rfl rfl ?_
      refine al_mv rfl rfl ?_
      refine al_in rfl rfl rfl rfl ?_
      refine al_as rfl rfl ?_
      refine al_nil ?_
      exact aq_join (bits .xor .u8 l3i5 l3i0) h (fun w a hm hs => norm hm hs [] [] [(0, (i8 l3i0)), (1, (i8 l3i1)), (5, (i8 (bits .xor .u8 l3i5 l3i0)))] (by decide) ⟨rfl, rfl, rfl, trivial⟩)
     ·replace h := bif_f hb12 h
      refine aw_skip ?_
      exact aq_join l3i5 h (fun w a hm hs => norm hm hs [] [] [(0, (i8 l3i0)), (1, (i8 l3i1)), (5, (i8 l3i5))] (by decide) ⟨rfl, rfl, rfl, trivial⟩)
  ·replace h := bif_f hb6 h
   refine aw_exit ?_
   refine aq_then_exit ?_
   refine aq_then_exit ?_
   refine aq_block_exit ?_
   exact aq_join l3i5 h (fun w a hm hs => norm hm hs [] [] [(5, (i8 l3i5))] (by decide) ⟨rfl, trivial⟩)
def f_field_power_L5 (kk2 : (Int → Option Int)) (fu : Nat) : Nat → Int → Int → Int → Option Int
  | 0, _, _, _ => none
  | k4 + 1, l3i0, l3i1, l3i5 => (bif (decide (l3i1 > (0 : Int))) then (lt (fun (j7i5 : Int) => (opt (f_field_Mul fu l3i0 l3i0) fun (r10 : Int) => (f_field_power_L5 kk2 fu k4 r10 ((l3i1).fdiv (2 ^ min ((1 : Int)).toNat (IntKind.bits .i64))) j7i5))) fun (kk8 : Int → Option Int) => (bif ((bits .and .i64 l3i1 (1 : Int)) == (1 : Int)) then (opt (f_field_Mul fu l3i5 l3i0) fun (r13 : Int) => (kk8 r13)) else (kk8 l3i5))) else (kk2 l3i5))
def f_field_power (fu : Nat) (a0 : Int) (a1 : Int) : Option Int := (lt (fun (j1i5 : Int) => (some j1i5)) fun (kk2 : Int → Option Int) => (f_field_power_L5 kk2 fu fu a0 a1 (1 : Int)))
set_option maxHeartbeats 2000000 in
set_option maxRecDepth 100000 in
theorem f_field_power_ok (fu : Nat) (a0 : Int) (a1 : Int) {r : Int} (h : f_field_power fu a0 a1 = some r) : FnOk Try.prog 124 [(int .u8 a0), (int .i64 a1)] [] [] (fun (i : Unit) => { val := (int .u8 r) }) := by
 unfold f_field_power at h
 refine fn_enter Try.func124 rfl Try.ntmps124 rfl (fun w0 Z0 => ?_)
 refine aw_sr ?_
 refine al_as rfl rfl ?_
 refine al_nt ?_
 refine aw_sr ?_
 refine al_as rfl rfl ?_
 refine al_nt ?_
 obtain ⟨kk2, hkk2, h⟩ := lt_some h
 refine aw_seq_join (ι := Int) (fun i => (memOf w0 Z0 [] [] [])) (fun i => (tab [(5, (i8 i))])) (fun i => kk2 i = some r) ?_ ?_
 ·rintro j1i5 h
  have h : kk2 j1i5 = some r := h
  rw [hkk2] at h
  dsimp only at h
  clear hkk2
  refine aw_show (m := (memOf w0 Z0 [] [] [])) (S := (tab [(5, (i8 j1i5))])) ?_
  refine aw_sr ?_
  refine al_mv rfl rfl ?_
  refine al_as rfl rfl ?_
  refine al_nt ?_
  refine aw_ret ?_
  obtain rfl := Option.some.inj h
  exact fn_ret () [] [] rfl rfl rfl rfl (res1 rfl rfl) rfl rfl rfl (by decide)
 ·clear hkk2
  refine aw_block ?_
  refine aw_state (aw_loop (ι := Int × Int × Int) (fun i => (memOf w0 Z0 [] [] [])) (fun i => (tab [(0, (i8 i.1)), (1, (iq i.2.1)), (5, (i8 i.2.2))])) (fun q i => f_field_power_L5 kk2 fu q i.1 i.2.1 i.2.2 = some r) ?_ fu (a0, a1, (1 : Int)) h) (fun w a hm hs => norm hm hs [] [] [(0, (i8 a0)), (1, (iq a1)), (5, (i8 (1 : Int)))] (by decide) ⟨rfl, rfl, rfl, trivial⟩)
  clear h
  rintro k4 ⟨l3i0, l3i1, l3i5⟩ h
  have h : f_field_power_L5 kk2 fu k4 l3i0 l3i1 l3i5 = some r := h
  obtain _ | k4 := k4
  · rw [f_field_power_L5] at h; cases h
  rw [f_field_power_L5] at h
  refine aw_show (m := (memOf w0 Z0 [] [] [])) (S := (tab [(0, (i8 l3i0)), (1, (iq l3i1)), (5, (i8 l3i5))])) ?_
  refine aw_seq ?_
  refine aw_sr ?_
  refine al_mv rfl rfl ?_
  refine al_in rfl rfl rfl rfl ?_
  refine al_nt ?_
  refine aw_cond rfl (fun hb6 => ?_) (fun hb6 => ?_)
  ·replace h := bif_t hb6 h
   refine aw_skip ?_
   refine aq_then ?_
   refine aw_seq ?_
   refine aw_block ?_
   obtain ⟨kk8, hkk8, h⟩ := lt_some h
   refine aw_seq_join (ι := Int) (fun i => (memOf w0 Z0 [] [] [])) (fun i => (tab [(0, (i8 l3i0)), (1, (iq l3i1)), (5, (i8 i))])) (fun i => kk8 i = some r) ?_ ?_
   ·rintro j7i5 h
    have h : kk8 j7i5 = some r := h
    rw [hkk8] at h
    dsimp only at h
    clear hkk8
    refine aw_show (m := (memOf w0 Z0 [] [] [])) (S := (tab [(0, (i8 l3i0)), (1, (iq l3i1)), (5, (i8 j7i5))])) ?_
    refine aw_region ?_
    refine al_mv rfl rfl ?_
    refine al_mv rfl rfl ?_
    obtain ⟨r10, hc9, h⟩ := opt_some h
    refine al_call (vs := [(i8 l3i0), (i8 l3i0)]) (f_field_Mul_ok fu l3i0 l3i0 hc9) [] [] [] pre_nil rfl (by simp) (by decide) (.inl rfl) rfl Try.func95 rfl rfl rfl (fun _ => ?_)
    refine al_as rfl rfl ?_
    refine al_nil ?_
    refine aq_block ?_
    refine aq_then ?_
    refine aw_region ?_
    refine al_mv rfl rfl ?_
    refine al_val (ov_shr (by decide) rfl rfl rfl) ?_
    refine al_as rfl rfl ?_
    refine al_nil ?_
    exact aq_again k4 (r10, ((l3i1).fdiv (2 ^ min ((1 : Int)).toNat (IntKind.bits .i64))), j7i5) (Nat.lt_succ_self _) h (fun w a hm hs => norm hm hs [] [] [(0, (i8 r10)), (1, (iq ((l3i1).fdiv (2 ^ min ((1 : Int)).toNat (IntKind.bits .i64))))), (5, (i8 j7i5))] (by decide) ⟨rfl, rfl, rfl, trivial⟩)
   ·clear hkk8
    refine aw_sr ?_
    refine al_mv rfl rfl ?_
    refine al_in rfl rfl rfl rfl ?_
    refine al_in rfl rfl rfl rfl ?_
    refine al_nt ?_
    refine aw_cond rfl (fun hb11 => ?_) (fun hb11 => ?_)
    ·replace h := bif_t hb11 h
     refine aw_region ?_
     refine al_mv rfl rfl ?_
     refine al_mv rfl rfl ?_
     obtain ⟨r13, hc12, h⟩ := opt_some h
     refine al_call (vs := [(i8 l3i5), (i8 l3i0)]) (f_field_Mul_ok fu l3i5 l3i0 hc12) [] [] [] pre_nil rfl (by simp) (by decide) (.inl rfl) rfl Try.func95 rfl rfl rfl (fun _ => ?_)
     refine al_as rfl rfl ?_
     refine al_nil ?_
     exact aq_join r13 h (fun w a hm hs => norm hm hs [] [] [(0, (i8 l3i0)), (1, (iq l3i1)), (5, (i8 r13))] (by decide) ⟨rfl, rfl, rfl, trivial⟩)
    ·replace h := bif_f hb11 h
     refine aw_skip ?_
     exact aq_join l3i5 h (fun w a hm hs => norm hm hs [] [] [(0, (i8 l3i0)), (1, (iq l3i1)), (5, (i8 l3i5))] (by decide) ⟨rfl, rfl, rfl, trivial⟩)
  ·replace h := bif_f hb6 h
   refine aw_exit ?_
   refine aq_then_exit ?_
   refine aq_then_exit ?_
   refine aq_block_exit ?_
   exact aq_join l3i5 h (fun w a hm hs => norm hm hs [] [] [(5, (i8 l3i5))] (by decide) ⟨rfl, trivial⟩)
def f_field_Inv (fu : Nat) (a0 : Int) : Option (Int × Int) := (bif (a0 == (0 : Int)) then (some ((0 : Int), (1 : Int))) else (opt (f_field_power fu a0 (254 : Int)) fun (r3 : Int) => (some (r3, (0 : Int)))))
set_option maxHeartbeats 2000000 in
set_option maxRecDepth 100000 in
theorem f_field_Inv_ok (fu : Nat) (a0 : Int) {r : (Int × Int)} (h : f_field_Inv fu a0 = some r) : FnOk Try.prog 94 [(int .u8 a0)] [] [] (fun (i : Unit) => { val := (Value.tuple #[(int .u8 r.1), (int .i64 r.2)]) }) := by
 unfold f_field_Inv at h
 refine fn_enter Try.func94 rfl Try.ntmps94 rfl (fun w0 Z0 => ?_)
 refine aw_sr ?_
 refine al_as rfl rfl ?_
 refine al_as rfl rfl ?_
 refine al_nt ?_
 refine aw_seq ?_
 refine aw_sr ?_
 refine al_mv rfl rfl ?_
 refine al_in rfl rfl rfl rfl ?_
 refine al_nt ?_
 refine aw_cond rfl (fun hb1 => ?_) (fun hb1 => ?_)
 ·replace h := bif_t hb1 h
  refine aw_sr ?_
  refine al_as rfl rfl ?_
  refine al_as rfl rfl ?_
  refine al_nt ?_
  refine aw_ret ?_
  refine aq_then_ret ?_
  obtain rfl := Option.some.inj h
  exact fn_ret () [] [] rfl rfl rfl rfl (res2 rfl rfl rfl) rfl rfl rfl (by decide)
 ·replace h := bif_f hb1 h
  refine aw_skip ?_
  refine aq_tr ?_
  refine al_mv rfl rfl ?_
  obtain ⟨r3, hc2, h⟩ := opt_some h
  refine al_call (vs := [(i8 a0), (iq (254 : Int))]) (f_field_power_ok fu a0 (254 : Int) hc2) [] [] [] pre_nil rfl (by simp) (by decide) (.inl rfl) rfl Try.func124 rfl rfl rfl (fun _ => ?_)
  refine al_as rfl rfl ?_
  refine al_as rfl rfl ?_
  refine al_nt ?_
  refine aw_ret ?_
  obtain rfl := Option.some.inj h
  exact fn_ret () [] [] rfl rfl rfl rfl (res2 rfl rfl rfl) rfl rfl rfl (by decide)
def f_shield_row_L13 (a0 : Int) (a1 : Int) (kk10 : ((List UInt8) → Option (List UInt8))) (fu : Nat) : Nat → (List UInt8) → Int → Option (List UInt8)
  | 0, _, _ => none
  | k12 + 1, l11x5, l11i18 => (bif (decide (l11i18 < ((List.replicate (a1).toNat (0 : UInt8)).length : Int))) then (opt (f_field_Inv fu (bits .xor .u8 (IntKind.u8.wrap (IntKind.i64.wrap ((IntKind.i64.wrap ((128 : Int) + a0)) - a1))) (IntKind.u8.wrap l11i18))) fun (r16 : (Int × Int)) => (opt (at? l11x5 l11i18) fun (u17 : UInt8) => (req (0 ≤ r16.1 ∧ r16.1 ≤ 255) (f_shield_row_L13 a0 a1 kk10 fu k12 (l11x5.set (l11i18).toNat (UInt8.ofNat (r16.1).toNat)) (IntKind.i64.wrap (l11i18 + (1 : Int))))))) else (kk10 l11x5))
def f_shield_row (fu : Nat) (a0 : Int) (a1 : Int) : Option (List UInt8) := (req (0 ≤ a1 ∧ 1 * a1 ≤ 281474976710656 ∧ a1 ≤ 9223372036854775807) (bif (decide (a0 < a1)) then (opt (at? (List.replicate (a1).toNat (0 : UInt8)) a0) fun (u4 : UInt8) => (req (0 ≤ (1 : Int) ∧ (1 : Int) ≤ 255) (some ((List.replicate (a1).toNat (0 : UInt8)).set (a0).toNat (UInt8.ofNat ((1 : Int)).toNat))))) else (lt (fun (j9x5 : (List UInt8)) => (some j9x5)) fun (kk10 : (List UInt8) → Option (List UInt8)) => (f_shield_row_L13 a0 a1 kk10 fu fu (List.replicate (a1).toNat (0 : UInt8)) (0 : Int)))))
set_option maxHeartbeats 2000000 in
set_option maxRecDepth 100000 in
theorem f_shield_row_ok (fu : Nat) (a0 : Int) (a1 : Int) {r : (List UInt8)} (h : f_shield_row fu a0 a1 = some r) : FnOk Try.prog 40 [(int .i64 a0), (int .i64 a1)] [] [] (fun (i : Value) => { val := i, own := [(oRow i 5 tyU8 r)] }) := by
 unfold f_shield_row at h
 refine fn_enter Try.func40 rfl Try.ntmps40 rfl (fun w0 Z0 => ?_)
 refine aw_sr ?_
 refine al_as rfl rfl ?_
 refine al_nt ?_
 refine aw_sr ?_
 refine al_mv rfl rfl ?_
 obtain ⟨hc1, h⟩ := req_some h
 refine al_make (τ := tyU8) (x0 := 0) hc1.1 hc1.2.1 hc1.2.2 rfl rfl Try.underlying94 to5 (fun _ _ => rfl) rfl rfl (fun v2 => ?_)
 refine al_as rfl rfl ?_
 refine al_nt ?_
 refine aw_seq ?_
 refine aw_sr ?_
 refine al_mv rfl rfl ?_
 refine al_mv rfl rfl ?_
 refine al_in rfl rfl rfl rfl ?_
 refine al_nt ?_
 refine aw_cond rfl (fun hb3 => ?_) (fun hb3 => ?_)
 ·replace h := bif_t hb3 h
  refine aw_sr ?_
  refine al_mv rfl rfl ?_
  refine al_mv rfl rfl ?_
  obtain ⟨u4, hu5, h⟩ := opt_some h
  refine al_idxR 0 (at_some hu5).1 (at_some hu5).2.1 rfl rfl rfl Try.underlying94 sz5 rfl (fun p6 hp7 => ?_)
  obtain ⟨hc8, h⟩ := req_some h
  refine al_storeR (k := (a0).toNat) (x := (UInt8.ofNat ((1 : Int)).toNat)) (vs := [(i8 (1 : Int))]) 0 rfl hp7 (idx_lt hu5) rfl rfl (cv_rfl rfl) (fun _ => u8_rep hc8) sz5 rfl ?_
  refine al_nt ?_
  refine aw_sr ?_
  refine al_mv rfl rfl ?_
  refine al_as rfl rfl ?_
  refine al_nt ?_
  refine aw_ret ?_
  refine aq_then_ret ?_
  obtain rfl := Option.some.inj h
  exact fn_ret v2 [0] [] rfl rfl rfl rfl (res1 rfl rfl) rfl rfl rfl (by decide)
 ·replace h := bif_f hb3 h
  refine aw_skip ?_
  refine aq_then ?_
  obtain ⟨kk10, hkk10, h⟩ := lt_some h
  refine aw_seq_join (ι := (List UInt8)) (fun i => (memOf w0 Z0 [] [(oRow v2 5 tyU8 i)] [])) (fun i => (tab [(5, v2)])) (fun i => kk10 i = some r) ?_ ?_
  ·rintro j9x5 h
   have h : kk10 j9x5 = some r := h
   rw [hkk10] at h
   dsimp only at h
   clear hkk10
   refine aw_show (m := (memOf w0 Z0 [] [(oRow v2 5 tyU8 j9x5)] [])) (S := (tab [(5, v2)])) ?_
   refine aw_sr ?_
   refine al_mv rfl rfl ?_
   refine al_as rfl rfl ?_
   refine al_nt ?_
   refine aw_ret ?_
   obtain rfl := Option.some.inj h
   exact fn_ret v2 [0] [] rfl rfl rfl rfl (res1 rfl rfl) rfl rfl rfl (by decide)
  ·clear hkk10
   refine aw_sr ?_
   refine al_mv rfl rfl ?_
   refine al_val (ov_lenR 0 rfl rfl Try.underlying94 rfl) ?_
   refine al_mv rfl rfl ?_
   refine al_nt ?_
   refine aw_block ?_
   refine aw_state (aw_loop (ι := (List UInt8) × Int) (fun i => (memOf w0 Z0 [] [(oRow v2 5 tyU8 i.1)] [])) (fun i => (tab [(0, (iq a0)), (1, (iq a1)), (5, v2), (17, (iq ((List.replicate (a1).toNat (0 : UInt8)).length : Int))), (18, (iq i.2))])) (fun q i => f_shield_row_L13 a0 a1 kk10 fu q i.1 i.2 = some r) ?_ fu ((List.replicate (a1).toNat (0 : UInt8)), (0 : Int)) h) (fun w a hm hs => norm hm hs [0] [] [(0, (iq a0)), (1, (iq a1)), (5, v2), (17, (iq ((List.replicate (a1).toNat (0 : UInt8)).length : Int))), (18, (iq (0 : Int)))] (by decide) ⟨rfl, rfl, rfl, rfl, rfl, trivial⟩)
   clear h
   rintro k12 ⟨l11x5, l11i18⟩ h
   have h : f_shield_row_L13 a0 a1 kk10 fu k12 l11x5 l11i18 = some r := h
   obtain _ | k12 := k12
   · rw [f_shield_row_L13] at h; cases h
   rw [f_shield_row_L13] at h
   refine aw_show (m := (memOf w0 Z0 [] [(oRow v2 5 tyU8 l11x5)] [])) (S := (tab [(0, (iq a0)), (1, (iq a1)), (5, v2), (17, (iq ((List.replicate (a1).toNat (0 : UInt8)).length : Int))), (18, (iq l11i18))])) ?_
   refine aw_sr ?_
   refine al_in rfl rfl rfl rfl ?_
   refine al_nt ?_
   refine aw_seq ?_
   refine aw_cond rfl (fun hb14 => ?_) (fun hb14 => ?_)
   ·replace h := bif_t hb14 h
    refine aw_skip ?_
    refine aq_then ?_
    refine aw_seq ?_
    refine aw_block ?_
    refine aw_sr ?_
    refine al_mv rfl rfl ?_
    refine al_as rfl rfl ?_
    refine al_nt ?_
    refine aw_region ?_
    refine al_mv rfl rfl ?_
    refine al_mv rfl rfl ?_
    refine al_mv rfl rfl ?_
    refine al_in rfl rfl rfl rfl ?_
    refine al_mv rfl rfl ?_
    refine al_in rfl rfl rfl rfl ?_
    refine al_val (ov_convInt (by rw [Try.underlying3]; rfl) Try.underlying5 rfl rfl) ?_
    refine al_mv rfl rfl ?_
    refine al_val (ov_convInt (by rw [Try.underlying3]; rfl) Try.underlying5 rfl rfl) ?_
    refine al_in rfl rfl rfl rfl ?_
    obtain ⟨r16, hc15, h⟩ := opt_some h
    refine al_call (vs := [(i8 (bits .xor .u8 (w8 (wq ((wq ((128 : Int) + a0)) - a1))) (w8 l11i18)))]) (f_field_Inv_ok fu (bits .xor .u8 (w8 (wq ((wq ((128 : Int) + a0)) - a1))) (w8 l11i18)) hc15) [] [] [0] pre_nil rfl (by simp) (by decide) (.inl rfl) rfl Try.func94 rfl rfl rfl (fun _ => ?_)
    refine al_mv rfl rfl ?_
    refine al_ex rfl rfl rfl ?_
    refine al_ex rfl rfl rfl ?_
    obtain ⟨u17, hu18, h⟩ := opt_some h
    refine al_idxR 0 (at_some hu18).1 (at_some hu18).2.1 rfl rfl rfl Try.underlying94 sz5 rfl (fun p19 hp20 => ?_)
    obtain ⟨hc21, h⟩ := req_some h
    refine al_storeR (k := (l11i18).toNat) (x := (UInt8.ofNat (r16.1).toNat)) (vs := [(i8 r16.1)]) 0 rfl hp20 (idx_lt hu18) rfl rfl (cv_rfl rfl) (fun _ => u8_rep hc21) sz5 rfl ?_
    refine al_nil ?_
    refine aq_block ?_
    refine aq_then ?_
    refine aw_region ?_
    refine al_in rfl rfl rfl rfl ?_
    refine al_mv rfl rfl ?_
    refine al_nil ?_
    exact aq_again k12 ((l11x5.set (l11i18).toNat (UInt8.ofNat (r16.1).toNat)), (wq (l11i18 + (1 : Int)))) (Nat.lt_succ_self _) h (fun w a hm hs => norm hm hs [0] [] [(0, (iq a0)), (1, (iq a1)), (5, v2), (17, (iq ((List.replicate (a1).toNat (0 : UInt8)).length : Int))), (18, (iq (wq (l11i18 + (1 : Int)))))] (by decide) ⟨rfl, rfl, rfl, rfl, rfl, trivial⟩)
   ·replace h := bif_f hb14 h
    refine aw_exit ?_
    refine aq_then_exit ?_
    refine aq_then_exit ?_
    refine aq_block_exit ?_
    exact aq_join l11x5 h (fun w a hm hs => norm hm hs [0] [] [(5, v2)] (by decide) ⟨rfl, trivial⟩)
-- STUCK lumberroom/shield.inverse: a region that draws: no head: shield.go:96 [open: shield.go:96: store: store to ('o', 'p19')]
def f_shield_combine_L18 (a1 : (List (List UInt8))) (a2 : Int) (l5i15 : Int) (kk11 : ((List UInt8) → Option (List UInt8))) (u12 : UInt8) (fu : Nat) : Nat → (List UInt8) → Int → Option (List UInt8)
  | 0, _, _ => none
  | k17 + 1, l16x7, l16i23 => (bif (decide (l16i23 < a2)) then (opt (at? l16x7 l16i23) fun (u20 : UInt8) => (opt (at? a1 l5i15) fun (u24 : (List UInt8)) => (req (0 ≤ l16i23 ∧ l16i23 < (u24.length : Int)) (opt (f_field_Mul fu (u12.toNat : Int) (En.bAt u24 l16i23)) fun (r29 : Int) => (opt (at? l16x7 l16i23) fun (u30 : UInt8) => (req (0 ≤ (bits .xor .u8 (u20.toNat : Int) r29) ∧ (bits .xor .u8 (u20.toNat : Int) r29) ≤ 255) (f_shield_combine_L18 a1 a2 l5i15 kk11 u12 fu k17 (l16x7.set (l16i23).toNat (UInt8.ofNat ((bits .xor .u8 (u20.toNat : Int) r29)).toNat)) (IntKind.i64.wrap (l16i23 + (1 : Int)))))))))) else (kk11 l16x7))
def f_shield_combine_L7 (a0 : (List UInt8)) (a1 : (List (List UInt8))) (a2 : Int) (kk4 : ((List UInt8) → Option (List UInt8))) (fu : Nat) : Nat → (List UInt8) → Int → Option (List UInt8)
  | 0, _, _ => none
  | k6 + 1, l5x7, l5i15 => (lt (fun (l5x7 : (List UInt8)) (l5i15 : Int) => (f_shield_combine_L7 a0 a1 a2 kk4 fu k6 l5x7 l5i15)) fun (kk8 : (List UInt8) → Int → Option (List UInt8)) => (bif (decide (l5i15 < (a0.length : Int))) then (lt (fun (j10x7 : (List UInt8)) => (kk8 j10x7 (IntKind.i64.wrap (l5i15 + (1 : Int))))) fun (kk11 : (List UInt8) → Option (List UInt8)) => (opt (at? a0 l5i15) fun (u12 : UInt8) => (bif ((u12.toNat : Int) == (0 : Int)) then (kk11 l5x7) else (f_shield_combine_L18 a1 a2 l5i15 kk11 u12 fu fu l5x7 (0 : Int))))) else (kk4 l5x7)))
def f_shield_combine (fu : Nat) (a0 : (List UInt8)) (a1 : (List (List UInt8))) (a2 : Int) : Option (List UInt8) := (req (0 ≤ a2 ∧ 1 * a2 ≤ 281474976710656 ∧ a2 ≤ 9223372036854775807) (lt (fun (j3x7 : (List UInt8)) => (some j3x7)) fun (kk4 : (List UInt8) → Option (List UInt8)) => (f_shield_combine_L7 a0 a1 a2 kk4 fu fu (List.replicate (a2).toNat (0 : UInt8)) (0 : Int))))
set_option maxHeartbeats 2000000 in
set_option maxRecDepth 100000 in
theorem f_shield_combine_ok (fu : Nat) (v0_0 : Value) (a0 : (List UInt8)) (v1_0 : Value) (a1 : (List (List UInt8))) (a2 : Int) {r : (List UInt8)} (h : f_shield_combine fu a0 a1 a2 = some r) : FnOk Try.prog 42 [v0_0, v1_0, (int .i64 a2)] [(fDat (tyList tyU8) [v0_0] a0), (fDat (tyList tyStr) [v1_0] a1)] [] (fun (i : Unit) => { val := (str r) }) := by
 unfold f_shield_combine at h
 refine fn_enter Try.func42 rfl Try.ntmps42 rfl (fun w0 Z0 => ?_)
 refine aw_sr ?_
 refine al_as rfl rfl ?_
 refine al_nt ?_
 refine aw_sr ?_
 refine al_mv rfl rfl ?_
 obtain ⟨hc1, h⟩ := req_some h
 refine al_make (τ := tyU8) (x0 := 0) hc1.1 hc1.2.1 hc1.2.2 rfl rfl Try.underlying94 to5 (fun _ _ => rfl) rfl rfl (fun v2 => ?_)
 refine al_as rfl rfl ?_
 refine al_nt ?_
 obtain ⟨kk4, hkk4, h⟩ := lt_some h
 refine aw_seq_join (ι := (List UInt8)) (fun i => (memOf w0 Z0 [] [(oRow v2 5 tyU8 i)] [(fDat (tyList tyU8) [v0_0] a0), (fDat (tyList tyStr) [v1_0] a1)])) (fun i => (tab [(7, v2)])) (fun i => kk4 i = some r) ?_ ?_
 ·rintro j3x7 h
  have h : kk4 j3x7 = some r := h
  rw [hkk4] at h
  dsimp only at h
  clear hkk4
  refine aw_show (m := (memOf w0 Z0 [] [(oRow v2 5 tyU8 j3x7)] [(fDat (tyList tyU8) [v0_0] a0), (fDat (tyList tyStr) [v1_0] a1)])) (S := (tab [(7, v2)])) ?_
  refine aw_sr ?_
  refine al_mv rfl rfl ?_
  refine al_val (ov_toStrR 0 rfl rfl Try.underlying94 Try.underlying5 Try.underlying9 rfl) ?_
  refine al_as rfl rfl ?_
  refine al_nt ?_
  refine aw_ret ?_
  obtain rfl := Option.some.inj h
  exact fn_ret () [] [] rfl rfl rfl rfl (res1 rfl rfl) rfl rfl rfl (by decide)
 ·clear hkk4
  refine aw_sr ?_
  refine al_mv rfl rfl ?_
  refine al_val (ov_lenD 0 rfl rfl Try.underlying94 rfl) ?_
  refine al_mv rfl rfl ?_
  refine al_nt ?_
  refine aw_block ?_
  refine aw_state (aw_loop (ι := (List UInt8) × Int) (fun i => (memOf w0 Z0 [] [(oRow v2 5 tyU8 i.1)] [(fDat (tyList tyStr) [v1_0] a1), (fDat (tyList tyU8) [v0_0] a0)])) (fun i => (tab [(1, v1_0), (2, (iq a2)), (7, v2), (13, v0_0), (14, (iq (a0.length : Int))), (15, (iq i.2))])) (fun q i => f_shield_combine_L7 a0 a1 a2 kk4 fu q i.1 i.2 = some r) ?_ fu ((List.replicate (a2).toNat (0 : UInt8)), (0 : Int)) h) (fun w a hm hs => norm hm hs [0] [1, 0] [(1, v1_0), (2, (iq a2)), (7, v2), (13, v0_0), (14, (iq (a0.length : Int))), (15, (iq (0 : Int)))] (by decide) ⟨rfl, rfl, rfl, rfl, rfl, rfl, trivial⟩)
  clear h
  rintro k6 ⟨l5x7, l5i15⟩ h
  have h : f_shield_combine_L7 a0 a1 a2 kk4 fu k6 l5x7 l5i15 = some r := h
  obtain _ | k6 := k6
  · rw [f_shield_combine_L7] at h; cases h
  rw [f_shield_combine_L7] at h
  refine aw_show (m := (memOf w0 Z0 [] [(oRow v2 5 tyU8 l5x7)] [(fDat (tyList tyStr) [v1_0] a1), (fDat (tyList tyU8) [v0_0] a0)])) (S := (tab [(1, v1_0), (2, (iq a2)), (7, v2), (13, v0_0), (14, (iq (a0.length : Int))), (15, (iq l5i15))])) ?_
  obtain ⟨kk8, hkk8, h⟩ := lt_some h
  refine aw_body_join (ι := (List UInt8) × Int) (fun i => (memOf w0 Z0 [] [(oRow v2 5 tyU8 i.1)] [(fDat (tyList tyStr) [v1_0] a1), (fDat (tyList tyU8) [v0_0] a0)])) (fun i => (tab [(1, v1_0), (2, (iq a2)), (7, v2), (13, v0_0), (14, (iq (a0.length : Int))), (15, (iq i.2))])) (fun i => kk8 i.1 i.2 = some r) (fun i h => aq_again k6 i (Nat.lt_succ_self _) (by rw [hkk8] at h; exact h) (fun w a hm hs => ⟨hm, hs⟩)) ?_
  clear hkk8
  refine aw_sr ?_
  refine al_in rfl rfl rfl rfl ?_
  refine al_nt ?_
  refine aw_seq ?_
  refine aw_cond rfl (fun hb9 => ?_) (fun hb9 => ?_)
  ·replace h := bif_t hb9 h
   refine aw_skip ?_
   refine aq_then ?_
   obtain ⟨kk11, hkk11, h⟩ := lt_some h
   refine aw_seq_join (ι := (List UInt8)) (fun i => (memOf w0 Z0 [] [(oRow v2 5 tyU8 i)] [(fDat (tyList tyStr) [v1_0] a1), (fDat (tyList tyU8) [v0_0] a0)])) (fun i => (tab [(1, v1_0), (2, (iq a2)), (7, v2), (13, v0_0), (14, (iq (a0.length : Int))), (15, (iq l5i15))])) (fun i => kk11 i = some r) ?_ ?_
   ·rintro j10x7 h
    have h : kk11 j10x7 = some r := h
    rw [hkk11] at h
    dsimp only at h
    clear hkk11
    refine aw_show (m := (memOf w0 Z0 [] [(oRow v2 5 tyU8 j10x7)] [(fDat (tyList tyStr) [v1_0] a1), (fDat (tyList tyU8) [v0_0] a0)])) (S := (tab [(1, v1_0), (2, (iq a2)), (7, v2), (13, v0_0), (14, (iq (a0.length : Int))), (15, (iq l5i15))])) ?_
    refine aw_region ?_
    refine al_in rfl rfl rfl rfl ?_
    refine al_mv rfl rfl ?_
    refine al_nil ?_
    exact aq_join (j10x7, (wq (l5i15 + (1 : Int)))) h (fun w a hm hs => norm hm hs [0] [0, 1] [(1, v1_0), (2, (iq a2)), (7, v2), (13, v0_0), (14, (iq (a0.length : Int))), (15, (iq (wq (l5i15 + (1 : Int)))))] (by decide) ⟨rfl, rfl, rfl, rfl, rfl, rfl, trivial⟩)
   ·clear hkk11
    refine aw_block ?_
    refine aw_sr ?_
    refine al_mv rfl rfl ?_
    obtain ⟨u12, hu13, h⟩ := opt_some h
    refine al_idxD 1 hu13 rfl rfl rfl Try.underlying94 sz5 rfl (fun p14 => ?_)
    refine al_val (ov_loadP (ds := [(i8 (u12.toNat : Int))]) 0 rfl (fun h => h) rfl Try.underlying5 sz5 rfl rfl rfl) ?_
    refine al_as rfl rfl ?_
    refine al_as rfl rfl ?_
    refine al_nt ?_
    refine aw_seq ?_
    refine aw_sr ?_
    refine al_mv rfl rfl ?_
    refine al_in rfl rfl rfl rfl ?_
    refine al_nt ?_
    refine aw_cond rfl (fun hb15 => ?_) (fun hb15 => ?_)
    ·replace h := bif_t hb15 h
     refine aw_exit ?_
     refine aq_then_exit ?_
     refine aq_block_exit ?_
     exact aq_join l5x7 h (fun w a hm hs => norm hm hs [0] [1, 2] [(1, v1_0), (2, (iq a2)), (7, v2), (13, v0_0), (14, (iq (a0.length : Int))), (15, (iq l5i15))] (by decide) ⟨rfl, rfl, rfl, rfl, rfl, rfl, trivial⟩)
    ·replace h := bif_f hb15 h
     refine aw_skip ?_
     refine aq_tr ?_
     refine al_mv rfl rfl ?_
     refine al_mv rfl rfl ?_
     refine al_nt ?_
     refine aw_block ?_
     refine aw_state (aw_loop (ι := (List UInt8) × Int) (fun i => (memOf w0 Z0 [] [(oRow v2 5 tyU8 i.1)] [(fDat (tyList tyStr) [v1_0] a1), (fDat (tyList tyU8) [v0_0] a0), (fPtr tyU8 p14 u12)])) (fun i => (tab [(1, v1_0), (2, (iq a2)), (7, v2), (8, (iq l5i15)), (9, (i8 (u12.toNat : Int))), (13, v0_0), (14, (iq (a0.length : Int))), (15, (iq l5i15)), (22, (iq a2)), (23, (iq i.2))])) (fun q i => f_shield_combine_L18 a1 a2 l5i15 kk11 u12 fu q i.1 i.2 = some r) ?_ fu (l5x7, (0 : Int)) h) (fun w a hm hs => norm hm hs [0] [1, 2, 0] [(1, v1_0), (2, (iq a2)), (7, v2), (8, (iq l5i15)), (9, (i8 (u12.toNat : Int))), (13, v0_0), (14, (iq (a0.length : Int))), (15, (iq l5i15)), (22, (iq a2)), (23, (iq (0 : Int)))] (by decide) ⟨rfl, rfl, rfl, rfl, rfl, rfl, rfl, rfl, rfl, rfl, trivial⟩)
     clear h
     rintro k17 ⟨l16x7, l16i23⟩ h
     have h : f_shield_combine_L18 a1 a2 l5i15 kk11 u12 fu k17 l16x7 l16i23 = some r := h
     obtain _ | k17 := k17
     · rw [f_shield_combine_L18] at h; cases h
     rw [f_shield_combine_L18] at h
     refine aw_show (m := (memOf w0 Z0 [] [(oRow v2 5 tyU8 l16x7)] [(fDat (tyList tyStr) [v1_0] a1), (fDat (tyList tyU8) [v0_0] a0), (fPtr tyU8 p14 u12)])) (S := (tab [(1, v1_0), (2, (iq a2)), (7, v2), (8, (iq l5i15)), (9, (i8 (u12.toNat : Int))), (13, v0_0), (14, (iq (a0.length : Int))), (15, (iq l5i15)), (22, (iq a2)), (23, (iq l16i23))])) ?_
     refine aw_sr ?_
     refine al_in rfl rfl rfl rfl ?_
     refine al_nt ?_
     refine aw_seq ?_
     refine aw_cond rfl (fun hb19 => ?_) (fun hb19 => ?_)
     ·replace h := bif_t hb19 h
      refine aw_skip ?_
      refine aq_then ?_
      refine aw_seq ?_
      refine aw_block ?_
      refine aw_sr ?_
      refine al_mv rfl rfl ?_
      refine al_as rfl rfl ?_
      refine al_nt ?_
      obtain ⟨u20, hu21, h⟩ := opt_some h
      obtain ⟨u24, hu25, h⟩ := opt_some h
      obtain ⟨hc27, h⟩ := req_some h
      obtain ⟨r29, hc28, h⟩ := opt_some h
      obtain ⟨u30, hu31, h⟩ := opt_some h
      refine aw_region_draw 14 [(26, (fun u => fEq u v2)), (27, (fun u => fEq u (iq l16i23))), (28, (fun p => fElt v2 p ((l16i23).toNat * Ty.size tyU8))), (29, (fun u => fEq u (i8 (u20.toNat : Int)))), (30, (fun u => fEq u (i8 (u12.toNat : Int)))), (31, (fun u => fEq u v1_0)), (32, (fun u => fEq u (iq l5i15))), (33, (fun p26 => (fPtr tyStr p26 u24))), (34, (fun u => fEq u (str u24))), (35, (fun u => fEq u (iq l16i23))), (36, (fun u => fEq u (i8 (En.bAt u24 l16i23)))), (37, (fun u => fEq u (i8 r29))), (38, (fun u => fEq u (i8 (bits .xor .u8 (u20.toNat : Int) r29)))), (39, (fun p => fElt v2 p ((l16i23).toNat * Ty.size tyU8)))] (tab [(1, v1_0), (2, (iq a2)), (7, v2), (8, (iq l5i15)), (9, (i8 (u12.toNat : Int))), (10, (iq l16i23)), (13, v0_0), (14, (iq (a0.length : Int))), (15, (iq l5i15)), (22, (iq a2)), (23, (iq l16i23))]) mixed (by kernel_rfl) rfl rfl rfl (fun a hs => hs.tab _ (allT_mem ⟨rfl, rfl, rfl, rfl, rfl, rfl, rfl, rfl, rfl, rfl, rfl, trivial⟩)) ⟨⟨rfl, ld_val (ov_move rfl rfl)⟩, ⟨rfl, ld_val (ov_move rfl rfl)⟩, ⟨rfl, ld_eq (j := 0) rfl rfl (ld_eq (j := 1) rfl rfl (ld_of (of_idxR 0 (at_some hu21).1 (at_some hu21).2.1 rfl rfl rfl Try.underlying94 sz5 rfl)))⟩, ⟨rfl, ld_elt (j := 2) rfl rfl (fun p22 hp23 => ld_val (ov_loadR (ds := [(i8 (u20.toNat : Int))]) 0 rfl hp23 (at_some hu21).2.2 (fun h => h) rfl Try.underlying5 sz5 rfl rfl rfl))⟩, ⟨rfl, ld_val (ov_move rfl rfl)⟩, ⟨rfl, ld_val (ov_move rfl rfl)⟩, ⟨rfl, ld_val (ov_move rfl rfl)⟩, ⟨rfl, ld_eq (j := 5) rfl rfl (ld_eq (j := 6) rfl rfl (ld_of (of_idxD 0 hu25 rfl rfl rfl Try.underlying23 sz9 rfl)))⟩, ⟨rfl, ld_fact (j := 7) rfl rfl (fun p26 => ld_val (ov_loadP (ds := [(str u24)]) 0 rfl (fun h => h) rfl Try.underlying9 sz9 rfl rfl rfl))⟩, ⟨rfl, ld_val (ov_move rfl rfl)⟩, ⟨rfl, ld_eq (j := 8) rfl rfl (ld_eq (j := 9) rfl rfl (ld_val (ov_strIdx hc27.1 hc27.2 Try.underlying9 rfl rfl rfl)))⟩, ⟨rfl, ld_eq (j := 4) rfl rfl (ld_eq (j := 10) rfl rfl (ld_callV (vs := [(i8 (u12.toNat : Int)), (i8 (En.bAt u24 l16i23))]) (f_field_Mul_ok fu (u12.toNat : Int) (En.bAt u24 l16i23) hc28) [] pre_nil rfl Try.func95 rfl rfl rfl))⟩, ⟨rfl, ld_eq (j := 3) rfl rfl (ld_eq (j := 11) rfl rfl (ld_val (ov_int rfl rfl rfl rfl)))⟩, ⟨rfl, ld_eq (j := 0) rfl rfl (ld_eq (j := 1) rfl rfl (ld_of (of_idxR 0 (at_some hu31).1 (at_some hu31).2.1 rfl rfl rfl Try.underlying94 sz5 rfl)))⟩, trivial⟩ ?_
      refine tl_eq 12 rfl ?_
      refine tl_elt 13 rfl (fun p32 hp33 => ?_)
      refine tl_done ?_
      obtain ⟨hc34, h⟩ := req_some h
      refine al_storeR (k := (l16i23).toNat) (x := (UInt8.ofNat ((bits .xor .u8 (u20.toNat : Int) r29)).toNat)) (vs := [(i8 (bits .xor .u8 (u20.toNat : Int) r29))]) 0 rfl hp33 (idx_lt hu31) rfl rfl (cv_rfl rfl) (fun _ => u8_rep hc34) sz5 rfl ?_
      refine al_nil ?_
      refine aq_block ?_
      refine aq_then ?_
      refine aw_region ?_
      refine al_in rfl rfl rfl rfl ?_
      refine al_mv rfl rfl ?_
      refine al_nil ?_
      exact aq_again k17 ((l16x7.set (l16i23).toNat (UInt8.ofNat ((bits .xor .u8 (u20.toNat : Int) r29)).toNat)), (wq (l16i23 + (1 : Int)))) (Nat.lt_succ_self _) h (fun w a hm hs => norm hm hs [0] [0, 1, 2] [(1, v1_0), (2, (iq a2)), (7, v2), (8, (iq l5i15)), (9, (i8 (u12.toNat : Int))), (13, v0_0), (14, (iq (a0.length : Int))), (15, (iq l5i15)), (22, (iq a2)), (23, (iq (wq (l16i23 + (1 : Int)))))] (by decide) ⟨rfl, rfl, rfl, rfl, rfl, rfl, rfl, rfl, rfl, rfl, trivial⟩)
     ·replace h := bif_f hb19 h
      refine aw_exit ?_
      refine aq_then_exit ?_
      refine aq_then_exit ?_
      refine aq_block_exit ?_
      refine aq_block ?_
      exact aq_join l16x7 h (fun w a hm hs => norm hm hs [0] [0, 1] [(1, v1_0), (2, (iq a2)), (7, v2), (13, v0_0), (14, (iq (a0.length : Int))), (15, (iq l5i15))] (by decide) ⟨rfl, rfl, rfl, rfl, rfl, rfl, trivial⟩)
  ·replace h := bif_f hb9 h
   refine aw_exit ?_
   refine aq_then_exit ?_
   refine aq_then_exit ?_
   refine aq_block_exit ?_
   exact aq_join l5x7 h (fun w a hm hs => norm hm hs [0] [1, 0] [(7, v2)] (by decide) ⟨rfl, trivial⟩)
def f_shield_inverse_ownd_L90 (a0 : (List Int)) (l7x0 : (List Int)) (l7x4 : (List Int)) (l7i36 : Int) (j14i7 : Int) (u16 : Int) (u21 : Int) (u34 : Int) (u39 : Int) (l67i131 : Int) (kk73 : ((List (Option (List UInt8))) → (List (Option (List UInt8))) → Option ((List Int) × (List (Option (List UInt8)))))) (u81 : UInt8) (fu : Nat) : Nat → (List (Option (List UInt8))) → (List (Option (List UInt8))) → Int → Option ((List Int) × (List (Option (List UInt8))))
  | 0, _, _, _ => none
  | k89 + 1, l88xb0, l88xb4, l88i149 => (bif (decide (l88i149 < (a0.length : Int))) then (opt (at? ((l7x0.set (l7i36).toNat u16).set (j14i7).toNat u21) l67i131) fun (u92 : Int) => (opt (bget l88xb0 u92) fun (xs97 : List UInt8) => (opt (at? xs97 l88i149) fun (u99 : UInt8) => (opt (at? ((l7x0.set (l7i36).toNat u16).set (j14i7).toNat u21) l7i36) fun (u103 : Int) => (opt (bget l88xb0 u103) fun (xs108 : List UInt8) => (opt (at? xs108 l88i149) fun (u110 : UInt8) => (opt (f_field_Mul fu (u81.toNat : Int) (u110.toNat : Int)) fun (r115 : Int) => (opt (bget l88xb0 u92) fun (xs116 : List UInt8) => (opt (at? xs116 l88i149) fun (u118 : UInt8) => (req (0 ≤ (bits .xor .u8 (u99.toNat : Int) r115) ∧ (bits .xor .u8 (u99.toNat : Int) r115) ≤ 255) (opt (at? ((l7x4.set (l7i36).toNat u34).set (j14i7).toNat u39) l67i131) fun (u123 : Int) => (opt (bget l88xb4 u123) fun (xs128 : List UInt8) => (opt (at? xs128 l88i149) fun (u130 : UInt8) => (opt (at? ((l7x4.set (l7i36).toNat u34).set (j14i7).toNat u39) l7i36) fun (u134 : Int) => (opt (bget l88xb4 u134) fun (xs139 : List UInt8) => (opt (at? xs139 l88i149) fun (u141 : UInt8) => (opt (f_field_Mul fu (u81.toNat : Int) (u141.toNat : Int)) fun (r146 : Int) => (opt (bget l88xb4 u123) fun (xs147 : List UInt8) => (opt (at? xs147 l88i149) fun (u149 : UInt8) => (req (0 ≤ (bits .xor .u8 (u130.toNat : Int) r146) ∧ (bits .xor .u8 (u130.toNat : Int) r146) ≤ 255) (f_shield_inverse_ownd_L90 a0 l7x0 l7x4 l7i36 j14i7 u16 u21 u34 u39 l67i131 kk73 u81 fu k89 (bset l88xb0 u92 (some (xs116.set (l88i149).toNat (UInt8.ofNat ((bits .xor .u8 (u99.toNat : Int) r115)).toNat)))) (bset l88xb4 u123 (some (xs147.set (l88i149).toNat (UInt8.ofNat ((bits .xor .u8 (u130.toNat : Int) r146)).toNat)))) (IntKind.i64.wrap (l88i149 + (1 : Int)))))))))))))))))))))))) else (kk73 l88xb0 l88xb4))
def f_shield_inverse_ownd_L69 (a0 : (List Int)) (l7x0 : (List Int)) (l7x4 : (List Int)) (l7i36 : Int) (kk13 : ((List (Option (List UInt8))) → (List Int) → (List (Option (List UInt8))) → (List Int) → Option ((List Int) × (List (Option (List UInt8)))))) (j14i7 : Int) (u16 : Int) (u21 : Int) (u34 : Int) (u39 : Int) (fu : Nat) : Nat → (List (Option (List UInt8))) → (List (Option (List UInt8))) → Int → Option ((List Int) × (List (Option (List UInt8))))
  | 0, _, _, _ => none
  | k68 + 1, l67xb0, l67xb4, l67i131 => (lt (fun (l67xb0 : (List (Option (List UInt8)))) (l67xb4 : (List (Option (List UInt8)))) (l67i131 : Int) => (f_shield_inverse_ownd_L69 a0 l7x0 l7x4 l7i36 kk13 j14i7 u16 u21 u34 u39 fu k68 l67xb0 l67xb4 l67i131)) fun (kk70 : (List (Option (List UInt8))) → (List (Option (List UInt8))) → Int → Option ((List Int) × (List (Option (List UInt8))))) => (bif (decide (l67i131 < (a0.length : Int))) then (lt (fun (j72xb0 : (List (Option (List UInt8)))) (j72xb4 : (List (Option (List UInt8)))) => (kk70 j72xb0 j72xb4 (IntKind.i64.wrap (l67i131 + (1 : Int))))) fun (kk73 : (List (Option (List UInt8))) → (List (Option (List UInt8))) → Option ((List Int) × (List (Option (List UInt8))))) => (opt (at? ((l7x0.set (l7i36).toNat u16).set (j14i7).toNat u21) l67i131) fun (u74 : Int) => (opt (bget l67xb0 u74) fun (xs79 : List UInt8) => (opt (at? xs79 l7i36) fun (u81 : UInt8) => (lt (fun (j85b147 : Bool) => (bif j85b147 then (f_shield_inverse_ownd_L90 a0 l7x0 l7x4 l7i36 j14i7 u16 u21 u34 u39 l67i131 kk73 u81 fu fu l67xb0 l67xb4 (0 : Int)) else (kk73 l67xb0 l67xb4))) fun (kk86 : Bool → Option ((List Int) × (List (Option (List UInt8))))) => (bif (l67i131 != l7i36) then (kk86 ((u81.toNat : Int) != (0 : Int))) else (kk86 false))))))) else (kk13 l67xb0 ((l7x0.set (l7i36).toNat u16).set (j14i7).toNat u21) l67xb4 ((l7x4.set (l7i36).toNat u34).set (j14i7).toNat u39))))
def f_shield_inverse_ownd_L157 (a0 : (List Int)) (l7x0 : (List Int)) (l7x4 : (List Int)) (l7i36 : Int) (j14i7 : Int) (u16 : Int) (u21 : Int) (u34 : Int) (u39 : Int) (r64 : (Int × Int)) (kk66 : ((List (Option (List UInt8))) → (List (Option (List UInt8))) → Option ((List Int) × (List (Option (List UInt8)))))) (fu : Nat) : Nat → (List (Option (List UInt8))) → (List (Option (List UInt8))) → Int → Option ((List Int) × (List (Option (List UInt8))))
  | 0, _, _, _ => none
  | k156 + 1, l155xb0, l155xb4, l155i96 => (bif (decide (l155i96 < (a0.length : Int))) then (opt (at? ((l7x0.set (l7i36).toNat u16).set (j14i7).toNat u21) l7i36) fun (u159 : Int) => (opt (at? ((l7x4.set (l7i36).toNat u34).set (j14i7).toNat u39) l7i36) fun (u164 : Int) => (opt (at? ((l7x0.set (l7i36).toNat u16).set (j14i7).toNat u21) l7i36) fun (u169 : Int) => (opt (bget l155xb0 u169) fun (xs174 : List UInt8) => (opt (at? xs174 l155i96) fun (u176 : UInt8) => (opt (at? ((l7x4.set (l7i36).toNat u34).set (j14i7).toNat u39) l7i36) fun (u180 : Int) => (opt (bget l155xb4 u180) fun (xs185 : List UInt8) => (opt (at? xs185 l155i96) fun (u187 : UInt8) => (opt (f_field_Mul fu r64.1 (u176.toNat : Int)) fun (r192 : Int) => (opt (f_field_Mul fu r64.1 (u187.toNat : Int)) fun (r194 : Int) => (opt (bget l155xb0 u159) fun (xs195 : List UInt8) => (opt (at? xs195 l155i96) fun (u197 : UInt8) => (req (0 ≤ r192 ∧ r192 ≤ 255) (opt (bget l155xb4 u164) fun (xs202 : List UInt8) => (opt (at? xs202 l155i96) fun (u204 : UInt8) => (req (0 ≤ r194 ∧ r194 ≤ 255) (f_shield_inverse_ownd_L157 a0 l7x0 l7x4 l7i36 j14i7 u16 u21 u34 u39 r64 kk66 fu k156 (bset l155xb0 u159 (some (xs195.set (l155i96).toNat (UInt8.ofNat (r192).toNat)))) (bset l155xb4 u164 (some (xs202.set (l155i96).toNat (UInt8.ofNat (r194).toNat)))) (IntKind.i64.wrap (l155i96 + (1 : Int)))))))))))))))))))) else (kk66 l155xb0 l155xb4))
def f_shield_inverse_ownd_L211 (a0 : (List Int)) (l7xb0 : (List (Option (List UInt8)))) (l7x0 : (List Int)) (l7i36 : Int) (kk15 : (Int → Option ((List Int) × (List (Option (List UInt8)))))) : Nat → Int → Option ((List Int) × (List (Option (List UInt8))))
  | 0, _ => none
  | k210 + 1, l209i7 => (lt (fun (j212b53 : Bool) => (bif j212b53 then (f_shield_inverse_ownd_L211 a0 l7xb0 l7x0 l7i36 kk15 k210 (IntKind.i64.wrap (l209i7 + (1 : Int)))) else (kk15 l209i7))) fun (kk213 : Bool → Option ((List Int) × (List (Option (List UInt8))))) => (bif (decide (l209i7 < (IntKind.i64.wrap ((a0.length : Int) - (1 : Int))))) then (opt (at? l7x0 l209i7) fun (u216 : Int) => (opt (bget l7xb0 u216) fun (xs221 : List UInt8) => (opt (at? xs221 l7i36) fun (u223 : UInt8) => (kk213 ((u223.toNat : Int) == (0 : Int)))))) else (kk213 false)))
def f_shield_inverse_ownd_L9 (a0 : (List Int)) (kk6 : ((List (Option (List UInt8))) → (List Int) → Option ((List Int) × (List (Option (List UInt8)))))) (fu : Nat) : Nat → (List (Option (List UInt8))) → (List Int) → (List (Option (List UInt8))) → (List Int) → Int → Option ((List Int) × (List (Option (List UInt8))))
  | 0, _, _, _, _, _ => none
  | k8 + 1, l7xb0, l7x0, l7xb4, l7x4, l7i36 => (lt (fun (l7xb0 : (List (Option (List UInt8)))) (l7x0 : (List Int)) (l7xb4 : (List (Option (List UInt8)))) (l7x4 : (List Int)) (l7i36 : Int) => (f_shield_inverse_ownd_L9 a0 kk6 fu k8 l7xb0 l7x0 l7xb4 l7x4 l7i36)) fun (kk10 : (List (Option (List UInt8))) → (List Int) → (List (Option (List UInt8))) → (List Int) → Int → Option ((List Int) × (List (Option (List UInt8))))) => (bif (decide (l7i36 < (a0.length : Int))) then (lt (fun (j12xb0 : (List (Option (List UInt8)))) (j12x0 : (List Int)) (j12xb4 : (List (Option (List UInt8)))) (j12x4 : (List Int)) => (kk10 j12xb0 j12x0 j12xb4 j12x4 (IntKind.i64.wrap (l7i36 + (1 : Int))))) fun (kk13 : (List (Option (List UInt8))) → (List Int) → (List (Option (List UInt8))) → (List Int) → Option ((List Int) × (List (Option (List UInt8))))) => (lt (fun (j14i7 : Int) => (opt (at? l7x0 j14i7) fun (u16 : Int) => (opt (at? l7x0 l7i36) fun (u21 : Int) => (opt (at? l7x0 l7i36) fun (u26 : Int) => (opt (at? (l7x0.set (l7i36).toNat u16) j14i7) fun (u30 : Int) => (opt (at? l7x4 j14i7) fun (u34 : Int) => (opt (at? l7x4 l7i36) fun (u39 : Int) => (opt (at? l7x4 l7i36) fun (u44 : Int) => (opt (at? (l7x4.set (l7i36).toNat u34) j14i7) fun (u48 : Int) => (opt (at? ((l7x0.set (l7i36).toNat u16).set (j14i7).toNat u21) l7i36) fun (u52 : Int) => (opt (bget l7xb0 u52) fun (xs57 : List UInt8) => (opt (at? xs57 l7i36) fun (u59 : UInt8) => (opt (f_field_Inv fu (u59.toNat : Int)) fun (r64 : (Int × Int)) => (lt (fun (j65xb0 : (List (Option (List UInt8)))) (j65xb4 : (List (Option (List UInt8)))) => (f_shield_inverse_ownd_L69 a0 l7x0 l7x4 l7i36 kk13 j14i7 u16 u21 u34 u39 fu fu j65xb0 j65xb4 (0 : Int))) fun (kk66 : (List (Option (List UInt8))) → (List (Option (List UInt8))) → Option ((List Int) × (List (Option (List UInt8))))) => (f_shield_inverse_ownd_L157 a0 l7x0 l7x4 l7i36 j14i7 u16 u21 u34 u39 r64 kk66 fu fu l7xb0 l7xb4 (0 : Int)))))))))))))))) fun (kk15 : Int → Option ((List Int) × (List (Option (List UInt8))))) => (f_shield_inverse_ownd_L211 a0 l7xb0 l7x0 l7i36 kk15 fu l7i36))) else (kk6 l7xb4 l7x4)))
def f_shield_inverse_ownd_L229 (a0 : (List Int)) (kk4 : ((List (Option (List UInt8))) → (List Int) → Option ((List Int) × (List (Option (List UInt8)))))) : Nat → (List (Option (List UInt8))) → (List Int) → Int → Option ((List Int) × (List (Option (List UInt8))))
  | 0, _, _, _ => none
  | k228 + 1, l227xb4, l227x4, l227i20 => (bif (decide (l227i20 < ((List.replicate ((a0.length : Int)).toNat (0 : Int)).length : Int))) then (req (0 ≤ (a0.length : Int) ∧ 1 * (a0.length : Int) ≤ 281474976710656 ∧ (a0.length : Int) ≤ 9223372036854775807) (opt (at? l227x4 l227i20) fun (u233 : Int) => (opt (at? (l227x4.set (l227i20).toNat (l227xb4.length : Int)) l227i20) fun (u237 : Int) => (opt (bget (l227xb4 ++ [some (List.replicate ((a0.length : Int)).toNat (0 : UInt8))]) u237) fun (xs242 : List UInt8) => (opt (at? xs242 l227i20) fun (u244 : UInt8) => (req (0 ≤ (1 : Int) ∧ (1 : Int) ≤ 255) (f_shield_inverse_ownd_L229 a0 kk4 k228 (bset (l227xb4 ++ [some (List.replicate ((a0.length : Int)).toNat (0 : UInt8))]) u237 (some (xs242.set (l227i20).toNat (UInt8.ofNat ((1 : Int)).toNat)))) (l227x4.set (l227i20).toNat (l227xb4.length : Int)) (IntKind.i64.wrap (l227i20 + (1 : Int)))))))))) else (kk4 l227xb4 l227x4))
def f_shield_inverse_ownd (fu : Nat) (a0 : (List Int)) (b0 : (List (Option (List UInt8)))) : Option ((List Int) × (List (Option (List UInt8)))) := (req (0 ≤ (a0.length : Int) ∧ 24 * (a0.length : Int) ≤ 281474976710656 ∧ (a0.length : Int) ≤ 9223372036854775807) (lt (fun (j3xb4 : (List (Option (List UInt8)))) (j3x4 : (List Int)) => (lt (fun (j5xb4 : (List (Option (List UInt8)))) (j5x4 : (List Int)) => (some (j5x4, j5xb4))) fun (kk6 : (List (Option (List UInt8))) → (List Int) → Option ((List Int) × (List (Option (List UInt8))))) => (f_shield_inverse_ownd_L9 a0 kk6 fu fu b0 a0 j3xb4 j3x4 (0 : Int)))) fun (kk4 : (List (Option (List UInt8))) → (List Int) → Option ((List Int) × (List (Option (List UInt8))))) => (f_shield_inverse_ownd_L229 a0 kk4 fu ([some []] : (List (Option (List UInt8)))) (List.replicate ((a0.length : Int)).toNat (0 : Int)) (0 : Int))))
set_option maxRecDepth 100000 in
set_option maxHeartbeats 2000000 in
set_option maxHeartbeats 2000000 in
theorem f_shield_inverse_ownd_ok (fu : Nat) (v0_0 : Value) (us0 : List Value) (a0 : List Int) (b0 : (List (Option (List UInt8)))) {r : ((List Int) × (List (Option (List UInt8))))} (h : f_shield_inverse_ownd fu a0 b0 = some r) : FnOk Try.prog 41 [v0_0] [] [(oRow v0_0 94 (tyH us0) a0), (oBag 5 tyU8 us0 b0)] (fun (i : Value × List Value) => { val := i.1, own := [(oRow i.1 94 (tyH i.2) r.1), (oBag 5 tyU8 i.2 r.2)] }) := by
 unfold f_shield_inverse_ownd at h
 refine fn_enter Try.func41 rfl Try.ntmps41 rfl (fun w0 Z0 => ?_)
 refine aw_sr ?_
 refine al_as rfl rfl ?_
 refine al_nt ?_
 refine aw_sr ?_
 refine al_mv rfl rfl ?_
 refine al_val (ov_lenR 0 rfl rfl Try.underlying93 rfl) ?_
 refine al_as rfl rfl ?_
 refine al_nt ?_
 refine aw_sr ?_
 refine al_mv rfl rfl ?_
 obtain ⟨hc1, h⟩ := req_some h
 refine al_bagNil 5 tyU8 ?_
 refine al_make (τ := (tyH ([nS]))) (x0 := (0 : Int)) hc1.1 hc1.2.1 hc1.2.2 rfl rfl Try.underlying93 to94 (fun _ _ => nilH _ 0 rfl _ _) rfl rfl (fun v2 => ?_)
 refine al_as rfl rfl ?_
 refine al_nt ?_
 obtain ⟨kk4, hkk4, h⟩ := lt_some h
 refine aw_seq_join (ι := (List Value) × (List (Option (List UInt8))) × (List Int)) (fun i => (memOf w0 Z0 [(oRow v0_0 94 (tyH us0) a0), (oBag 5 tyU8 us0 b0)] [(oBag 5 tyU8 us0 b0), (oRow v0_0 94 (tyH us0) a0), (oBag 5 tyU8 i.1 i.2.1), (oRow v2 94 (tyH i.1) i.2.2)] [])) (fun i => (tab [(0, v0_0), (3, (iq (a0.length : Int))), (4, v2)])) (fun i => kk4 i.2.1 i.2.2 = some r) ?_ ?_
 ·rintro ⟨j3us4, j3xb4, j3x4⟩ h
  have h : kk4 j3xb4 j3x4 = some r := h
  rw [hkk4] at h
  dsimp only at h
  clear hkk4
  refine aw_show (m := (memOf w0 Z0 [(oRow v0_0 94 (tyH us0) a0), (oBag 5 tyU8 us0 b0)] [(oBag 5 tyU8 us0 b0), (oRow v0_0 94 (tyH us0) a0), (oBag 5 tyU8 j3us4 j3xb4), (oRow v2 94 (tyH j3us4) j3x4)] [])) (S := (tab [(0, v0_0), (3, (iq (a0.length : Int))), (4, v2)])) ?_
  obtain ⟨kk6, hkk6, h⟩ := lt_some h
  refine aw_seq_join (ι := (List (Option (List UInt8))) × (List Int)) (fun i => (memOf w0 Z0 [(oRow v0_0 94 (tyH us0) a0), (oBag 5 tyU8 us0 b0)] [(oBag 5 tyU8 j3us4 i.1), (oRow v2 94 (tyH j3us4) i.2)] [])) (fun i => (tab [(4, v2)])) (fun i => kk6 i.1 i.2 = some r) ?_ ?_
  ·rintro ⟨j5xb4, j5x4⟩ h
   have h : kk6 j5xb4 j5x4 = some r := h
   rw [hkk6] at h
   dsimp only at h
   clear hkk6
   refine aw_show (m := (memOf w0 Z0 [(oRow v0_0 94 (tyH us0) a0), (oBag 5 tyU8 us0 b0)] [(oBag 5 tyU8 j3us4 j5xb4), (oRow v2 94 (tyH j3us4) j5x4)] [])) (S := (tab [(4, v2)])) ?_
   refine aw_sr ?_
   refine al_mv rfl rfl ?_
   refine al_as rfl rfl ?_
   refine al_nt ?_
   refine aw_ret ?_
   obtain rfl := Option.some.inj h
   exact fn_ret (v2, j3us4) [1, 0] [] rfl rfl rfl rfl (res1 rfl rfl) rfl rfl rfl (by decide)
  ·clear hkk6
   refine aw_sr ?_
   refine al_mv rfl rfl ?_
   refine al_mv rfl rfl ?_
   refine al_nt ?_
   refine aw_block ?_
   refine aw_state (aw_loop (ι := (List (Option (List UInt8))) × (List Int) × (List (Option (List UInt8))) × (List Int) × Int) (fun i => (memOf w0 Z0 [(oRow v0_0 94 (tyH us0) a0), (oBag 5 tyU8 us0 b0)] [(oBag 5 tyU8 us0 i.1), (oRow v0_0 94 (tyH us0) i.2.1), (oBag 5 tyU8 j3us4 i.2.2.1), (oRow v2 94 (tyH j3us4) i.2.2.2.1)] [])) (fun i => (tab [(0, v0_0), (3, (iq (a0.length : Int))), (4, v2), (35, (iq (a0.length : Int))), (36, (iq i.2.2.2.2))])) (fun q i => f_shield_inverse_ownd_L9 a0 kk6 fu q i.1 i.2.1 i.2.2.1 i.2.2.2.1 i.2.2.2.2 = some r) ?_ fu (b0, a0, j3xb4, j3x4, (0 : Int)) h) (fun w a hm hs => norm hm hs [0, 1, 2, 3] [] [(0, v0_0), (3, (iq (a0.length : Int))), (4, v2), (35, (iq (a0.length : Int))), (36, (iq (0 : Int)))] (by decide) ⟨rfl, rfl, rfl, rfl, rfl, trivial⟩)
   clear h
   rintro k8 ⟨l7xb0, l7x0, l7xb4, l7x4, l7i36⟩ h
   have h : f_shield_inverse_ownd_L9 a0 kk6 fu k8 l7xb0 l7x0 l7xb4 l7x4 l7i36 = some r := h
   obtain _ | k8 := k8
   · rw [f_shield_inverse_ownd_L9] at h; cases h
   rw [f_shield_inverse_ownd_L9] at h
   refine aw_show (m := (memOf w0 Z0 [(oRow v0_0 94 (tyH us0) a0), (oBag 5 tyU8 us0 b0)] [(oBag 5 tyU8 us0 l7xb0), (oRow v0_0 94 (tyH us0) l7x0), (oBag 5 tyU8 j3us4 l7xb4), (oRow v2 94 (tyH j3us4) l7x4)] [])) (S := (tab [(0, v0_0), (3, (iq (a0.length : Int))), (4, v2), (35, (iq (a0.length : Int))), (36, (iq l7i36))])) ?_
   obtain ⟨kk10, hkk10, h⟩ := lt_some h
   refine aw_body_join (ι := (List (Option (List UInt8))) × (List Int) × (List (Option (List UInt8))) × (List Int) × Int) (fun i => (memOf w0 Z0 [(oRow v0_0 94 (tyH us0) a0), (oBag 5 tyU8 us0 b0)] [(oBag 5 tyU8 us0 i.1), (oRow v0_0 94 (tyH us0) i.2.1), (oBag 5 tyU8 j3us4 i.2.2.1), (oRow v2 94 (tyH j3us4) i.2.2.2.1)] [])) (fun i => (tab [(0, v0_0), (3, (iq (a0.length : Int))), (4, v2), (35, (iq (a0.length : Int))), (36, (iq i.2.2.2.2))])) (fun i => kk10 i.1 i.2.1 i.2.2.1 i.2.2.2.1 i.2.2.2.2 = some r) (fun i h => aq_again k8 i (Nat.lt_succ_self _) (by rw [hkk10] at h; exact h) (fun w a hm hs => ⟨hm, hs⟩)) ?_
   clear hkk10
   refine aw_sr ?_
   refine al_in rfl rfl rfl rfl ?_
   refine al_nt ?_
   refine aw_seq ?_
   refine aw_cond rfl (fun hb11 => ?_) (fun hb11 => ?_)
   ·replace h := bif_t hb11 h
    refine aw_skip ?_
    refine aq_then ?_
    obtain ⟨kk13, hkk13, h⟩ := lt_some h
    refine aw_seq_join (ι := (List (Option (List UInt8))) × (List Int) × (List (Option (List UInt8))) × (List Int)) (fun i => (memOf w0 Z0 [(oRow v0_0 94 (tyH us0) a0), (oBag 5 tyU8 us0 b0)] [(oBag 5 tyU8 us0 i.1), (oRow v0_0 94 (tyH us0) i.2.1), (oBag 5 tyU8 j3us4 i.2.2.1), (oRow v2 94 (tyH j3us4) i.2.2.2)] [])) (fun i => (tab [(0, v0_0), (3, (iq (a0.length : Int))), (4, v2), (35, (iq (a0.length : Int))), (36, (iq l7i36))])) (fun i => kk13 i.1 i.2.1 i.2.2.1 i.2.2.2 = some r) ?_ ?_
    ·rintro ⟨j12xb0, j12x0, j12xb4, j12x4⟩ h
     have h : kk13 j12xb0 j12x0 j12xb4 j12x4 = some r := h
     rw [hkk13] at h
     dsimp only at h
     clear hkk13
     refine aw_show (m := (memOf w0 Z0 [(oRow v0_0 94 (tyH us0) a0), (oBag 5 tyU8 us0 b0)] [(oBag 5 tyU8 us0 j12xb0), (oRow v0_0 94 (tyH us0) j12x0), (oBag 5 tyU8 j3us4 j12xb4), (oRow v2 94 (tyH j3us4) j12x4)] [])) (S := (tab [(0, v0_0), (3, (iq (a0.length : Int))), (4, v2), (35, (iq (a0.length : Int))), (36, (iq l7i36))])) ?_
     refine aw_region ?_
     refine al_in rfl rfl rfl rfl ?_
     refine al_mv rfl rfl ?_
     refine al_nil ?_
     exact aq_join (j12xb0, j12x0, j12xb4, j12x4, (wq (l7i36 + (1 : Int)))) h (fun w a hm hs => norm hm hs [0, 1, 2, 3] [] [(0, v0_0), (3, (iq (a0.length : Int))), (4, v2), (35, (iq (a0.length : Int))), (36, (iq (wq (l7i36 + (1 : Int)))))] (by decide) ⟨rfl, rfl, rfl, rfl, rfl, trivial⟩)
    ·clear hkk13
     refine aw_block ?_
     refine aw_sr ?_
     refine al_mv rfl rfl ?_
     refine al_as rfl rfl ?_
     refine al_nt ?_
     refine aw_sr ?_
     refine al_mv rfl rfl ?_
     refine al_as rfl rfl ?_
     refine al_nt ?_
     obtain ⟨kk15, hkk15, h⟩ := lt_some h
     refine aw_seq_join (ι := Int) (fun i => (memOf w0 Z0 [(oRow v0_0 94 (tyH us0) a0), (oBag 5 tyU8 us0 b0)] [(oBag 5 tyU8 us0 l7xb0), (oRow v0_0 94 (tyH us0) l7x0), (oBag 5 tyU8 j3us4 l7xb4), (oRow v2 94 (tyH j3us4) l7x4)] [])) (fun i => (tab [(0, v0_0), (3, (iq (a0.length : Int))), (4, v2), (6, (iq l7i36)), (7, (iq i)), (35, (iq (a0.length : Int))), (36, (iq l7i36))])) (fun i => kk15 i = some r) ?_ ?_
     ·rintro j14i7 h
      have h : kk15 j14i7 = some r := h
      rw [hkk15] at h
      dsimp only at h
      clear hkk15
      refine aw_show (m := (memOf w0 Z0 [(oRow v0_0 94 (tyH us0) a0), (oBag 5 tyU8 us0 b0)] [(oBag 5 tyU8 us0 l7xb0), (oRow v0_0 94 (tyH us0) l7x0), (oBag 5 tyU8 j3us4 l7xb4), (oRow v2 94 (tyH j3us4) l7x4)] [])) (S := (tab [(0, v0_0), (3, (iq (a0.length : Int))), (4, v2), (6, (iq l7i36)), (7, (iq j14i7)), (35, (iq (a0.length : Int))), (36, (iq l7i36))])) ?_
      refine aw_seq ?_
      obtain ⟨u16, hu17, h⟩ := opt_some h
      obtain ⟨u21, hu22, h⟩ := opt_some h
      obtain ⟨u26, hu27, h⟩ := opt_some h
      refine aw_region_open [⟨0, 56, Unit, fun _ => { val := v0_0 }⟩, ⟨1, 57, Unit, fun _ => { val := (iq l7i36) }⟩, ⟨2, 58, Unit, fun _ => { val := v0_0 }⟩, ⟨3, 59, Unit, fun _ => { val := (iq j14i7) }⟩, ⟨4, 60, Unit, fun _ => { val := v0_0 }⟩, ⟨5, 61, Unit, fun _ => { val := (iq j14i7) }⟩, ⟨6, 62, {p : Value // EltOf v0_0 p ((j14i7).toNat * Ty.size (tyH us0))}, fun p => { val := p.1 }⟩, ⟨7, 63, Value, fun (i : Value) => { val := i, fz := [(fDat (tyH us0) [i] u16)] }⟩, ⟨8, 64, Unit, fun _ => { val := v0_0 }⟩, ⟨9, 65, Unit, fun _ => { val := (iq l7i36) }⟩, ⟨10, 66, {p : Value // EltOf v0_0 p ((l7i36).toNat * Ty.size (tyH us0))}, fun p => { val := p.1 }⟩, ⟨11, 67, Value, fun (i : Value) => { val := i, fz := [(fDat (tyH us0) [i] u21)] }⟩, ⟨12, 68, {p : Value // EltOf v0_0 p ((l7i36).toNat * Ty.size (tyH us0))}, fun p => { val := p.1 }⟩] (tab [(0, v0_0), (3, (iq (a0.length : Int))), (4, v2), (6, (iq l7i36)), (7, (iq j14i7)), (35, (iq (a0.length : Int))), (36, (iq l7i36))]) mixed (fun a hs => hs.tab _ (allT_mem ⟨rfl, rfl, rfl, rfl, rfl, rfl, rfl, trivial⟩)) ?_
      refine ta_show (m := (memOf w0 Z0 [(oRow v0_0 94 (tyH us0) a0), (oBag 5 tyU8 us0 b0)] [(oBag 5 tyU8 us0 l7xb0), (oRow v0_0 94 (tyH us0) l7x0), (oBag 5 tyU8 j3us4 l7xb4), (oRow v2 94 (tyH j3us4) l7x4)] [])) (S := (tab [(0, v0_0), (3, (iq (a0.length : Int))), (4, v2), (6, (iq l7i36)), (7, (iq j14i7)), (35, (iq (a0.length : Int))), (36, (iq l7i36))])) ?_
      refine ta_step 13 _ [0, 1, 2, 3, 4, 5, 6, 7, 8, 9, 10, 11, 12] [56, 57, 58, 59, 60, 61, 62, 63, 64, 65, 66, 67, 68] [0, 1, 4, 5, 6, 7, 8, 9, 10, 11, 12] [14] [⟨0, 56, Unit, fun _ => { val := v0_0 }⟩, ⟨1, 57, Unit, fun _ => { val := (iq l7i36) }⟩, ⟨4, 60, Unit, fun _ => { val := v0_0 }⟩, ⟨5, 61, Unit, fun _ => { val := (iq j14i7) }⟩, ⟨6, 62, {p : Value // EltOf v0_0 p ((j14i7).toNat * Ty.size (tyH us0))}, fun p => { val := p.1 }⟩, ⟨7, 63, Value, fun (i : Value) => { val := i, fz := [(fDat (tyH us0) [i] u16)] }⟩, ⟨8, 64, Unit, fun _ => { val := v0_0 }⟩, ⟨9, 65, Unit, fun _ => { val := (iq l7i36) }⟩, ⟨10, 66, {p : Value // EltOf v0_0 p ((l7i36).toNat * Ty.size (tyH us0))}, fun p => { val := p.1 }⟩, ⟨11, 67, Value, fun (i : Value) => { val := i, fz := [(fDat (tyH us0) [i] u21)] }⟩, ⟨12, 68, {p : Value // EltOf v0_0 p ((l7i36).toNat * Ty.size (tyH us0))}, fun p => { val := p.1 }⟩] [⟨2, 58, Unit, fun _ => { val := v0_0 }⟩, ⟨3, 59, Unit, fun _ => { val := (iq j14i7) }⟩] rfl rfl rfl (by kernel_rfl) rfl rfl rfl ⟨⟨_, rfl, [], rfl, by
 intro X_ Y_ F_ K_ hK_
 refine al_show (m := Mem.plus (memOf w0 Z0 [(oRow v0_0 94 (tyH us0) a0), (oBag 5 tyU8 us0 b0)] [(oBag 5 tyU8 us0 l7xb0), (oRow v0_0 94 (tyH us0) l7x0), (oBag 5 tyU8 j3us4 l7xb4), (oRow v2 94 (tyH j3us4) l7x4)] []) X_ Y_) (S := over (tab [(0, v0_0), (3, (iq (a0.length : Int))), (4, v2), (6, (iq l7i36)), (7, (iq j14i7)), (35, (iq (a0.length : Int))), (36, (iq l7i36))]) F_) ?_
 refine al_mv rfl rfl ?_
 refine al_nil ?_
 exact fr_fin hK_ ()⟩, ⟨_, rfl, [], rfl, by
 intro X_ Y_ F_ K_ hK_
 refine al_show (m := Mem.plus (memOf w0 Z0 [(oRow v0_0 94 (tyH us0) a0), (oBag 5 tyU8 us0 b0)] [(oBag 5 tyU8 us0 l7xb0), (oRow v0_0 94 (tyH us0) l7x0), (oBag 5 tyU8 j3us4 l7xb4), (oRow v2 94 (tyH j3us4) l7x4)] []) X_ Y_) (S := over (tab [(0, v0_0), (3, (iq (a0.length : Int))), (4, v2), (6, (iq l7i36)), (7, (iq j14i7)), (35, (iq (a0.length : Int))), (36, (iq l7i36))]) F_) ?_
 refine al_mv rfl rfl ?_
 refine al_nil ?_
 exact fr_fin hK_ ()⟩, ⟨_, rfl, [], rfl, by
 intro X_ Y_ F_ K_ hK_
 refine al_show (m := Mem.plus (memOf w0 Z0 [(oRow v0_0 94 (tyH us0) a0), (oBag 5 tyU8 us0 b0)] [(oBag 5 tyU8 us0 l7xb0), (oRow v0_0 94 (tyH us0) l7x0), (oBag 5 tyU8 j3us4 l7xb4), (oRow v2 94 (tyH j3us4) l7x4)] []) X_ Y_) (S := over (tab [(0, v0_0), (3, (iq (a0.length : Int))), (4, v2), (6, (iq l7i36)), (7, (iq j14i7)), (35, (iq (a0.length : Int))), (36, (iq l7i36))]) F_) ?_
 refine al_mv rfl rfl ?_
 refine al_nil ?_
 exact fr_fin hK_ ()⟩, ⟨_, rfl, [], rfl, by
 intro X_ Y_ F_ K_ hK_
 refine al_show (m := Mem.plus (memOf w0 Z0 [(oRow v0_0 94 (tyH us0) a0), (oBag 5 tyU8 us0 b0)] [(oBag 5 tyU8 us0 l7xb0), (oRow v0_0 94 (tyH us0) l7x0), (oBag 5 tyU8 j3us4 l7xb4), (oRow v2 94 (tyH j3us4) l7x4)] []) X_ Y_) (S := over (tab [(0, v0_0), (3, (iq (a0.length : Int))), (4, v2), (6, (iq l7i36)), (7, (iq j14i7)), (35, (iq (a0.length : Int))), (36, (iq l7i36))]) F_) ?_
 refine al_mv rfl rfl ?_
 refine al_nil ?_
 exact fr_fin hK_ ()⟩, ⟨_, rfl, [], rfl, by
 intro X_ Y_ F_ K_ hK_
 refine al_show (m := Mem.plus (memOf w0 Z0 [(oRow v0_0 94 (tyH us0) a0), (oBag 5 tyU8 us0 b0)] [(oBag 5 tyU8 us0 l7xb0), (oRow v0_0 94 (tyH us0) l7x0), (oBag 5 tyU8 j3us4 l7xb4), (oRow v2 94 (tyH j3us4) l7x4)] []) X_ Y_) (S := over (tab [(0, v0_0), (3, (iq (a0.length : Int))), (4, v2), (6, (iq l7i36)), (7, (iq j14i7)), (35, (iq (a0.length : Int))), (36, (iq l7i36))]) F_) ?_
 refine al_mv rfl rfl ?_
 refine al_nil ?_
 exact fr_fin hK_ ()⟩, ⟨_, rfl, [], rfl, by
 intro X_ Y_ F_ K_ hK_
 refine al_show (m := Mem.plus (memOf w0 Z0 [(oRow v0_0 94 (tyH us0) a0), (oBag 5 tyU8 us0 b0)] [(oBag 5 tyU8 us0 l7xb0), (oRow v0_0 94 (tyH us0) l7x0), (oBag 5 tyU8 j3us4 l7xb4), (oRow v2 94 (tyH j3us4) l7x4)] []) X_ Y_) (S := over (tab [(0, v0_0), (3, (iq (a0.length : Int))), (4, v2), (6, (iq l7i36)), (7, (iq j14i7)), (35, (iq (a0.length : Int))), (36, (iq l7i36))]) F_) ?_
 refine al_mv rfl rfl ?_
 refine al_nil ?_
 exact fr_fin hK_ ()⟩, ⟨_, rfl, [4, 5], rfl, by
 intro _
 intro _
 intro X_ Y_ F_ K_ hK_
 refine al_show (m := Mem.plus (memOf w0 Z0 [(oRow v0_0 94 (tyH us0) a0), (oBag 5 tyU8 us0 b0)] [(oBag 5 tyU8 us0 l7xb0), (oRow v0_0 94 (tyH us0) l7x0), (oBag 5 tyU8 j3us4 l7xb4), (oRow v2 94 (tyH j3us4) l7x4)] []) X_ Y_) (S := over (put (put (tab [(0, v0_0), (3, (iq (a0.length : Int))), (4, v2), (6, (iq l7i36)), (7, (iq j14i7)), (35, (iq (a0.length : Int))), (36, (iq l7i36))]) 60 v0_0) 61 (iq j14i7)) F_) ?_
 refine al_idxR 1 (at_some hu17).1 (at_some hu17).2.1 rfl rfl rfl Try.underlying93 sz94 rfl (fun p18 hp19 => ?_)
 refine al_nil ?_
 exact fr_fin hK_ ⟨p18, hp19⟩⟩, ⟨_, rfl, [6], rfl, by
 rintro ⟨p18, hp19⟩
 intro X_ Y_ F_ K_ hK_
 refine al_show (m := Mem.plus (memOf w0 Z0 [(oRow v0_0 94 (tyH us0) a0), (oBag 5 tyU8 us0 b0)] [(oBag 5 tyU8 us0 l7xb0), (oRow v0_0 94 (tyH us0) l7x0), (oBag 5 tyU8 j3us4 l7xb4), (oRow v2 94 (tyH j3us4) l7x4)] []) X_ Y_) (S := over (put (tab [(0, v0_0), (3, (iq (a0.length : Int))), (4, v2), (6, (iq l7i36)), (7, (iq j14i7)), (35, (iq (a0.length : Int))), (36, (iq l7i36))]) 62 p18) F_) ?_
 refine al_loadR1 1 rfl hp19 (at_some hu17).2.2 rfl Try.underlying94 sz94 rfl rfl rfl (fun s20 => ?_)
 refine al_nil ?_
 exact fr_fin hK_ s20⟩, ⟨_, rfl, [], rfl, by
 intro X_ Y_ F_ K_ hK_
 refine al_show (m := Mem.plus (memOf w0 Z0 [(oRow v0_0 94 (tyH us0) a0), (oBag 5 tyU8 us0 b0)] [(oBag 5 tyU8 us0 l7xb0), (oRow v0_0 94 (tyH us0) l7x0), (oBag 5 tyU8 j3us4 l7xb4), (oRow v2 94 (tyH j3us4) l7x4)] []) X_ Y_) (S := over (tab [(0, v0_0), (3, (iq (a0.length : Int))), (4, v2), (6, (iq l7i36)), (7, (iq j14i7)), (35, (iq (a0.length : Int))), (36, (iq l7i36))]) F_) ?_
 refine al_mv rfl rfl ?_
 refine al_nil ?_
 exact fr_fin hK_ ()⟩, ⟨_, rfl, [], rfl, by
 intro X_ Y_ F_ K_ hK_
 refine al_show (m := Mem.plus (memOf w0 Z0 [(oRow v0_0 94 (tyH us0) a0), (oBag 5 tyU8 us0 b0)] [(oBag 5 tyU8 us0 l7xb0), (oRow v0_0 94 (tyH us0) l7x0), (oBag 5 tyU8 j3us4 l7xb4), (oRow v2 94 (tyH j3us4) l7x4)] []) X_ Y_) (S := over (tab [(0, v0_0), (3, (iq (a0.length : Int))), (4, v2), (6, (iq l7i36)), (7, (iq j14i7)), (35, (iq (a0.length : Int))), (36, (iq l7i36))]) F_) ?_
 refine al_mv rfl rfl ?_
 refine al_nil ?_
 exact fr_fin hK_ ()⟩, ⟨_, rfl, [8, 9], rfl, by
 intro _
 intro _
 intro X_ Y_ F_ K_ hK_
 refine al_show (m := Mem.plus (memOf w0 Z0 [(oRow v0_0 94 (tyH us0) a0), (oBag 5 tyU8 us0 b0)] [(oBag 5 tyU8 us0 l7xb0), (oRow v0_0 94 (tyH us0) l7x0), (oBag 5 tyU8 j3us4 l7xb4), (oRow v2 94 (tyH j3us4) l7x4)] []) X_ Y_) (S := over (put (put (tab [(0, v0_0), (3, (iq (a0.length : Int))), (4, v2), (6, (iq l7i36)), (7, (iq j14i7)), (35, (iq (a0.length : Int))), (36, (iq l7i36))]) 64 v0_0) 65 (iq l7i36)) F_) ?_
 refine al_idxR 1 (at_some hu22).1 (at_some hu22).2.1 rfl rfl rfl Try.underlying93 sz94 rfl (fun p23 hp24 => ?_)
 refine al_nil ?_
 exact fr_fin hK_ ⟨p23, hp24⟩⟩, ⟨_, rfl, [10], rfl, by
 rintro ⟨p23, hp24⟩
 intro X_ Y_ F_ K_ hK_
 refine al_show (m := Mem.plus (memOf w0 Z0 [(oRow v0_0 94 (tyH us0) a0), (oBag 5 tyU8 us0 b0)] [(oBag 5 tyU8 us0 l7xb0), (oRow v0_0 94 (tyH us0) l7x0), (oBag 5 tyU8 j3us4 l7xb4), (oRow v2 94 (tyH j3us4) l7x4)] []) X_ Y_) (S := over (put (tab [(0, v0_0), (3, (iq (a0.length : Int))), (4, v2), (6, (iq l7i36)), (7, (iq j14i7)), (35, (iq (a0.length : Int))), (36, (iq l7i36))]) 66 p23) F_) ?_
 refine al_loadR1 1 rfl hp24 (at_some hu22).2.2 rfl Try.underlying94 sz94 rfl rfl rfl (fun s25 => ?_)
 refine al_nil ?_
 exact fr_fin hK_ s25⟩, ⟨_, rfl, [0, 1, 4, 5, 6, 7, 11], rfl, by
 intro _
 intro _
 intro _
 intro _
 rintro ⟨p18, hp19⟩
 intro s20
 intro s25
 intro X_ Y_ F_ K_ hK_
 refine al_show (m := Mem.plus (memOf w0 Z0 [(oRow v0_0 94 (tyH us0) a0), (oBag 5 tyU8 us0 b0)] [(oBag 5 tyU8 us0 l7xb0), (oRow v0_0 94 (tyH us0) l7x0), (oBag 5 tyU8 j3us4 l7xb4), (oRow v2 94 (tyH j3us4) l7x4)] [(fDat (tyH us0) [s25] u21), (fDat (tyH us0) [s20] u16)]) X_ Y_) (S := over (put (put (put (put (put (put (put (tab [(0, v0_0), (3, (iq (a0.length : Int))), (4, v2), (6, (iq l7i36)), (7, (iq j14i7)), (35, (iq (a0.length : Int))), (36, (iq l7i36))]) 56 v0_0) 57 (iq l7i36)) 60 v0_0) 61 (iq j14i7)) 62 p18) 63 s20) 67 s25) F_) ?_
 refine al_idxR 1 (at_some hu27).1 (at_some hu27).2.1 rfl rfl rfl Try.underlying93 sz94 rfl (fun p28 hp29 => ?_)
 refine al_nil ?_
 exact fr_fin hK_ ⟨p28, hp29⟩⟩, trivial⟩ ?_
      intro _
      intro _
      intro _
      intro _
      rintro ⟨p18, hp19⟩
      intro s20
      intro _
      intro _
      rintro ⟨p23, hp24⟩
      intro s25
      rintro ⟨p28, hp29⟩
      intro X_ Y_ F_ K_ hK_
      refine al_show (m := Mem.plus (memOf w0 Z0 [(oRow v0_0 94 (tyH us0) a0), (oBag 5 tyU8 us0 b0)] [(oBag 5 tyU8 us0 l7xb0), (oRow v0_0 94 (tyH us0) l7x0), (oBag 5 tyU8 j3us4 l7xb4), (oRow v2 94 (tyH j3us4) l7x4)] [(fDat (tyH us0) [s25] u21), (fDat (tyH us0) [s20] u16)]) X_ Y_) (S := over (put (put (put (put (put (put (put (put (put (put (put (tab [(0, v0_0), (3, (iq (a0.length : Int))), (4, v2), (6, (iq l7i36)), (7, (iq j14i7)), (35, (iq (a0.length : Int))), (36, (iq l7i36))]) 56 v0_0) 57 (iq l7i36)) 60 v0_0) 61 (iq j14i7)) 62 p18) 63 s20) 64 v0_0) 65 (iq l7i36)) 66 p23) 67 s25) 68 p28) F_) ?_
      refine al_storeR (k := (l7i36).toNat) (x := u16) (vs := [s20]) 1 rfl hp29 (idx_lt hu27) rfl rfl (cv_fzH 1 rfl) (fun hm => fz_at (i := 1) hm rfl) sz94 rfl ?_
      refine al_nil ?_
      obtain ⟨u30, hu31, h⟩ := opt_some h
      refine aq_show (m := Mem.plus (memOf w0 Z0 [(oRow v0_0 94 (tyH us0) a0), (oBag 5 tyU8 us0 b0)] [(oBag 5 tyU8 us0 l7xb0), (oRow v0_0 94 (tyH us0) (l7x0.set (l7i36).toNat u16)), (oBag 5 tyU8 j3us4 l7xb4), (oRow v2 94 (tyH j3us4) l7x4)] [(fDat (tyH us0) [s25] u21), (fDat (tyH us0) [s20] u16)]) X_ Y_) ?_
      refine aq_next hK_ [0, 1, 2, 3] [0] [(0, v0_0), (3, (iq (a0.length : Int))), (4, v2), (6, (iq l7i36)), (7, (iq j14i7)), (35, (iq (a0.length : Int))), (36, (iq l7i36)), (67, s25)] [58, 59] [⟨14, 69, {p : Value // EltOf v0_0 p ((j14i7).toNat * Ty.size (tyH us0))}, fun p => { val := p.1 }⟩] rfl rfl (by decide) rfl ⟨rfl, rfl, rfl, rfl, rfl, rfl, rfl, rfl, trivial⟩ ⟨rfl, rfl, trivial⟩ ?_
      clear hK_ K_ F_ X_ Y_
      refine ta_show (m := (memOf w0 Z0 [(oRow v0_0 94 (tyH us0) a0), (oBag 5 tyU8 us0 b0)] [(oBag 5 tyU8 us0 l7xb0), (oRow v0_0 94 (tyH us0) (l7x0.set (l7i36).toNat u16)), (oBag 5 tyU8 j3us4 l7xb4), (oRow v2 94 (tyH j3us4) l7x4)] [(fDat (tyH us0) [s25] u21)])) (S := (tab [(0, v0_0), (3, (iq (a0.length : Int))), (4, v2), (6, (iq l7i36)), (7, (iq j14i7)), (35, (iq (a0.length : Int))), (36, (iq l7i36)), (67, s25)])) ?_
      refine ta_step 15 _ [2, 3, 14] [58, 59, 69] [2, 3, 14] [] [⟨2, 58, Unit, fun _ => { val := v0_0 }⟩, ⟨3, 59, Unit, fun _ => { val := (iq j14i7) }⟩, ⟨14, 69, {p : Value // EltOf v0_0 p ((j14i7).toNat * Ty.size (tyH us0))}, fun p => { val := p.1 }⟩] [] rfl rfl rfl (by kernel_rfl) rfl rfl rfl ⟨⟨_, rfl, [], rfl, by
 intro X_ Y_ F_ K_ hK_
 refine al_show (m := Mem.plus (memOf w0 Z0 [(oRow v0_0 94 (tyH us0) a0), (oBag 5 tyU8 us0 b0)] [(oBag 5 tyU8 us0 l7xb0), (oRow v0_0 94 (tyH us0) (l7x0.set (l7i36).toNat u16)), (oBag 5 tyU8 j3us4 l7xb4), (oRow v2 94 (tyH j3us4) l7x4)] [(fDat (tyH us0) [s25] u21)]) X_ Y_) (S := over (tab [(0, v0_0), (3, (iq (a0.length : Int))), (4, v2), (6, (iq l7i36)), (7, (iq j14i7)), (35, (iq (a0.length : Int))), (36, (iq l7i36)), (67, s25)]) F_) ?_
 refine al_mv rfl rfl ?_
 refine al_nil ?_
 exact fr_fin hK_ ()⟩, ⟨_, rfl, [], rfl, by
 intro X_ Y_ F_ K_ hK_
 refine al_show (m := Mem.plus (memOf w0 Z0 [(oRow v0_0 94 (tyH us0) a0), (oBag 5 tyU8 us0 b0)] [(oBag 5 tyU8 us0 l7xb0), (oRow v0_0 94 (tyH us0) (l7x0.set (l7i36).toNat u16)), (oBag 5 tyU8 j3us4 l7xb4), (oRow v2 94 (tyH j3us4) l7x4)] [(fDat (tyH us0) [s25] u21)]) X_ Y_) (S := over (tab [(0, v0_0), (3, (iq (a0.length : Int))), (4, v2), (6, (iq l7i36)), (7, (iq j14i7)), (35, (iq (a0.length : Int))), (36, (iq l7i36)), (67, s25)]) F_) ?_
 refine al_mv rfl rfl ?_
 refine al_nil ?_
 exact fr_fin hK_ ()⟩, ⟨_, rfl, [0, 1], rfl, by
 intro _
 intro _
 intro X_ Y_ F_ K_ hK_
 refine al_show (m := Mem.plus (memOf w0 Z0 [(oRow v0_0 94 (tyH us0) a0), (oBag 5 tyU8 us0 b0)] [(oBag 5 tyU8 us0 l7xb0), (oRow v0_0 94 (tyH us0) (l7x0.set (l7i36).toNat u16)), (oBag 5 tyU8 j3us4 l7xb4), (oRow v2 94 (tyH j3us4) l7x4)] [(fDat (tyH us0) [s25] u21)]) X_ Y_) (S := over (put (put (tab [(0, v0_0), (3, (iq (a0.length : Int))), (4, v2), (6, (iq l7i36)), (7, (iq j14i7)), (35, (iq (a0.length : Int))), (36, (iq l7i36)), (67, s25)]) 58 v0_0) 59 (iq j14i7)) F_) ?_
 refine al_idxR 1 (at_some hu31).1 (at_some hu31).2.1 rfl rfl rfl Try.underlying93 sz94 rfl (fun p32 hp33 => ?_)
 refine al_nil ?_
 exact fr_fin hK_ ⟨p32, hp33⟩⟩, trivial⟩ ?_
      intro _
      intro _
      rintro ⟨p32, hp33⟩
      intro X_ Y_ F_ K_ hK_
      refine al_show (m := Mem.plus (memOf w0 Z0 [(oRow v0_0 94 (tyH us0) a0), (oBag 5 tyU8 us0 b0)] [(oBag 5 tyU8 us0 l7xb0), (oRow v0_0 94 (tyH us0) (l7x0.set (l7i36).toNat u16)), (oBag 5 tyU8 j3us4 l7xb4), (oRow v2 94 (tyH j3us4) l7x4)] [(fDat (tyH us0) [s25] u21)]) X_ Y_) (S := over (put (put (put (tab [(0, v0_0), (3, (iq (a0.length : Int))), (4, v2), (6, (iq l7i36)), (7, (iq j14i7)), (35, (iq (a0.length : Int))), (36, (iq l7i36)), (67, s25)]) 58 v0_0) 59 (iq j14i7)) 69 p32) F_) ?_
      refine al_storeR (k := (j14i7).toNat) (x := u21) (vs := [s25]) 1 rfl hp33 (idx_lt hu31) rfl rfl (cv_fzH 0 rfl) (fun hm => fz_at (i := 0) hm rfl) sz94 rfl ?_
      refine al_nil ?_
      refine aq_show (m := Mem.plus (memOf w0 Z0 [(oRow v0_0 94 (tyH us0) a0), (oBag 5 tyU8 us0 b0)] [(oBag 5 tyU8 us0 l7xb0), (oRow v0_0 94 (tyH us0) ((l7x0.set (l7i36).toNat u16).set (j14i7).toNat u21)), (oBag 5 tyU8 j3us4 l7xb4), (oRow v2 94 (tyH j3us4) l7x4)] [(fDat (tyH us0) [s25] u21)]) X_ Y_) ?_
      refine aq_next hK_ [0, 1, 2, 3] [0] [(0, v0_0), (3, (iq (a0.length : Int))), (4, v2), (6, (iq l7i36)), (7, (iq j14i7)), (35, (iq (a0.length : Int))), (36, (iq l7i36))] [] [] rfl rfl (by decide) rfl ⟨rfl, rfl, rfl, rfl, rfl, rfl, rfl, trivial⟩ trivial ?_
      clear hK_ K_ F_ X_ Y_
      refine ta_show (m := (memOf w0 Z0 [(oRow v0_0 94 (tyH us0) a0), (oBag 5 tyU8 us0 b0)] [(oBag 5 tyU8 us0 l7xb0), (oRow v0_0 94 (tyH us0) ((l7x0.set (l7i36).toNat u16).set (j14i7).toNat u21)), (oBag 5 tyU8 j3us4 l7xb4), (oRow v2 94 (tyH j3us4) l7x4)] [(fDat (tyH us0) [s25] u21)])) (S := (tab [(0, v0_0), (3, (iq (a0.length : Int))), (4, v2), (6, (iq l7i36)), (7, (iq j14i7)), (35, (iq (a0.length : Int))), (36, (iq l7i36))])) ?_
      refine ta_end [] [] rfl rfl (by kernel_rfl) rfl trivial ?_
      refine aq_show (m := (memOf w0 Z0 [(oRow v0_0 94 (tyH us0) a0), (oBag 5 tyU8 us0 b0)] [(oBag 5 tyU8 us0 l7xb0), (oRow v0_0 94 (tyH us0) ((l7x0.set (l7i36).toNat u16).set (j14i7).toNat u21)), (oBag 5 tyU8 j3us4 l7xb4), (oRow v2 94 (tyH j3us4) l7x4)] [(fDat (tyH us0) [s25] u21)])) (S := (tab [(0, v0_0), (3, (iq (a0.length : Int))), (4, v2), (6, (iq l7i36)), (7, (iq j14i7)), (35, (iq (a0.length : Int))), (36, (iq l7i36))])) ?_
      refine aq_then ?_
      refine aw_seq ?_
      obtain ⟨u34, hu35, h⟩ := opt_some h
      obtain ⟨u39, hu40, h⟩ := opt_some h
      obtain ⟨u44, hu45, h⟩ := opt_some h
      refine aw_region_open [⟨0, 70, Unit, fun _ => { val := v2 }⟩, ⟨1, 71, Unit, fun _ => { val := (iq l7i36) }⟩, ⟨2, 72, Unit, fun _ => { val := v2 }⟩, ⟨3, 73, Unit, fun _ => { val := (iq j14i7) }⟩, ⟨4, 74, Unit, fun _ => { val := v2 }⟩, ⟨5, 75, Unit, fun _ => { val := (iq j14i7) }⟩, ⟨6, 76, {p : Value // EltOf v2 p ((j14i7).toNat * Ty.size (tyH j3us4))}, fun p => { val := p.1 }⟩, ⟨7, 77, Value, fun (i : Value) => { val := i, fz := [(fDat (tyH j3us4) [i] u34)] }⟩, ⟨8, 78, Unit, fun _ => { val := v2 }⟩, ⟨9, 79, Unit, fun _ => { val := (iq l7i36) }⟩, ⟨10, 80, {p : Value // EltOf v2 p ((l7i36).toNat * Ty.size (tyH j3us4))}, fun p => { val := p.1 }⟩, ⟨11, 81, Value, fun (i : Value) => { val := i, fz := [(fDat (tyH j3us4) [i] u39)] }⟩, ⟨12, 82, {p : Value // EltOf v2 p ((l7i36).toNat * Ty.size (tyH j3us4))}, fun p => { val := p.1 }⟩] (tab [(0, v0_0), (3, (iq (a0.length : Int))), (4, v2), (6, (iq l7i36)), (7, (iq j14i7)), (35, (iq (a0.length : Int))), (36, (iq l7i36))]) mixed (fun a hs => hs.tab _ (allT_mem ⟨rfl, rfl, rfl, rfl, rfl, rfl, rfl, trivial⟩)) ?_
      refine ta_show (m := (memOf w0 Z0 [(oRow v0_0 94 (tyH us0) a0), (oBag 5 tyU8 us0 b0)] [(oBag 5 tyU8 us0 l7xb0), (oRow v0_0 94 (tyH us0) ((l7x0.set (l7i36).toNat u16).set (j14i7).toNat u21)), (oBag 5 tyU8 j3us4 l7xb4), (oRow v2 94 (tyH j3us4) l7x4)] [(fDat (tyH us0) [s25] u21)])) (S := (tab [(0, v0_0), (3, (iq (a0.length : Int))), (4, v2), (6, (iq l7i36)), (7, (iq j14i7)), (35, (iq (a0.length : Int))), (36, (iq l7i36))])) ?_
      refine ta_step 13 _ [0, 1, 2, 3, 4, 5, 6, 7, 8, 9, 10, 11, 12] [70, 71, 72, 73, 74, 75, 76, 77, 78, 79, 80, 81, 82] [0, 1, 4, 5, 6, 7, 8, 9, 10, 11, 12] [14] [⟨0, 70, Unit, fun _ => { val := v2 }⟩, ⟨1, 71, Unit, fun _ => { val := (iq l7i36) }⟩, ⟨4, 74, Unit, fun _ => { val := v2 }⟩, ⟨5, 75, Unit, fun _ => { val := (iq j14i7) }⟩, ⟨6, 76, {p : Value // EltOf v2 p ((j14i7).toNat * Ty.size (tyH j3us4))}, fun p => { val := p.1 }⟩, ⟨7, 77, Value, fun (i : Value) => { val := i, fz := [(fDat (tyH j3us4) [i] u34)] }⟩, ⟨8, 78, Unit, fun _ => { val := v2 }⟩, ⟨9, 79, Unit, fun _ => { val := (iq l7i36) }⟩, ⟨10, 80, {p : Value // EltOf v2 p ((l7i36).toNat * Ty.size (tyH j3us4))}, fun p => { val := p.1 }⟩, ⟨11, 81, Value, fun (i : Value) => { val := i, fz := [(fDat (tyH j3us4) [i] u39)] }⟩, ⟨12, 82, {p : Value // EltOf v2 p ((l7i36).toNat * Ty.size (tyH j3us4))}, fun p => { val := p.1 }⟩] [⟨2, 72, Unit, fun _ => { val := v2 }⟩, ⟨3, 73, Unit, fun _ => { val := (iq j14i7) }⟩] rfl rfl rfl (by kernel_rfl) rfl rfl rfl ⟨⟨_, rfl, [], rfl, by
 intro X_ Y_ F_ K_ hK_
 refine al_show (m := Mem.plus (memOf w0 Z0 [(oRow v0_0 94 (tyH us0) a0), (oBag 5 tyU8 us0 b0)] [(oBag 5 tyU8 us0 l7xb0), (oRow v0_0 94 (tyH us0) ((l7x0.set (l7i36).toNat u16).set (j14i7).toNat u21)), (oBag 5 tyU8 j3us4 l7xb4), (oRow v2 94 (tyH j3us4) l7x4)] [(fDat (tyH us0) [s25] u21)]) X_ Y_) (S := over (tab [(0, v0_0), (3, (iq (a0.length : Int))), (4, v2), (6, (iq l7i36)), (7, (iq j14i7)), (35, (iq (a0.length : Int))), (36, (iq l7i36))]) F_) ?_
 refine al_mv rfl rfl ?_
 refine al_nil ?_
 exact fr_fin hK_ ()⟩, ⟨_, rfl, [], rfl, by
 intro X_ Y_ F_ K_ hK_
 refine al_show (m := Mem.plus (memOf w0 Z0 [(oRow v0_0 94 (tyH us0) a0), (oBag 5 tyU8 us0 b0)] [(oBag 5 tyU8 us0 l7xb0), (oRow v0_0 94 (tyH us0) ((l7x0.set (l7i36).toNat u16).set (j14i7).toNat u21)), (oBag 5 tyU8 j3us4 l7xb4), (oRow v2 94 (tyH j3us4) l7x4)] [(fDat (tyH us0) [s25] u21)]) X_ Y_) (S := over (tab [(0, v0_0), (3, (iq (a0.length : Int))), (4, v2), (6, (iq l7i36)), (7, (iq j14i7)), (35, (iq (a0.length : Int))), (36, (iq l7i36))]) F_) ?_
 refine al_mv rfl rfl ?_
 refine al_nil ?_
 exact fr_fin hK_ ()⟩, ⟨_, rfl, [], rfl, by
 intro X_ Y_ F_ K_ hK_
 refine al_show (m := Mem.plus (memOf w0 Z0 [(oRow v0_0 94 (tyH us0) a0), (oBag 5 tyU8 us0 b0)] [(oBag 5 tyU8 us0 l7xb0), (oRow v0_0 94 (tyH us0) ((l7x0.set (l7i36).toNat u16).set (j14i7).toNat u21)), (oBag 5 tyU8 j3us4 l7xb4), (oRow v2 94 (tyH j3us4) l7x4)] [(fDat (tyH us0) [s25] u21)]) X_ Y_) (S := over (tab [(0, v0_0), (3, (iq (a0.length : Int))), (4, v2), (6, (iq l7i36)), (7, (iq j14i7)), (35, (iq (a0.length : Int))), (36, (iq l7i36))]) F_) ?_
 refine al_mv rfl rfl ?_
 refine al_nil ?_
 exact fr_fin hK_ ()⟩, ⟨_, rfl, [], rfl, by
 intro X_ Y_ F_ K_ hK_
 refine al_show (m := Mem.plus (memOf w0 Z0 [(oRow v0_0 94 (tyH us0) a0), (oBag 5 tyU8 us0 b0)] [(oBag 5 tyU8 us0 l7xb0), (oRow v0_0 94 (tyH us0) ((l7x0.set (l7i36).toNat u16).set (j14i7).toNat u21)), (oBag 5 tyU8 j3us4 l7xb4), (oRow v2 94 (tyH j3us4) l7x4)] [(fDat (tyH us0) [s25] u21)]) X_ Y_) (S := over (tab [(0, v0_0), (3, (iq (a0.length : Int))), (4, v2), (6, (iq l7i36)), (7, (iq j14i7)), (35, (iq (a0.length : Int))), (36, (iq l7i36))]) F_) ?_
 refine al_mv rfl rfl ?_
 refine al_nil ?_
 exact fr_fin hK_ ()⟩, ⟨_, rfl, [], rfl, by
 intro X_ Y_ F_ K_ hK_
 refine al_show (m := Mem.plus (memOf w0 Z0 [(oRow v0_0 94 (tyH us0) a0), (oBag 5 tyU8 us0 b0)] [(oBag 5 tyU8 us0 l7xb0), (oRow v0_0 94 (tyH us0) ((l7x0.set (l7i36).toNat u16).set (j14i7).toNat u21)), (oBag 5 tyU8 j3us4 l7xb4), (oRow v2 94 (tyH j3us4) l7x4)] [(fDat (tyH us0) [s25] u21)]) X_ Y_) (S := over (tab [(0, v0_0), (3, (iq (a0.length : Int))), (4, v2), (6, (iq l7i36)), (7, (iq j14i7)), (35, (iq (a0.length : Int))), (36, (iq l7i36))]) F_) ?_
 refine al_mv rfl rfl ?_
 refine al_nil ?_
 exact fr_fin hK_ ()⟩, ⟨_, rfl, [], rfl, by
 intro X_ Y_ F_ K_ hK_
 refine al_show (m := Mem.plus (memOf w0 Z0 [(oRow v0_0 94 (tyH us0) a0), (oBag 5 tyU8 us0 b0)] [(oBag 5 tyU8 us0 l7xb0), (oRow v0_0 94 (tyH us0) ((l7x0.set (l7i36).toNat u16).set (j14i7).toNat u21)), (oBag 5 tyU8 j3us4 l7xb4), (oRow v2 94 (tyH j3us4) l7x4)] [(fDat (tyH us0) [s25] u21)]) X_ Y_) (S := over (tab [(0, v0_0), (3, (iq (a0.length : Int))), (4, v2), (6, (iq l7i36)), (7, (iq j14i7)), (35, (iq (a0.length : Int))), (36, (iq l7i36))]) F_) ?_
 refine al_mv rfl rfl ?_
 refine al_nil ?_
 exact fr_fin hK_ ()⟩, ⟨_, rfl, [4, 5], rfl, by
 intro _
 intro _
 intro X_ Y_ F_ K_ hK_
 refine al_show (m := Mem.plus (memOf w0 Z0 [(oRow v0_0 94 (tyH us0) a0), (oBag 5 tyU8 us0 b0)] [(oBag 5 tyU8 us0 l7xb0), (oRow v0_0 94 (tyH us0) ((l7x0.set (l7i36).toNat u16).set (j14i7).toNat u21)), (oBag 5 tyU8 j3us4 l7xb4), (oRow v2 94 (tyH j3us4) l7x4)] [(fDat (tyH us0) [s25] u21)]) X_ Y_) (S := over (put (put (tab [(0, v0_0), (3, (iq (a0.length : Int))), (4, v2), (6, (iq l7i36)), (7, (iq j14i7)), (35, (iq (a0.length : Int))), (36, (iq l7i36))]) 74 v2) 75 (iq j14i7)) F_) ?_
 refine al_idxR 3 (at_some hu35).1 (at_some hu35).2.1 rfl rfl rfl Try.underlying93 sz94 rfl (fun p36 hp37 => ?_)
 refine al_nil ?_
 exact fr_fin hK_ ⟨p36, hp37⟩⟩, ⟨_, rfl, [6], rfl, by
 rintro ⟨p36, hp37⟩
 intro X_ Y_ F_ K_ hK_
 refine al_show (m := Mem.plus (memOf w0 Z0 [(oRow v0_0 94 (tyH us0) a0), (oBag 5 tyU8 us0 b0)] [(oBag 5 tyU8 us0 l7xb0), (oRow v0_0 94 (tyH us0) ((l7x0.set (l7i36).toNat u16).set (j14i7).toNat u21)), (oBag 5 tyU8 j3us4 l7xb4), (oRow v2 94 (tyH j3us4) l7x4)] [(fDat (tyH us0) [s25] u21)]) X_ Y_) (S := over (put (tab [(0, v0_0), (3, (iq (a0.length : Int))), (4, v2), (6, (iq l7i36)), (7, (iq j14i7)), (35, (iq (a0.length : Int))), (36, (iq l7i36))]) 76 p36) F_) ?_
 refine al_loadR1 3 rfl hp37 (at_some hu35).2.2 rfl Try.underlying94 sz94 rfl rfl rfl (fun s38 => ?_)
 refine al_nil ?_
 exact fr_fin hK_ s38⟩, ⟨_, rfl, [], rfl, by
 intro X_ Y_ F_ K_ hK_
 refine al_show (m := Mem.plus (memOf w0 Z0 [(oRow v0_0 94 (tyH us0) a0), (oBag 5 tyU8 us0 b0)] [(oBag 5 tyU8 us0 l7xb0), (oRow v0_0 94 (tyH us0) ((l7x0.set (l7i36).toNat u16).set (j14i7).toNat u21)), (oBag 5 tyU8 j3us4 l7xb4), (oRow v2 94 (tyH j3us4) l7x4)] [(fDat (tyH us0) [s25] u21)]) X_ Y_) (S := over (tab [(0, v0_0), (3, (iq (a0.length : Int))), (4, v2), (6, (iq l7i36)), (7, (iq j14i7)), (35, (iq (a0.length : Int))), (36, (iq l7i36))]) F_) ?_
 refine al_mv rfl rfl ?_
 refine al_nil ?_
 exact fr_fin hK_ ()⟩, ⟨_, rfl, [], rfl, by
 intro X_ Y_ F_ K_ hK_
 refine al_show (m := Mem.plus (memOf w0 Z0 [(oRow v0_0 94 (tyH us0) a0), (oBag 5 tyU8 us0 b0)] [(oBag 5 tyU8 us0 l7xb0), (oRow v0_0 94 (tyH us0) ((l7x0.set (l7i36).toNat u16).set (j14i7).toNat u21)), (oBag 5 tyU8 j3us4 l7xb4), (oRow v2 94 (tyH j3us4) l7x4)] [(fDat (tyH us0) [s25] u21)]) X_ Y_) (S := over (tab [(0, v0_0), (3, (iq (a0.length : Int))), (4, v2), (6, (iq l7i36)), (7, (iq j14i7)), (35, (iq (a0.length : Int))), (36, (iq l7i36))]) F_) ?_
 refine al_mv rfl rfl ?_
 refine al_nil ?_
 exact fr_fin hK_ ()⟩, ⟨_, rfl, [8, 9], rfl, by
 intro _
 intro _
 intro X_ Y_ F_ K_ hK_
 refine al_show (m := Mem.plus (memOf w0 Z0 [(oRow v0_0 94 (tyH us0) a0), (oBag 5 tyU8 us0 b0)] [(oBag 5 tyU8 us0 l7xb0), (oRow v0_0 94 (tyH us0) ((l7x0.set (l7i36).toNat u16).set (j14i7).toNat u21)), (oBag 5 tyU8 j3us4 l7xb4), (oRow v2 94 (tyH j3us4) l7x4)] [(fDat (tyH us0) [s25] u21)]) X_ Y_) (S := over (put (put (tab [(0, v0_0), (3, (iq (a0.length : Int))), (4, v2), (6, (iq l7i36)), (7, (iq j14i7)), (35, (iq (a0.length : Int))), (36, (iq l7i36))]) 78 v2) 79 (iq l7i36)) F_) ?_
 refine al_idxR 3 (at_some hu40).1 (at_some hu40).2.1 rfl rfl rfl Try.underlying93 sz94 rfl (fun p41 hp42 => ?_)
 refine al_nil ?_
 exact fr_fin hK_ ⟨p41, hp42⟩⟩, ⟨_, rfl, [10], rfl, by
 rintro ⟨p41, hp42⟩
 intro X_ Y_ F_ K_ hK_
 refine al_show (m := Mem.plus (memOf w0 Z0 [(oRow v0_0 94 (tyH us0) a0), (oBag 5 tyU8 us0 b0)] [(oBag 5 tyU8 us0 l7xb0), (oRow v0_0 94 (tyH us0) ((l7x0.set (l7i36).toNat u16).set (j14i7).toNat u21)), (oBag 5 tyU8 j3us4 l7xb4), (oRow v2 94 (tyH j3us4) l7x4)] [(fDat (tyH us0) [s25] u21)]) X_ Y_) (S := over (put (tab [(0, v0_0), (3, (iq (a0.length : Int))), (4, v2), (6, (iq l7i36)), (7, (iq j14i7)), (35, (iq (a0.length : Int))), (36, (iq l7i36))]) 80 p41) F_) ?_
 refine al_loadR1 3 rfl hp42 (at_some hu40).2.2 rfl Try.underlying94 sz94 rfl rfl rfl (fun s43 => ?_)
 refine al_nil ?_
 exact fr_fin hK_ s43⟩, ⟨_, rfl, [0, 1, 4, 5, 6, 7, 11], rfl, by
 intro _
 intro _
 intro _
 intro _
 rintro ⟨p36, hp37⟩
 intro s38
 intro s43
 intro X_ Y_ F_ K_ hK_
 refine al_show (m := Mem.plus (memOf w0 Z0 [(oRow v0_0 94 (tyH us0) a0), (oBag 5 tyU8 us0 b0)] [(oBag 5 tyU8 us0 l7xb0), (oRow v0_0 94 (tyH us0) ((l7x0.set (l7i36).toNat u16).set (j14i7).toNat u21)), (oBag 5 tyU8 j3us4 l7xb4), (oRow v2 94 (tyH j3us4) l7x4)] [(fDat (tyH j3us4) [s43] u39), (fDat (tyH j3us4) [s38] u34), (fDat (tyH us0) [s25] u21)]) X_ Y_) (S := over (put (put (put (put (put (put (put (tab [(0, v0_0), (3, (iq (a0.length : Int))), (4, v2), (6, (iq l7i36)), (7, (iq j14i7)), (35, (iq (a0.length : Int))), (36, (iq l7i36))]) 70 v2) 71 (iq l7i36)) 74 v2) 75 (iq j14i7)) 76 p36) 77 s38) 81 s43) F_) ?_
 refine al_idxR 3 (at_some hu45).1 (at_some hu45).2.1 rfl rfl rfl Try.underlying93 sz94 rfl (fun p46 hp47 => ?_)
 refine al_nil ?_
 exact fr_fin hK_ ⟨p46, hp47⟩⟩, trivial⟩ ?_
      intro _
      intro _
      intro _
      intro _
      rintro ⟨p36, hp37⟩
      intro s38
      intro _
      intro _
      rintro ⟨p41, hp42⟩
      intro s43
      rintro ⟨p46, hp47⟩
      intro X_ Y_ F_ K_ hK_
      refine al_show (m := Mem.plus (memOf w0 Z0 [(oRow v0_0 94 (tyH us0) a0), (oBag 5 tyU8 us0 b0)] [(oBag 5 tyU8 us0 l7xb0), (oRow v0_0 94 (tyH us0) ((l7x0.set (l7i36).toNat u16).set (j14i7).toNat u21)), (oBag 5 tyU8 j3us4 l7xb4), (oRow v2 94 (tyH j3us4) l7x4)] [(fDat (tyH j3us4) [s43] u39), (fDat (tyH j3us4) [s38] u34), (fDat (tyH us0) [s25] u21)]) X_ Y_) (S := over (put (put (put (put (put (put (put (put (put (put (put (tab [(0, v0_0), (3, (iq (a0.length : Int))), (4, v2), (6, (iq l7i36)), (7, (iq j14i7)), (35, (iq (a0.length : Int))), (36, (iq l7i36))]) 70 v2) 71 (iq l7i36)) 74 v2) 75 (iq j14i7)) 76 p36) 77 s38) 78 v2) 79 (iq l7i36)) 80 p41) 81 s43) 82 p46) F_) ?_
      refine al_storeR (k := (l7i36).toNat) (x := u34) (vs := [s38]) 3 rfl hp47 (idx_lt hu45) rfl rfl (cv_fzH 1 rfl) (fun hm => fz_at (i := 1) hm rfl) sz94 rfl ?_
      refine al_nil ?_
      obtain ⟨u48, hu49, h⟩ := opt_some h
      refine aq_show (m := Mem.plus (memOf w0 Z0 [(oRow v0_0 94 (tyH us0) a0), (oBag 5 tyU8 us0 b0)] [(oBag 5 tyU8 us0 l7xb0), (oRow v0_0 94 (tyH us0) ((l7x0.set (l7i36).toNat u16).set (j14i7).toNat u21)), (oBag 5 tyU8 j3us4 l7xb4), (oRow v2 94 (tyH j3us4) (l7x4.set (l7i36).toNat u34))] [(fDat (tyH j3us4) [s43] u39), (fDat (tyH j3us4) [s38] u34), (fDat (tyH us0) [s25] u21)]) X_ Y_) ?_
      refine aq_next hK_ [0, 1, 2, 3] [0, 2] [(0, v0_0), (3, (iq (a0.length : Int))), (4, v2), (6, (iq l7i36)), (7, (iq j14i7)), (35, (iq (a0.length : Int))), (36, (iq l7i36)), (81, s43)] [72, 73] [⟨14, 83, {p : Value // EltOf v2 p ((j14i7).toNat * Ty.size (tyH j3us4))}, fun p => { val := p.1 }⟩] rfl rfl (by decide) rfl ⟨rfl, rfl, rfl, rfl, rfl, rfl, rfl, rfl, trivial⟩ ⟨rfl, rfl, trivial⟩ ?_
      clear hK_ K_ F_ X_ Y_
      refine ta_show (m := (memOf w0 Z0 [(oRow v0_0 94 (tyH us0) a0), (oBag 5 tyU8 us0 b0)] [(oBag 5 tyU8 us0 l7xb0), (oRow v0_0 94 (tyH us0) ((l7x0.set (l7i36).toNat u16).set (j14i7).toNat u21)), (oBag 5 tyU8 j3us4 l7xb4), (oRow v2 94 (tyH j3us4) (l7x4.set (l7i36).toNat u34))] [(fDat (tyH j3us4) [s43] u39), (fDat (tyH us0) [s25] u21)])) (S := (tab [(0, v0_0), (3, (iq (a0.length : Int))), (4, v2), (6, (iq l7i36)), (7, (iq j14i7)), (35, (iq (a0.length : Int))), (36, (iq l7i36)), (81, s43)])) ?_
      refine ta_step 15 _ [2, 3, 14] [72, 73, 83] [2, 3, 14] [] [⟨2, 72, Unit, fun _ => { val := v2 }⟩, ⟨3, 73, Unit, fun _ => { val := (iq j14i7) }⟩, ⟨14, 83, {p : Value // EltOf v2 p ((j14i7).toNat * Ty.size (tyH j3us4))}, fun p => { val := p.1 }⟩] [] rfl rfl rfl (by kernel_rfl) rfl rfl rfl ⟨⟨_, rfl, [], rfl, by
 intro X_ Y_ F_ K_ hK_
 refine al_show (m := Mem.plus (memOf w0 Z0 [(oRow v0_0 94 (tyH us0) a0), (oBag 5 tyU8 us0 b0)] [(oBag 5 tyU8 us0 l7xb0), (oRow v0_0 94 (tyH us0) ((l7x0.set (l7i36).toNat u16).set (j14i7).toNat u21)), (oBag 5 tyU8 j3us4 l7xb4), (oRow v2 94 (tyH j3us4) (l7x4.set (l7i36).toNat u34))] [(fDat (tyH j3us4) [s43] u39), (fDat (tyH us0) [s25] u21)]) X_ Y_) (S := over (tab [(0, v0_0), (3, (iq (a0.length : Int))), (4, v2), (6, (iq l7i36)), (7, (iq j14i7)), (35, (iq (a0.length : Int))), (36, (iq l7i36)), (81, s43)]) F_) ?_
 refine al_mv rfl rfl ?_
 refine al_nil ?_
 exact fr_fin hK_ ()⟩, ⟨_, rfl, [], rfl, by
 intro X_ Y_ F_ K_ hK_
 refine al_show (m := Mem.plus (memOf w0 Z0 [(oRow v0_0 94 (tyH us0) a0), (oBag 5 tyU8 us0 b0)] [(oBag 5 tyU8 us0 l7xb0), (oRow v0_0 94 (tyH us0) ((l7x0.set (l7i36).toNat u16).set (j14i7).toNat u21)), (oBag 5 tyU8 j3us4 l7xb4), (oRow v2 94 (tyH j3us4) (l7x4.set (l7i36).toNat u34))] [(fDat (tyH j3us4) [s43] u39), (fDat (tyH us0) [s25] u21)]) X_ Y_) (S := over (tab [(0, v0_0), (3, (iq (a0.length : Int))), (4, v2), (6, (iq l7i36)), (7, (iq j14i7)), (35, (iq (a0.length : Int))), (36, (iq l7i36)), (81, s43)]) F_) ?_
 refine al_mv rfl rfl ?_
 refine al_nil ?_
 exact fr_fin hK_ ()⟩, ⟨_, rfl, [0, 1], rfl, by
 intro _
 intro _
 intro X_ Y_ F_ K_ hK_
 refine al_show (m := Mem.plus (memOf w0 Z0 [(oRow v0_0 94 (tyH us0) a0), (oBag 5 tyU8 us0 b0)] [(oBag 5 tyU8 us0 l7xb0), (oRow v0_0 94 (tyH us0) ((l7x0.set (l7i36).toNat u16).set (j14i7).toNat u21)), (oBag 5 tyU8 j3us4 l7xb4), (oRow v2 94 (tyH j3us4) (l7x4.set (l7i36).toNat u34))] [(fDat (tyH j3us4) [s43] u39), (fDat (tyH us0) [s25] u21)]) X_ Y_) (S := over (put (put (tab [(0, v0_0), (3, (iq (a0.length : Int))), (4, v2), (6, (iq l7i36)), (7, (iq j14i7)), (35, (iq (a0.length : Int))), (36, (iq l7i36)), (81, s43)]) 72 v2) 73 (iq j14i7)) F_) ?_
 refine al_idxR 3 (at_some hu49).1 (at_some hu49).2.1 rfl rfl rfl Try.underlying93 sz94 rfl (fun p50 hp51 => ?_)
 refine al_nil ?_
 exact fr_fin hK_ ⟨p50, hp51⟩⟩, trivial⟩ ?_
      intro _
      intro _
      rintro ⟨p50, hp51⟩
      intro X_ Y_ F_ K_ hK_
      refine al_show (m := Mem.plus (memOf w0 Z0 [(oRow v0_0 94 (tyH us0) a0), (oBag 5 tyU8 us0 b0)] [(oBag 5 tyU8 us0 l7xb0), (oRow v0_0 94 (tyH us0) ((l7x0.set (l7i36).toNat u16).set (j14i7).toNat u21)), (oBag 5 tyU8 j3us4 l7xb4), (oRow v2 94 (tyH j3us4) (l7x4.set (l7i36).toNat u34))] [(fDat (tyH j3us4) [s43] u39), (fDat (tyH us0) [s25] u21)]) X_ Y_) (S := over (put (put (put (tab [(0, v0_0), (3, (iq (a0.length : Int))), (4, v2), (6, (iq l7i36)), (7, (iq j14i7)), (35, (iq (a0.length : Int))), (36, (iq l7i36)), (81, s43)]) 72 v2) 73 (iq j14i7)) 83 p50) F_) ?_
      refine al_storeR (k := (j14i7).toNat) (x := u39) (vs := [s43]) 3 rfl hp51 (idx_lt hu49) rfl rfl (cv_fzH 0 rfl) (fun hm => fz_at (i := 0) hm rfl) sz94 rfl ?_
      refine al_nil ?_
      refine aq_show (m := Mem.plus (memOf w0 Z0 [(oRow v0_0 94 (tyH us0) a0), (oBag 5 tyU8 us0 b0)] [(oBag 5 tyU8 us0 l7xb0), (oRow v0_0 94 (tyH us0) ((l7x0.set (l7i36).toNat u16).set (j14i7).toNat u21)), (oBag 5 tyU8 j3us4 l7xb4), (oRow v2 94 (tyH j3us4) ((l7x4.set (l7i36).toNat u34).set (j14i7).toNat u39))] [(fDat (tyH j3us4) [s43] u39), (fDat (tyH us0) [s25] u21)]) X_ Y_) ?_
      refine aq_next hK_ [0, 1, 2, 3] [0, 1] [(0, v0_0), (3, (iq (a0.length : Int))), (4, v2), (6, (iq l7i36)), (35, (iq (a0.length : Int))), (36, (iq l7i36))] [] [] rfl rfl (by decide) rfl ⟨rfl, rfl, rfl, rfl, rfl, rfl, trivial⟩ trivial ?_
      clear hK_ K_ F_ X_ Y_
      refine ta_show (m := (memOf w0 Z0 [(oRow v0_0 94 (tyH us0) a0), (oBag 5 tyU8 us0 b0)] [(oBag 5 tyU8 us0 l7xb0), (oRow v0_0 94 (tyH us0) ((l7x0.set (l7i36).toNat u16).set (j14i7).toNat u21)), (oBag 5 tyU8 j3us4 l7xb4), (oRow v2 94 (tyH j3us4) ((l7x4.set (l7i36).toNat u34).set (j14i7).toNat u39))] [(fDat (tyH j3us4) [s43] u39), (fDat (tyH us0) [s25] u21)])) (S := (tab [(0, v0_0), (3, (iq (a0.length : Int))), (4, v2), (6, (iq l7i36)), (35, (iq (a0.length : Int))), (36, (iq l7i36))])) ?_
      refine ta_end [] [] rfl rfl (by kernel_rfl) rfl trivial ?_
      refine aq_show (m := (memOf w0 Z0 [(oRow v0_0 94 (tyH us0) a0), (oBag 5 tyU8 us0 b0)] [(oBag 5 tyU8 us0 l7xb0), (oRow v0_0 94 (tyH us0) ((l7x0.set (l7i36).toNat u16).set (j14i7).toNat u21)), (oBag 5 tyU8 j3us4 l7xb4), (oRow v2 94 (tyH j3us4) ((l7x4.set (l7i36).toNat u34).set (j14i7).toNat u39))] [(fDat (tyH j3us4) [s43] u39), (fDat (tyH us0) [s25] u21)])) (S := (tab [(0, v0_0), (3, (iq (a0.length : Int))), (4, v2), (6, (iq l7i36)), (35, (iq (a0.length : Int))), (36, (iq l7i36))])) ?_
      refine aq_tr ?_
      refine al_mv rfl rfl ?_
      refine al_mv rfl rfl ?_
      obtain ⟨u52, hu53, h⟩ := opt_some h
      refine al_idxR 1 (at_some hu53).1 (at_some hu53).2.1 rfl rfl rfl Try.underlying93 sz94 rfl (fun p54 hp55 => ?_)
      refine al_loadR1 1 rfl hp55 (at_some hu53).2.2 rfl Try.underlying94 sz94 rfl rfl rfl (fun s56 => ?_)
      refine al_mv rfl rfl ?_
      obtain ⟨xs57, hb58, h⟩ := opt_some h
      obtain ⟨u59, hu60, h⟩ := opt_some h
      refine al_idxH 0 0 hb58 (at_some hu60).1 (at_some hu60).2.1 rfl rfl rfl rfl Try.underlying94 sz5 rfl (fun p61 hp62 => ?_)
      refine al_val (ov_loadH (ds := [(i8 (u59.toNat : Int))]) 0 rfl hp62 hb58 (at_some hu60).2.2 (fun h => h) rfl Try.underlying5 sz5 rfl rfl rfl) ?_
      obtain ⟨r64, hc63, h⟩ := opt_some h
      refine al_call (vs := [(i8 (u59.toNat : Int))]) (f_field_Inv_ok fu (u59.toNat : Int) hc63) [] [] [0, 1, 2, 3] pre_nil rfl (by simp) (by decide) (.inl rfl) rfl Try.func94 rfl rfl rfl (fun _ => ?_)
      refine al_mv rfl rfl ?_
      refine al_ex rfl rfl rfl ?_
      refine al_ex rfl rfl rfl ?_
      refine al_as rfl rfl ?_
      refine al_as rfl rfl ?_
      refine al_nt ?_
      obtain ⟨kk66, hkk66, h⟩ := lt_some h
      refine aw_seq_join (ι := (List (Option (List UInt8))) × (List (Option (List UInt8)))) (fun i => (memOf w0 Z0 [(oRow v0_0 94 (tyH us0) a0), (oBag 5 tyU8 us0 b0)] [(oBag 5 tyU8 us0 i.1), (oRow v0_0 94 (tyH us0) ((l7x0.set (l7i36).toNat u16).set (j14i7).toNat u21)), (oBag 5 tyU8 j3us4 i.2), (oRow v2 94 (tyH j3us4) ((l7x4.set (l7i36).toNat u34).set (j14i7).toNat u39))] [(fDat (tyH us0) [s56] u52), (fDat (tyH j3us4) [s43] u39), (fDat (tyH us0) [s25] u21)])) (fun i => (tab [(0, v0_0), (3, (iq (a0.length : Int))), (4, v2), (6, (iq l7i36)), (35, (iq (a0.length : Int))), (36, (iq l7i36))])) (fun i => kk66 i.1 i.2 = some r) ?_ ?_
      ·rintro ⟨j65xb0, j65xb4⟩ h
       have h : kk66 j65xb0 j65xb4 = some r := h
       rw [hkk66] at h
       dsimp only at h
       clear hkk66
       refine aw_show (m := (memOf w0 Z0 [(oRow v0_0 94 (tyH us0) a0), (oBag 5 tyU8 us0 b0)] [(oBag 5 tyU8 us0 j65xb0), (oRow v0_0 94 (tyH us0) ((l7x0.set (l7i36).toNat u16).set (j14i7).toNat u21)), (oBag 5 tyU8 j3us4 j65xb4), (oRow v2 94 (tyH j3us4) ((l7x4.set (l7i36).toNat u34).set (j14i7).toNat u39))] [(fDat (tyH us0) [s56] u52), (fDat (tyH j3us4) [s43] u39), (fDat (tyH us0) [s25] u21)])) (S := (tab [(0, v0_0), (3, (iq (a0.length : Int))), (4, v2), (6, (iq l7i36)), (35, (iq (a0.length : Int))), (36, (iq l7i36))])) ?_
       refine aw_sr ?_
       refine al_mv rfl rfl ?_
       refine al_mv rfl rfl ?_
       refine al_nt ?_
       refine aw_block ?_
       refine aw_state (aw_loop (ι := (List (Option (List UInt8))) × (List (Option (List UInt8))) × Int) (fun i => (memOf w0 Z0 [(oRow v0_0 94 (tyH us0) a0), (oBag 5 tyU8 us0 b0)] [(oBag 5 tyU8 us0 i.1), (oRow v0_0 94 (tyH us0) ((l7x0.set (l7i36).toNat u16).set (j14i7).toNat u21)), (oBag 5 tyU8 j3us4 i.2.1), (oRow v2 94 (tyH j3us4) ((l7x4.set (l7i36).toNat u34).set (j14i7).toNat u39))] [(fDat (tyH us0) [s56] u52), (fDat (tyH j3us4) [s43] u39), (fDat (tyH us0) [s25] u21)])) (fun i => (tab [(0, v0_0), (3, (iq (a0.length : Int))), (4, v2), (6, (iq l7i36)), (35, (iq (a0.length : Int))), (36, (iq l7i36)), (130, (iq (a0.length : Int))), (131, (iq i.2.2))])) (fun q i => f_shield_inverse_ownd_L69 a0 l7x0 l7x4 l7i36 kk13 j14i7 u16 u21 u34 u39 fu q i.1 i.2.1 i.2.2 = some r) ?_ fu (j65xb0, j65xb4, (0 : Int)) h) (fun w a hm hs => norm hm hs [0, 1, 2, 3] [0, 1, 2] [(0, v0_0), (3, (iq (a0.length : Int))), (4, v2), (6, (iq l7i36)), (35, (iq (a0.length : Int))), (36, (iq l7i36)), (130, (iq (a0.length : Int))), (131, (iq (0 : Int)))] (by decide) ⟨rfl, rfl, rfl, rfl, rfl, rfl, rfl, rfl, trivial⟩)
       clear h
       rintro k68 ⟨l67xb0, l67xb4, l67i131⟩ h
       have h : f_shield_inverse_ownd_L69 a0 l7x0 l7x4 l7i36 kk13 j14i7 u16 u21 u34 u39 fu k68 l67xb0 l67xb4 l67i131 = some r := h
       obtain _ | k68 := k68
       · rw [f_shield_inverse_ownd_L69] at h; cases h
       rw [f_shield_inverse_ownd_L69] at h
       refine aw_show (m := (memOf w0 Z0 [(oRow v0_0 94 (tyH us0) a0), (oBag 5 tyU8 us0 b0)] [(oBag 5 tyU8 us0 l67xb0), (oRow v0_0 94 (tyH us0) ((l7x0.set (l7i36).toNat u16).set (j14i7).toNat u21)), (oBag 5 tyU8 j3us4 l67xb4), (oRow v2 94 (tyH j3us4) ((l7x4.set (l7i36).toNat u34).set (j14i7).toNat u39))] [(fDat (tyH us0) [s56] u52), (fDat (tyH j3us4) [s43] u39), (fDat (tyH us0) [s25] u21)])) (S := (tab [(0, v0_0), (3, (iq (a0.length : Int))), (4, v2), (6, (iq l7i36)), (35, (iq (a0.length : Int))), (36, (iq l7i36)), (130, (iq (a0.length : Int))), (131, (iq l67i131))])) ?_
       obtain ⟨kk70, hkk70, h⟩ := lt_some h
       refine aw_body_join (ι := (List (Option (List UInt8))) × (List (Option (List UInt8))) × Int) (fun i => (memOf w0 Z0 [(oRow v0_0 94 (tyH us0) a0), (oBag 5 tyU8 us0 b0)] [(oBag 5 tyU8 us0 i.1), (oRow v0_0 94 (tyH us0) ((l7x0.set (l7i36).toNat u16).set (j14i7).toNat u21)), (oBag 5 tyU8 j3us4 i.2.1), (oRow v2 94 (tyH j3us4) ((l7x4.set (l7i36).toNat u34).set (j14i7).toNat u39))] [(fDat (tyH us0) [s56] u52), (fDat (tyH j3us4) [s43] u39), (fDat (tyH us0) [s25] u21)])) (fun i => (tab [(0, v0_0), (3, (iq (a0.length : Int))), (4, v2), (6, (iq l7i36)), (35, (iq (a0.length : Int))), (36, (iq l7i36)), (130, (iq (a0.length : Int))), (131, (iq i.2.2))])) (fun i => kk70 i.1 i.2.1 i.2.2 = some r) (fun i h => aq_again k68 i (Nat.lt_succ_self _) (by rw [hkk70] at h; exact h) (fun w a hm hs => ⟨hm, hs⟩)) ?_
       clear hkk70
       refine aw_sr ?_
       refine al_in rfl rfl rfl rfl ?_
       refine al_nt ?_
       refine aw_seq ?_
       refine aw_cond rfl (fun hb71 => ?_) (fun hb71 => ?_)
       ·replace h := bif_t hb71 h
        refine aw_skip ?_
        refine aq_then ?_
        obtain ⟨kk73, hkk73, h⟩ := lt_some h
        refine aw_seq_join (ι := (List (Option (List UInt8))) × (List (Option (List UInt8)))) (fun i => (memOf w0 Z0 [(oRow v0_0 94 (tyH us0) a0), (oBag 5 tyU8 us0 b0)] [(oBag 5 tyU8 us0 i.1), (oRow v0_0 94 (tyH us0) ((l7x0.set (l7i36).toNat u16).set (j14i7).toNat u21)), (oBag 5 tyU8 j3us4 i.2), (oRow v2 94 (tyH j3us4) ((l7x4.set (l7i36).toNat u34).set (j14i7).toNat u39))] [(fDat (tyH us0) [s56] u52), (fDat (tyH j3us4) [s43] u39), (fDat (tyH us0) [s25] u21)])) (fun i => (tab [(0, v0_0), (3, (iq (a0.length : Int))), (4, v2), (6, (iq l7i36)), (35, (iq (a0.length : Int))), (36, (iq l7i36)), (130, (iq (a0.length : Int))), (131, (iq l67i131))])) (fun i => kk73 i.1 i.2 = some r) ?_ ?_
        ·rintro ⟨j72xb0, j72xb4⟩ h
         have h : kk73 j72xb0 j72xb4 = some r := h
         rw [hkk73] at h
         dsimp only at h
         clear hkk73
         refine aw_show (m := (memOf w0 Z0 [(oRow v0_0 94 (tyH us0) a0), (oBag 5 tyU8 us0 b0)] [(oBag 5 tyU8 us0 j72xb0), (oRow v0_0 94 (tyH us0) ((l7x0.set (l7i36).toNat u16).set (j14i7).toNat u21)), (oBag 5 tyU8 j3us4 j72xb4), (oRow v2 94 (tyH j3us4) ((l7x4.set (l7i36).toNat u34).set (j14i7).toNat u39))] [(fDat (tyH us0) [s56] u52), (fDat (tyH j3us4) [s43] u39), (fDat (tyH us0) [s25] u21)])) (S := (tab [(0, v0_0), (3, (iq (a0.length : Int))), (4, v2), (6, (iq l7i36)), (35, (iq (a0.length : Int))), (36, (iq l7i36)), (130, (iq (a0.length : Int))), (131, (iq l67i131))])) ?_
         refine aw_region ?_
         refine al_in rfl rfl rfl rfl ?_
         refine al_mv rfl rfl ?_
         refine al_nil ?_
         exact aq_join (j72xb0, j72xb4, (wq (l67i131 + (1 : Int)))) h (fun w a hm hs => norm hm hs [0, 1, 2, 3] [0, 1, 2] [(0, v0_0), (3, (iq (a0.length : Int))), (4, v2), (6, (iq l7i36)), (35, (iq (a0.length : Int))), (36, (iq l7i36)), (130, (iq (a0.length : Int))), (131, (iq (wq (l67i131 + (1 : Int)))))] (by decide) ⟨rfl, rfl, rfl, rfl, rfl, rfl, rfl, rfl, trivial⟩)
        ·clear hkk73
         refine aw_block ?_
         refine aw_sr ?_
         refine al_mv rfl rfl ?_
         refine al_as rfl rfl ?_
         refine al_nt ?_
         refine aw_sr ?_
         refine al_mv rfl rfl ?_
         refine al_mv rfl rfl ?_
         obtain ⟨u74, hu75, h⟩ := opt_some h
         refine al_idxR 1 (at_some hu75).1 (at_some hu75).2.1 rfl rfl rfl Try.underlying93 sz94 rfl (fun p76 hp77 => ?_)
         refine al_loadR1 1 rfl hp77 (at_some hu75).2.2 rfl Try.underlying94 sz94 rfl rfl rfl (fun s78 => ?_)
         refine al_mv rfl rfl ?_
         obtain ⟨xs79, hb80, h⟩ := opt_some h
         obtain ⟨u81, hu82, h⟩ := opt_some h
         refine al_idxH 0 0 hb80 (at_some hu82).1 (at_some hu82).2.1 rfl rfl rfl rfl Try.underlying94 sz5 rfl (fun p83 hp84 => ?_)
         refine al_val (ov_loadH (ds := [(i8 (u81.toNat : Int))]) 0 rfl hp84 hb80 (at_some hu82).2.2 (fun h => h) rfl Try.underlying5 sz5 rfl rfl rfl) ?_
         refine al_as rfl rfl ?_
         refine al_nt ?_
         obtain ⟨kk86, hkk86, h⟩ := lt_some h
         refine aw_seq_join (ι := Bool) (fun i => (memOf w0 Z0 [(oRow v0_0 94 (tyH us0) a0), (oBag 5 tyU8 us0 b0)] [(oBag 5 tyU8 us0 l67xb0), (oRow v0_0 94 (tyH us0) ((l7x0.set (l7i36).toNat u16).set (j14i7).toNat u21)), (oBag 5 tyU8 j3us4 l67xb4), (oRow v2 94 (tyH j3us4) ((l7x4.set (l7i36).toNat u34).set (j14i7).toNat u39))] [(fDat (tyH us0) [s78] u74), (fDat (tyH us0) [s56] u52), (fDat (tyH j3us4) [s43] u39), (fDat (tyH us0) [s25] u21)])) (fun i => (tab [(0, v0_0), (3, (iq (a0.length : Int))), (4, v2), (6, (iq l7i36)), (11, (iq l67i131)), (12, (i8 (u81.toNat : Int))), (35, (iq (a0.length : Int))), (36, (iq l7i36)), (130, (iq (a0.length : Int))), (131, (iq l67i131)), (147, (bool i))])) (fun i => kk86 i = some r) ?_ ?_
         ·rintro j85b147 h
          have h : kk86 j85b147 = some r := h
          rw [hkk86] at h
          dsimp only at h
          clear hkk86
          refine aw_show (m := (memOf w0 Z0 [(oRow v0_0 94 (tyH us0) a0), (oBag 5 tyU8 us0 b0)] [(oBag 5 tyU8 us0 l67xb0), (oRow v0_0 94 (tyH us0) ((l7x0.set (l7i36).toNat u16).set (j14i7).toNat u21)), (oBag 5 tyU8 j3us4 l67xb4), (oRow v2 94 (tyH j3us4) ((l7x4.set (l7i36).toNat u34).set (j14i7).toNat u39))] [(fDat (tyH us0) [s78] u74), (fDat (tyH us0) [s56] u52), (fDat (tyH j3us4) [s43] u39), (fDat (tyH us0) [s25] u21)])) (S := (tab [(0, v0_0), (3, (iq (a0.length : Int))), (4, v2), (6, (iq l7i36)), (11, (iq l67i131)), (12, (i8 (u81.toNat : Int))), (35, (iq (a0.length : Int))), (36, (iq l7i36)), (130, (iq (a0.length : Int))), (131, (iq l67i131)), (147, (bool j85b147))])) ?_
          refine aw_cond rfl (fun hb87 => ?_) (fun hb87 => ?_)
          ·replace h := bif_t hb87 h
           refine aw_sr ?_
           refine al_mv rfl rfl ?_
           refine al_mv rfl rfl ?_
           refine al_nt ?_
           refine aw_block ?_
           refine aw_state (aw_loop (ι := (List (Option (List UInt8))) × (List (Option (List UInt8))) × Int) (fun i => (memOf w0 Z0 [(oRow v0_0 94 (tyH us0) a0), (oBag 5 tyU8 us0 b0)] [(oBag 5 tyU8 us0 i.1), (oRow v0_0 94 (tyH us0) ((l7x0.set (l7i36).toNat u16).set (j14i7).toNat u21)), (oBag 5 tyU8 j3us4 i.2.1), (oRow v2 94 (tyH j3us4) ((l7x4.set (l7i36).toNat u34).set (j14i7).toNat u39))] [(fDat (tyH us0) [s78] u74), (fDat (tyH us0) [s56] u52), (fDat (tyH j3us4) [s43] u39), (fDat (tyH us0) [s25] u21)])) (fun i => (tab [(0, v0_0), (3, (iq (a0.length : Int))), (4, v2), (6, (iq l7i36)), (11, (iq l67i131)), (12, (i8 (u81.toNat : Int))), (35, (iq (a0.length : Int))), (36, (iq l7i36)), (130, (iq (a0.length : Int))), (131, (iq l67i131)), (148, (iq (a0.length : Int))), (149, (iq i.2.2))])) (fun q i => f_shield_inverse_ownd_L90 a0 l7x0 l7x4 l7i36 j14i7 u16 u21 u34 u39 l67i131 kk73 u81 fu q i.1 i.2.1 i.2.2 = some r) ?_ fu (l67xb0, l67xb4, (0 : Int)) h) (fun w a hm hs => norm hm hs [0, 1, 2, 3] [0, 1, 2, 3] [(0, v0_0), (3, (iq (a0.length : Int))), (4, v2), (6, (iq l7i36)), (11, (iq l67i131)), (12, (i8 (u81.toNat : Int))), (35, (iq (a0.length : Int))), (36, (iq l7i36)), (130, (iq (a0.length : Int))), (131, (iq l67i131)), (148, (iq (a0.length : Int))), (149, (iq (0 : Int)))] (by decide) ⟨rfl, rfl, rfl, rfl, rfl, rfl, rfl, rfl, rfl, rfl, rfl, rfl, trivial⟩)
           clear h
           rintro k89 ⟨l88xb0, l88xb4, l88i149⟩ h
           have h : f_shield_inverse_ownd_L90 a0 l7x0 l7x4 l7i36 j14i7 u16 u21 u34 u39 l67i131 kk73 u81 fu k89 l88xb0 l88xb4 l88i149 = some r := h
           obtain _ | k89 := k89
           · rw [f_shield_inverse_ownd_L90] at h; cases h
           rw [f_shield_inverse_ownd_L90] at h
           refine aw_show (m := (memOf w0 Z0 [(oRow v0_0 94 (tyH us0) a0), (oBag 5 tyU8 us0 b0)] [(oBag 5 tyU8 us0 l88xb0), (oRow v0_0 94 (tyH us0) ((l7x0.set (l7i36).toNat u16).set (j14i7).toNat u21)), (oBag 5 tyU8 j3us4 l88xb4), (oRow v2 94 (tyH j3us4) ((l7x4.set (l7i36).toNat u34).set (j14i7).toNat u39))] [(fDat (tyH us0) [s78] u74), (fDat (tyH us0) [s56] u52), (fDat (tyH j3us4) [s43] u39), (fDat (tyH us0) [s25] u21)])) (S := (tab [(0, v0_0), (3, (iq (a0.length : Int))), (4, v2), (6, (iq l7i36)), (11, (iq l67i131)), (12, (i8 (u81.toNat : Int))), (35, (iq (a0.length : Int))), (36, (iq l7i36)), (130, (iq (a0.length : Int))), (131, (iq l67i131)), (148, (iq (a0.length : Int))), (149, (iq l88i149))])) ?_
           refine aw_sr ?_
           refine al_in rfl rfl rfl rfl ?_
           refine al_nt ?_
           refine aw_seq ?_
           refine aw_cond rfl (fun hb91 => ?_) (fun hb91 => ?_)
           ·replace h := bif_t hb91 h
            refine aw_skip ?_
            refine aq_then ?_
            refine aw_seq ?_
            refine aw_block ?_
            refine aw_sr ?_
            refine al_mv rfl rfl ?_
            refine al_as rfl rfl ?_
            refine al_nt ?_
            refine aw_seq ?_
            obtain ⟨u92, hu93, h⟩ := opt_some h
            obtain ⟨xs97, hb98, h⟩ := opt_some h
            obtain ⟨u99, hu100, h⟩ := opt_some h
            obtain ⟨u103, hu104, h⟩ := opt_some h
            obtain ⟨xs108, hb109, h⟩ := opt_some h
            obtain ⟨u110, hu111, h⟩ := opt_some h
            obtain ⟨r115, hc114, h⟩ := opt_some h
            obtain ⟨xs116, hb117, h⟩ := opt_some h
            obtain ⟨u118, hu119, h⟩ := opt_some h
            refine aw_region_draw 18 [(152, (fun u => fEq u v0_0)), (153, (fun u => fEq u (iq l67i131))), (154, (fun p => fElt v0_0 p ((l67i131).toNat * Ty.size (tyH us0)))), (155, (fun s96 => (fDat (tyH us0) [s96] u92))), (156, (fun u => fEq u (iq l88i149))), (157, (fun p => fEltH us0 u92 p ((l88i149).toNat * Ty.size tyU8))), (158, (fun u => fEq u (i8 (u99.toNat : Int)))), (159, (fun u => fEq u (i8 (u81.toNat : Int)))), (160, (fun u => fEq u v0_0)), (161, (fun u => fEq u (iq l7i36))), (162, (fun p => fElt v0_0 p ((l7i36).toNat * Ty.size (tyH us0)))), (163, (fun s107 => (fDat (tyH us0) [s107] u103))), (164, (fun u => fEq u (iq l88i149))), (165, (fun p => fEltH us0 u103 p ((l88i149).toNat * Ty.size tyU8))), (166, (fun u => fEq u (i8 (u110.toNat : Int)))), (167, (fun u => fEq u (i8 r115))), (168, (fun u => fEq u (i8 (bits .xor .u8 (u99.toNat : Int) r115)))), (169, (fun p => fEltH us0 u92 p ((l88i149).toNat * Ty.size tyU8)))] (tab [(0, v0_0), (3, (iq (a0.length : Int))), (4, v2), (6, (iq l7i36)), (11, (iq l67i131)), (12, (i8 (u81.toNat : Int))), (13, (iq l88i149)), (35, (iq (a0.length : Int))), (36, (iq l7i36)), (130, (iq (a0.length : Int))), (131, (iq l67i131)), (148, (iq (a0.length : Int))), (149, (iq l88i149))]) mixed (by kernel_rfl) rfl rfl rfl (fun a hs => hs.tab _ (allT_mem ⟨rfl, rfl, rfl, rfl, rfl, rfl, rfl, rfl, rfl, rfl, rfl, rfl, rfl, trivial⟩)) ⟨⟨rfl, ld_val (ov_move rfl rfl)⟩, ⟨rfl, ld_val (ov_move rfl rfl)⟩, ⟨rfl, ld_eq (j := 0) rfl rfl (ld_eq (j := 1) rfl rfl (ld_of (of_idxR 1 (at_some hu93).1 (at_some hu93).2.1 rfl rfl rfl Try.underlying93 sz94 rfl)))⟩, ⟨rfl, ld_elt (j := 2) rfl rfl (fun p94 hp95 => ld_of (of_loadR1 1 rfl hp95 (at_some hu93).2.2 rfl Try.underlying94 sz94 rfl rfl rfl))⟩, ⟨rfl, ld_val (ov_move rfl rfl)⟩, ⟨rfl, ld_fact (j := 3) rfl rfl (fun s96 => ld_eq (j := 4) rfl rfl (ld_of (of_idxH 0 0 hb98 (at_some hu100).1 (at_some hu100).2.1 rfl rfl rfl rfl Try.underlying94 sz5 rfl)))⟩, ⟨rfl, ld_eltH (j := 5) rfl rfl (fun p101 hp102 => ld_val (ov_loadH (ds := [(i8 (u99.toNat : Int))]) 0 rfl hp102 hb98 (at_some hu100).2.2 (fun h => h) rfl Try.underlying5 sz5 rfl rfl rfl))⟩, ⟨rfl, ld_val (ov_move rfl rfl)⟩, ⟨rfl, ld_val (ov_move rfl rfl)⟩, ⟨rfl, ld_val (ov_move rfl rfl)⟩, ⟨rfl, ld_eq (j := 8) rfl rfl (ld_eq (j := 9) rfl rfl (ld_of (of_idxR 1 (at_some hu104).1 (at_some hu104).2.1 rfl rfl rfl Try.underlying93 sz94 rfl)))⟩, ⟨rfl, ld_elt (j := 10) rfl rfl (fun p105 hp106 => ld_of (of_loadR1 1 rfl hp106 (at_some hu104).2.2 rfl Try.underlying94 sz94 rfl rfl rfl))⟩, ⟨rfl, ld_val (ov_move rfl rfl)⟩, ⟨rfl, ld_fact (j := 11) rfl rfl (fun s107 => ld_eq (j := 12) rfl rfl (ld_of (of_idxH 0 0 hb109 (at_some hu111).1 (at_some hu111).2.1 rfl rfl rfl rfl Try.underlying94 sz5 rfl)))⟩, ⟨rfl, ld_eltH (j := 13) rfl rfl (fun p112 hp113 => ld_val (ov_loadH (ds := [(i8 (u110.toNat : Int))]) 0 rfl hp113 hb109 (at_some hu111).2.2 (fun h => h) rfl Try.underlying5 sz5 rfl rfl rfl))⟩, ⟨rfl, ld_eq (j := 7) rfl rfl (ld_eq (j := 14) rfl rfl (ld_callV (vs := [(i8 (u81.toNat : Int)), (i8 (u110.toNat : Int))]) (f_field_Mul_ok fu (u81.toNat : Int) (u110.toNat : Int) hc114) [] pre_nil rfl Try.func95 rfl rfl rfl))⟩, ⟨rfl, ld_eq (j := 6) rfl rfl (ld_eq (j := 15) rfl rfl (ld_val (ov_int rfl rfl rfl rfl)))⟩, ⟨rfl, ld_fact (j := 3) rfl rfl (fun s96 => ld_eq (j := 4) rfl rfl (ld_of (of_idxH 0 0 hb117 (at_some hu119).1 (at_some hu119).2.1 rfl rfl rfl rfl Try.underlying94 sz5 rfl)))⟩, trivial⟩ ?_
            refine tl_eq 16 rfl ?_
            refine tl_eltH 17 rfl (fun p120 hp121 => ?_)
            refine tl_done ?_
            obtain ⟨hc122, h⟩ := req_some h
            refine al_storeH (k := (l88i149).toNat) (x := (UInt8.ofNat ((bits .xor .u8 (u99.toNat : Int) r115)).toNat)) (vs := [(i8 (bits .xor .u8 (u99.toNat : Int) r115))]) 0 rfl hp121 hb117 (idx_lt hu119) rfl rfl (cv_rfl rfl) (fun _ _ => u8_rep hc122) sz5 rfl ?_
            refine al_nt ?_
            obtain ⟨u123, hu124, h⟩ := opt_some h
            obtain ⟨xs128, hb129, h⟩ := opt_some h
            obtain ⟨u130, hu131, h⟩ := opt_some h
            obtain ⟨u134, hu135, h⟩ := opt_some h
            obtain ⟨xs139, hb140, h⟩ := opt_some h
            obtain ⟨u141, hu142, h⟩ := opt_some h
            obtain ⟨r146, hc145, h⟩ := opt_some h
            obtain ⟨xs147, hb148, h⟩ := opt_some h
            obtain ⟨u149, hu150, h⟩ := opt_some h
            refine aw_region_draw 18 [(170, (fun u => fEq u v2)), (171, (fun u => fEq u (iq l67i131))), (172, (fun p => fElt v2 p ((l67i131).toNat * Ty.size (tyH j3us4)))), (173, (fun s127 => (fDat (tyH j3us4) [s127] u123))), (174, (fun u => fEq u (iq l88i149))), (175, (fun p => fEltH j3us4 u123 p ((l88i149).toNat * Ty.size tyU8))), (176, (fun u => fEq u (i8 (u130.toNat : Int)))), (177, (fun u => fEq u (i8 (u81.toNat : Int)))), (178, (fun u => fEq u v2)), (179, (fun u => fEq u (iq l7i36))), (180, (fun p => fElt v2 p ((l7i36).toNat * Ty.size (tyH j3us4)))), (181, (fun s138 => (fDat (tyH j3us4) [s138] u134))), (182, (fun u => fEq u (iq l88i149))), (183, (fun p => fEltH j3us4 u134 p ((l88i149).toNat * Ty.size tyU8))), (184, (fun u => fEq u (i8 (u141.toNat : Int)))), (185, (fun u => fEq u (i8 r146))), (186, (fun u => fEq u (i8 (bits .xor .u8 (u130.toNat : Int) r146)))), (187, (fun p => fEltH j3us4 u123 p ((l88i149).toNat * Ty.size tyU8)))] (tab [(0, v0_0), (3, (iq (a0.length : Int))), (4, v2), (6, (iq l7i36)), (11, (iq l67i131)), (12, (i8 (u81.toNat : Int))), (13, (iq l88i149)), (35, (iq (a0.length : Int))), (36, (iq l7i36)), (130, (iq (a0.length : Int))), (131, (iq l67i131)), (148, (iq (a0.length : Int))), (149, (iq l88i149))]) mixed (by kernel_rfl) rfl rfl rfl (fun a hs => hs.tab _ (allT_mem ⟨rfl, rfl, rfl, rfl, rfl, rfl, rfl, rfl, rfl, rfl, rfl, rfl, rfl, trivial⟩)) ⟨⟨rfl, ld_val (ov_move rfl rfl)⟩, ⟨rfl, ld_val (ov_move rfl rfl)⟩, ⟨rfl, ld_eq (j := 0) rfl rfl (ld_eq (j := 1) rfl rfl (ld_of (of_idxR 3 (at_some hu124).1 (at_some hu124).2.1 rfl rfl rfl Try.underlying93 sz94 rfl)))⟩, ⟨rfl, ld_elt (j := 2) rfl rfl (fun p125 hp126 => ld_of (of_loadR1 3 rfl hp126 (at_some hu124).2.2 rfl Try.underlying94 sz94 rfl rfl rfl))⟩, ⟨rfl, ld_val (ov_move rfl rfl)⟩, ⟨rfl, ld_fact (j := 3) rfl rfl (fun s127 => ld_eq (j := 4) rfl rfl (ld_of (of_idxH 2 0 hb129 (at_some hu131).1 (at_some hu131).2.1 rfl rfl rfl rfl Try.underlying94 sz5 rfl)))⟩, ⟨rfl, ld_eltH (j := 5) rfl rfl (fun p132 hp133 => ld_val (ov_loadH (ds := [(i8 (u130.toNat : Int))]) 2 rfl hp133 hb129 (at_some hu131).2.2 (fun h => h) rfl Try.underlying5 sz5 rfl rfl rfl))⟩, ⟨rfl, ld_val (ov_move rfl rfl)⟩, ⟨rfl, ld_val (ov_move rfl rfl)⟩, ⟨rfl, ld_val (ov_move rfl rfl)⟩, ⟨rfl, ld_eq (j := 8) rfl rfl (ld_eq (j := 9) rfl rfl (ld_of (of_idxR 3 (at_some hu135).1 (at_some hu135).2.1 rfl rfl rfl Try.underlying93 sz94 rfl)))⟩, ⟨rfl, ld_elt (j := 10) rfl rfl (fun p136 hp137 => ld_of (of_loadR1 3 rfl hp137 (at_some hu135).2.2 rfl Try.underlying94 sz94 rfl rfl rfl))⟩, ⟨rfl, ld_val (ov_move rfl rfl)⟩, ⟨rfl, ld_fact (j := 11) rfl rfl (fun s138 => ld_eq (j := 12) rfl rfl (ld_of (of_idxH 2 0 hb140 (at_some hu142).1 (at_some hu142).2.1 rfl rfl rfl rfl Try.underlying94 sz5 rfl)))⟩, ⟨rfl, ld_eltH (j := 13) rfl rfl (fun p143 hp144 => ld_val (ov_loadH (ds := [(i8 (u141.toNat : Int))]) 2 rfl hp144 hb140 (at_some hu142).2.2 (fun h => h) rfl Try.underlying5 sz5 rfl rfl rfl))⟩, ⟨rfl, ld_eq (j := 7) rfl rfl (ld_eq (j := 14) rfl rfl (ld_callV (vs := [(i8 (u81.toNat : Int)), (i8 (u141.toNat : Int))]) (f_field_Mul_ok fu (u81.toNat : Int) (u141.toNat : Int) hc145) [] pre_nil rfl Try.func95 rfl rfl rfl))⟩, ⟨rfl, ld_eq (j := 6) rfl rfl (ld_eq (j := 15) rfl rfl (ld_val (ov_int rfl rfl rfl rfl)))⟩, ⟨rfl, ld_fact (j := 3) rfl rfl (fun s127 => ld_eq (j := 4) rfl rfl (ld_of (of_idxH 2 0 hb148 (at_some hu150).1 (at_some hu150).2.1 rfl rfl rfl rfl Try.underlying94 sz5 rfl)))⟩, trivial⟩ ?_
            refine tl_eq 16 rfl ?_
            refine tl_eltH 17 rfl (fun p151 hp152 => ?_)
            refine tl_done ?_
            obtain ⟨hc153, h⟩ := req_some h
            refine al_storeH (k := (l88i149).toNat) (x := (UInt8.ofNat ((bits .xor .u8 (u130.toNat : Int) r146)).toNat)) (vs := [(i8 (bits .xor .u8 (u130.toNat : Int) r146))]) 2 rfl hp152 hb148 (idx_lt hu150) rfl rfl (cv_rfl rfl) (fun _ _ => u8_rep hc153) sz5 rfl ?_
            refine al_nil ?_
            refine aq_block ?_
            refine aq_then ?_
            refine aw_region ?_
            refine al_in rfl rfl rfl rfl ?_
            refine al_mv rfl rfl ?_
            refine al_nil ?_
            exact aq_again k89 ((bset l88xb0 u92 (some (xs116.set (l88i149).toNat (UInt8.ofNat ((bits .xor .u8 (u99.toNat : Int) r115)).toNat)))), (bset l88xb4 u123 (some (xs147.set (l88i149).toNat (UInt8.ofNat ((bits .xor .u8 (u130.toNat : Int) r146)).toNat)))), (wq (l88i149 + (1 : Int)))) (Nat.lt_succ_self _) h (fun w a hm hs => norm hm hs [0, 1, 2, 3] [0, 1, 2, 3] [(0, v0_0), (3, (iq (a0.length : Int))), (4, v2), (6, (iq l7i36)), (11, (iq l67i131)), (12, (i8 (u81.toNat : Int))), (35, (iq (a0.length : Int))), (36, (iq l7i36)), (130, (iq (a0.length : Int))), (131, (iq l67i131)), (148, (iq (a0.length : Int))), (149, (iq (wq (l88i149 + (1 : Int)))))] (by decide) ⟨rfl, rfl, rfl, rfl, rfl, rfl, rfl, rfl, rfl, rfl, rfl, rfl, trivial⟩)
           ·replace h := bif_f hb91 h
            refine aw_exit ?_
            refine aq_then_exit ?_
            refine aq_then_exit ?_
            refine aq_block_exit ?_
            refine aq_block ?_
            exact aq_join (l88xb0, l88xb4) h (fun w a hm hs => norm hm hs [0, 1, 2, 3] [1, 2, 3] [(0, v0_0), (3, (iq (a0.length : Int))), (4, v2), (6, (iq l7i36)), (35, (iq (a0.length : Int))), (36, (iq l7i36)), (130, (iq (a0.length : Int))), (131, (iq l67i131))] (by decide) ⟨rfl, rfl, rfl, rfl, rfl, rfl, rfl, rfl, trivial⟩)
          ·replace h := bif_f hb87 h
           refine aw_skip ?_
           refine aq_block ?_
           exact aq_join (l67xb0, l67xb4) h (fun w a hm hs => norm hm hs [0, 1, 2, 3] [1, 2, 3] [(0, v0_0), (3, (iq (a0.length : Int))), (4, v2), (6, (iq l7i36)), (35, (iq (a0.length : Int))), (36, (iq l7i36)), (130, (iq (a0.length : Int))), (131, (iq l67i131))] (by decide) ⟨rfl, rfl, rfl, rfl, rfl, rfl, rfl, rfl, trivial⟩)
         ·clear hkk86
          refine aw_region ?_
          refine al_mv rfl rfl ?_
          refine al_mv rfl rfl ?_
          refine al_in rfl rfl rfl rfl ?_
          refine al_mv rfl rfl ?_
          refine al_caseB 144 rfl (fun hb154 => ?_) (fun hb154 => ?_)
          ·replace h := bif_t hb154 h
           refine al_mv rfl rfl ?_
           refine al_in rfl rfl rfl rfl ?_
           refine al_val (ov_pick_t rfl rfl rfl) ?_
           refine al_nil ?_
           exact aq_join ((u81.toNat : Int) != (0 : Int)) h (fun w a hm hs => norm hm hs [0, 1, 2, 3] [0, 1, 2, 3] [(0, v0_0), (3, (iq (a0.length : Int))), (4, v2), (6, (iq l7i36)), (11, (iq l67i131)), (12, (i8 (u81.toNat : Int))), (35, (iq (a0.length : Int))), (36, (iq l7i36)), (130, (iq (a0.length : Int))), (131, (iq l67i131)), (147, (bool ((u81.toNat : Int) != (0 : Int))))] (by decide) ⟨rfl, rfl, rfl, rfl, rfl, rfl, rfl, rfl, rfl, rfl, rfl, trivial⟩)
          ·replace h := bif_f hb154 h
           refine al_skip ?_
           refine al_skip ?_
           refine al_val (ov_pick_f rfl rfl rfl) ?_
           refine al_nil ?_
           exact aq_join false h (fun w a hm hs => norm hm hs [0, 1, 2, 3] [0, 1, 2, 3] [(0, v0_0), (3, (iq (a0.length : Int))), (4, v2), (6, (iq l7i36)), (11, (iq l67i131)), (12, (i8 (u81.toNat : Int))), (35, (iq (a0.length : Int))), (36, (iq l7i36)), (130, (iq (a0.length : Int))), (131, (iq l67i131)), (147, (bool false))] (by decide) ⟨rfl, rfl, rfl, rfl, rfl, rfl, rfl, rfl, rfl, rfl, rfl, trivial⟩)
       ·replace h := bif_f hb71 h
        refine aw_exit ?_
        refine aq_then_exit ?_
        refine aq_then_exit ?_
        refine aq_block_exit ?_
        refine aq_block ?_
        exact aq_join (l67xb0, ((l7x0.set (l7i36).toNat u16).set (j14i7).toNat u21), l67xb4, ((l7x4.set (l7i36).toNat u34).set (j14i7).toNat u39)) h (fun w a hm hs => norm hm hs [0, 1, 2, 3] [] [(0, v0_0), (3, (iq (a0.length : Int))), (4, v2), (35, (iq (a0.length : Int))), (36, (iq l7i36))] (by decide) ⟨rfl, rfl, rfl, rfl, rfl, trivial⟩)
      ·clear hkk66
       refine aw_sr ?_
       refine al_mv rfl rfl ?_
       refine al_mv rfl rfl ?_
       refine al_nt ?_
       refine aw_block ?_
       refine aw_state (aw_loop (ι := (List (Option (List UInt8))) × (List (Option (List UInt8))) × Int) (fun i => (memOf w0 Z0 [(oRow v0_0 94 (tyH us0) a0), (oBag 5 tyU8 us0 b0)] [(oBag 5 tyU8 us0 i.1), (oRow v0_0 94 (tyH us0) ((l7x0.set (l7i36).toNat u16).set (j14i7).toNat u21)), (oBag 5 tyU8 j3us4 i.2.1), (oRow v2 94 (tyH j3us4) ((l7x4.set (l7i36).toNat u34).set (j14i7).toNat u39))] [(fDat (tyH us0) [s56] u52), (fDat (tyH j3us4) [s43] u39), (fDat (tyH us0) [s25] u21)])) (fun i => (tab [(0, v0_0), (3, (iq (a0.length : Int))), (4, v2), (6, (iq l7i36)), (8, (i8 r64.1)), (35, (iq (a0.length : Int))), (36, (iq l7i36)), (95, (iq (a0.length : Int))), (96, (iq i.2.2))])) (fun q i => f_shield_inverse_ownd_L157 a0 l7x0 l7x4 l7i36 j14i7 u16 u21 u34 u39 r64 kk66 fu q i.1 i.2.1 i.2.2 = some r) ?_ fu (l7xb0, l7xb4, (0 : Int)) h) (fun w a hm hs => norm hm hs [0, 1, 2, 3] [0, 1, 2] [(0, v0_0), (3, (iq (a0.length : Int))), (4, v2), (6, (iq l7i36)), (8, (i8 r64.1)), (35, (iq (a0.length : Int))), (36, (iq l7i36)), (95, (iq (a0.length : Int))), (96, (iq (0 : Int)))] (by decide) ⟨rfl, rfl, rfl, rfl, rfl, rfl, rfl, rfl, rfl, trivial⟩)
       clear h
       rintro k156 ⟨l155xb0, l155xb4, l155i96⟩ h
       have h : f_shield_inverse_ownd_L157 a0 l7x0 l7x4 l7i36 j14i7 u16 u21 u34 u39 r64 kk66 fu k156 l155xb0 l155xb4 l155i96 = some r := h
       obtain _ | k156 := k156
       · rw [f_shield_inverse_ownd_L157] at h; cases h
       rw [f_shield_inverse_ownd_L157] at h
       refine aw_show (m := (memOf w0 Z0 [(oRow v0_0 94 (tyH us0) a0), (oBag 5 tyU8 us0 b0)] [(oBag 5 tyU8 us0 l155xb0), (oRow v0_0 94 (tyH us0) ((l7x0.set (l7i36).toNat u16).set (j14i7).toNat u21)), (oBag 5 tyU8 j3us4 l155xb4), (oRow v2 94 (tyH j3us4) ((l7x4.set (l7i36).toNat u34).set (j14i7).toNat u39))] [(fDat (tyH us0) [s56] u52), (fDat (tyH j3us4) [s43] u39), (fDat (tyH us0) [s25] u21)])) (S := (tab [(0, v0_0), (3, (iq (a0.length : Int))), (4, v2), (6, (iq l7i36)), (8, (i8 r64.1)), (35, (iq (a0.length : Int))), (36, (iq l7i36)), (95, (iq (a0.length : Int))), (96, (iq l155i96))])) ?_
       refine aw_sr ?_
       refine al_in rfl rfl rfl rfl ?_
       refine al_nt ?_
       refine aw_seq ?_
       refine aw_cond rfl (fun hb158 => ?_) (fun hb158 => ?_)
       ·replace h := bif_t hb158 h
        refine aw_skip ?_
        refine aq_then ?_
        refine aw_seq ?_
        refine aw_block ?_
        refine aw_sr ?_
        refine al_mv rfl rfl ?_
        refine al_as rfl rfl ?_
        refine al_nt ?_
        obtain ⟨u159, hu160, h⟩ := opt_some h
        obtain ⟨u164, hu165, h⟩ := opt_some h
        obtain ⟨u169, hu170, h⟩ := opt_some h
        obtain ⟨xs174, hb175, h⟩ := opt_some h
        obtain ⟨u176, hu177, h⟩ := opt_some h
        obtain ⟨u180, hu181, h⟩ := opt_some h
        obtain ⟨xs185, hb186, h⟩ := opt_some h
        obtain ⟨u187, hu188, h⟩ := opt_some h
        refine aw_region_open [⟨0, 99, Unit, fun _ => { val := v0_0 }⟩, ⟨1, 100, Unit, fun _ => { val := (iq l7i36) }⟩, ⟨2, 101, {p : Value // EltOf v0_0 p ((l7i36).toNat * Ty.size (tyH us0))}, fun p => { val := p.1 }⟩, ⟨3, 102, Value, fun (i : Value) => { val := i, fz := [(fDat (tyH us0) [i] u159)] }⟩, ⟨4, 103, Unit, fun _ => { val := (iq l155i96) }⟩, ⟨5, 104, Unit, fun _ => { val := v2 }⟩, ⟨6, 105, Unit, fun _ => { val := (iq l7i36) }⟩, ⟨7, 106, {p : Value // EltOf v2 p ((l7i36).toNat * Ty.size (tyH j3us4))}, fun p => { val := p.1 }⟩, ⟨8, 107, Value, fun (i : Value) => { val := i, fz := [(fDat (tyH j3us4) [i] u164)] }⟩, ⟨9, 108, Unit, fun _ => { val := (iq l155i96) }⟩, ⟨10, 109, Unit, fun _ => { val := (i8 r64.1) }⟩, ⟨11, 110, Unit, fun _ => { val := v0_0 }⟩, ⟨12, 111, Unit, fun _ => { val := (iq l7i36) }⟩, ⟨13, 112, {p : Value // EltOf v0_0 p ((l7i36).toNat * Ty.size (tyH us0))}, fun p => { val := p.1 }⟩, ⟨14, 113, Value, fun (i : Value) => { val := i, fz := [(fDat (tyH us0) [i] u169)] }⟩, ⟨15, 114, Unit, fun _ => { val := (iq l155i96) }⟩, ⟨16, 115, {p : Value // EltH us0 u169 p ((l155i96).toNat * Ty.size tyU8)}, fun p => { val := p.1 }⟩, ⟨17, 116, Unit, fun _ => { val := (i8 (u176.toNat : Int)) }⟩, ⟨19, 118, Unit, fun _ => { val := (i8 r64.1) }⟩, ⟨20, 119, Unit, fun _ => { val := v2 }⟩, ⟨21, 120, Unit, fun _ => { val := (iq l7i36) }⟩, ⟨22, 121, {p : Value // EltOf v2 p ((l7i36).toNat * Ty.size (tyH j3us4))}, fun p => { val := p.1 }⟩, ⟨23, 122, Value, fun (i : Value) => { val := i, fz := [(fDat (tyH j3us4) [i] u180)] }⟩, ⟨24, 123, Unit, fun _ => { val := (iq l155i96) }⟩, ⟨25, 124, {p : Value // EltH j3us4 u180 p ((l155i96).toNat * Ty.size tyU8)}, fun p => { val := p.1 }⟩, ⟨26, 125, Unit, fun _ => { val := (i8 (u187.toNat : Int)) }⟩] (tab [(0, v0_0), (3, (iq (a0.length : Int))), (4, v2), (6, (iq l7i36)), (8, (i8 r64.1)), (10, (iq l155i96)), (35, (iq (a0.length : Int))), (36, (iq l7i36)), (95, (iq (a0.length : Int))), (96, (iq l155i96))]) mixed (fun a hs => hs.tab _ (allT_mem ⟨rfl, rfl, rfl, rfl, rfl, rfl, rfl, rfl, rfl, rfl, trivial⟩)) ?_
        refine ta_show (m := (memOf w0 Z0 [(oRow v0_0 94 (tyH us0) a0), (oBag 5 tyU8 us0 b0)] [(oBag 5 tyU8 us0 l155xb0), (oRow v0_0 94 (tyH us0) ((l7x0.set (l7i36).toNat u16).set (j14i7).toNat u21)), (oBag 5 tyU8 j3us4 l155xb4), (oRow v2 94 (tyH j3us4) ((l7x4.set (l7i36).toNat u34).set (j14i7).toNat u39))] [(fDat (tyH us0) [s56] u52), (fDat (tyH j3us4) [s43] u39), (fDat (tyH us0) [s25] u21)])) (S := (tab [(0, v0_0), (3, (iq (a0.length : Int))), (4, v2), (6, (iq l7i36)), (8, (i8 r64.1)), (10, (iq l155i96)), (35, (iq (a0.length : Int))), (36, (iq l7i36)), (95, (iq (a0.length : Int))), (96, (iq l155i96))])) ?_
        refine ta_step 18 _ [0, 1, 2, 3, 4, 5, 6, 7, 8, 9, 10, 11, 12, 13, 14, 15, 16, 17, 19, 20, 21, 22, 23, 24, 25, 26] [99, 100, 101, 102, 103, 104, 105, 106, 107, 108, 109, 110, 111, 112, 113, 114, 115, 116, 118, 119, 120, 121, 122, 123, 124, 125] [10, 11, 12, 13, 14, 15, 16, 17] [] [⟨10, 109, Unit, fun _ => { val := (i8 r64.1) }⟩, ⟨11, 110, Unit, fun _ => { val := v0_0 }⟩, ⟨12, 111, Unit, fun _ => { val := (iq l7i36) }⟩, ⟨13, 112, {p : Value // EltOf v0_0 p ((l7i36).toNat * Ty.size (tyH us0))}, fun p => { val := p.1 }⟩, ⟨14, 113, Value, fun (i : Value) => { val := i, fz := [(fDat (tyH us0) [i] u169)] }⟩, ⟨15, 114, Unit, fun _ => { val := (iq l155i96) }⟩, ⟨16, 115, {p : Value // EltH us0 u169 p ((l155i96).toNat * Ty.size tyU8)}, fun p => { val := p.1 }⟩, ⟨17, 116, Unit, fun _ => { val := (i8 (u176.toNat : Int)) }⟩] [⟨0, 99, Unit, fun _ => { val := v0_0 }⟩, ⟨1, 100, Unit, fun _ => { val := (iq l7i36) }⟩, ⟨2, 101, {p : Value // EltOf v0_0 p ((l7i36).toNat * Ty.size (tyH us0))}, fun p => { val := p.1 }⟩, ⟨3, 102, Value, fun (i : Value) => { val := i, fz := [(fDat (tyH us0) [i] u159)] }⟩, ⟨4, 103, Unit, fun _ => { val := (iq l155i96) }⟩, ⟨5, 104, Unit, fun _ => { val := v2 }⟩, ⟨6, 105, Unit, fun _ => { val := (iq l7i36) }⟩, ⟨7, 106, {p : Value // EltOf v2 p ((l7i36).toNat * Ty.size (tyH j3us4))}, fun p => { val := p.1 }⟩, ⟨8, 107, Value, fun (i : Value) => { val := i, fz := [(fDat (tyH j3us4) [i] u164)] }⟩, ⟨9, 108, Unit, fun _ => { val := (iq l155i96) }⟩, ⟨19, 118, Unit, fun _ => { val := (i8 r64.1) }⟩, ⟨20, 119, Unit, fun _ => { val := v2 }⟩, ⟨21, 120, Unit, fun _ => { val := (iq l7i36) }⟩, ⟨22, 121, {p : Value // EltOf v2 p ((l7i36).toNat * Ty.size (tyH j3us4))}, fun p => { val := p.1 }⟩, ⟨23, 122, Value, fun (i : Value) => { val := i, fz := [(fDat (tyH j3us4) [i] u180)] }⟩, ⟨24, 123, Unit, fun _ => { val := (iq l155i96) }⟩, ⟨25, 124, {p : Value // EltH j3us4 u180 p ((l155i96).toNat * Ty.size tyU8)}, fun p => { val := p.1 }⟩, ⟨26, 125, Unit, fun _ => { val := (i8 (u187.toNat : Int)) }⟩] rfl rfl rfl (by kernel_rfl) rfl rfl rfl ⟨⟨_, rfl, [], rfl, by
 intro X_ Y_ F_ K_ hK_
 refine al_show (m := Mem.plus (memOf w0 Z0 [(oRow v0_0 94 (tyH us0) a0), (oBag 5 tyU8 us0 b0)] [(oBag 5 tyU8 us0 l155xb0), (oRow v0_0 94 (tyH us0) ((l7x0.set (l7i36).toNat u16).set (j14i7).toNat u21)), (oBag 5 tyU8 j3us4 l155xb4), (oRow v2 94 (tyH j3us4) ((l7x4.set (l7i36).toNat u34).set (j14i7).toNat u39))] [(fDat (tyH us0) [s56] u52), (fDat (tyH j3us4) [s43] u39), (fDat (tyH us0) [s25] u21)]) X_ Y_) (S := over (tab [(0, v0_0), (3, (iq (a0.length : Int))), (4, v2), (6, (iq l7i36)), (8, (i8 r64.1)), (10, (iq l155i96)), (35, (iq (a0.length : Int))), (36, (iq l7i36)), (95, (iq (a0.length : Int))), (96, (iq l155i96))]) F_) ?_
 refine al_mv rfl rfl ?_
 refine al_nil ?_
 exact fr_fin hK_ ()⟩, ⟨_, rfl, [], rfl, by
 intro X_ Y_ F_ K_ hK_
 refine al_show (m := Mem.plus (memOf w0 Z0 [(oRow v0_0 94 (tyH us0) a0), (oBag 5 tyU8 us0 b0)] [(oBag 5 tyU8 us0 l155xb0), (oRow v0_0 94 (tyH us0) ((l7x0.set (l7i36).toNat u16).set (j14i7).toNat u21)), (oBag 5 tyU8 j3us4 l155xb4), (oRow v2 94 (tyH j3us4) ((l7x4.set (l7i36).toNat u34).set (j14i7).toNat u39))] [(fDat (tyH us0) [s56] u52), (fDat (tyH j3us4) [s43] u39), (fDat (tyH us0) [s25] u21)]) X_ Y_) (S := over (tab [(0, v0_0), (3, (iq (a0.length : Int))), (4, v2), (6, (iq l7i36)), (8, (i8 r64.1)), (10, (iq l155i96)), (35, (iq (a0.length : Int))), (36, (iq l7i36)), (95, (iq (a0.length : Int))), (96, (iq l155i96))]) F_) ?_
 refine al_mv rfl rfl ?_
 refine al_nil ?_
 exact fr_fin hK_ ()⟩, ⟨_, rfl, [0, 1], rfl, by
 intro _
 intro _
 intro X_ Y_ F_ K_ hK_
 refine al_show (m := Mem.plus (memOf w0 Z0 [(oRow v0_0 94 (tyH us0) a0), (oBag 5 tyU8 us0 b0)] [(oBag 5 tyU8 us0 l155xb0), (oRow v0_0 94 (tyH us0) ((l7x0.set (l7i36).toNat u16).set (j14i7).toNat u21)), (oBag 5 tyU8 j3us4 l155xb4), (oRow v2 94 (tyH j3us4) ((l7x4.set (l7i36).toNat u34).set (j14i7).toNat u39))] [(fDat (tyH us0) [s56] u52), (fDat (tyH j3us4) [s43] u39), (fDat (tyH us0) [s25] u21)]) X_ Y_) (S := over (put (put (tab [(0, v0_0), (3, (iq (a0.length : Int))), (4, v2), (6, (iq l7i36)), (8, (i8 r64.1)), (10, (iq l155i96)), (35, (iq (a0.length : Int))), (36, (iq l7i36)), (95, (iq (a0.length : Int))), (96, (iq l155i96))]) 99 v0_0) 100 (iq l7i36)) F_) ?_
 refine al_idxR 1 (at_some hu160).1 (at_some hu160).2.1 rfl rfl rfl Try.underlying93 sz94 rfl (fun p161 hp162 => ?_)
 refine al_nil ?_
 exact fr_fin hK_ ⟨p161, hp162⟩⟩, ⟨_, rfl, [2], rfl, by
 rintro ⟨p161, hp162⟩
 intro X_ Y_ F_ K_ hK_
 refine al_show (m := Mem.plus (memOf w0 Z0 [(oRow v0_0 94 (tyH us0) a0), (oBag 5 tyU8 us0 b0)] [(oBag 5 tyU8 us0 l155xb0), (oRow v0_0 94 (tyH us0) ((l7x0.set (l7i36).toNat u16).set (j14i7).toNat u21)), (oBag 5 tyU8 j3us4 l155xb4), (oRow v2 94 (tyH j3us4) ((l7x4.set (l7i36).toNat u34).set (j14i7).toNat u39))] [(fDat (tyH us0) [s56] u52), (fDat (tyH j3us4) [s43] u39), (fDat (tyH us0) [s25] u21)]) X_ Y_) (S := over (put (tab [(0, v0_0), (3, (iq (a0.length : Int))), (4, v2), (6, (iq l7i36)), (8, (i8 r64.1)), (10, (iq l155i96)), (35, (iq (a0.length : Int))), (36, (iq l7i36)), (95, (iq (a0.length : Int))), (96, (iq l155i96))]) 101 p161) F_) ?_
 refine al_loadR1 1 rfl hp162 (at_some hu160).2.2 rfl Try.underlying94 sz94 rfl rfl rfl (fun s163 => ?_)
 refine al_nil ?_
 exact fr_fin hK_ s163⟩, ⟨_, rfl, [], rfl, by
 intro X_ Y_ F_ K_ hK_
 refine al_show (m := Mem.plus (memOf w0 Z0 [(oRow v0_0 94 (tyH us0) a0), (oBag 5 tyU8 us0 b0)] [(oBag 5 tyU8 us0 l155xb0), (oRow v0_0 94 (tyH us0) ((l7x0.set (l7i36).toNat u16).set (j14i7).toNat u21)), (oBag 5 tyU8 j3us4 l155xb4), (oRow v2 94 (tyH j3us4) ((l7x4.set (l7i36).toNat u34).set (j14i7).toNat u39))] [(fDat (tyH us0) [s56] u52), (fDat (tyH j3us4) [s43] u39), (fDat (tyH us0) [s25] u21)]) X_ Y_) (S := over (tab [(0, v0_0), (3, (iq (a0.length : Int))), (4, v2), (6, (iq l7i36)), (8, (i8 r64.1)), (10, (iq l155i96)), (35, (iq (a0.length : Int))), (36, (iq l7i36)), (95, (iq (a0.length : Int))), (96, (iq l155i96))]) F_) ?_
 refine al_mv rfl rfl ?_
 refine al_nil ?_
 exact fr_fin hK_ ()⟩, ⟨_, rfl, [], rfl, by
 intro X_ Y_ F_ K_ hK_
 refine al_show (m := Mem.plus (memOf w0 Z0 [(oRow v0_0 94 (tyH us0) a0), (oBag 5 tyU8 us0 b0)] [(oBag 5 tyU8 us0 l155xb0), (oRow v0_0 94 (tyH us0) ((l7x0.set (l7i36).toNat u16).set (j14i7).toNat u21)), (oBag 5 tyU8 j3us4 l155xb4), (oRow v2 94 (tyH j3us4) ((l7x4.set (l7i36).toNat u34).set (j14i7).toNat u39))] [(fDat (tyH us0) [s56] u52), (fDat (tyH j3us4) [s43] u39), (fDat (tyH us0) [s25] u21)]) X_ Y_) (S := over (tab [(0, v0_0), (3, (iq (a0.length : Int))), (4, v2), (6, (iq l7i36)), (8, (i8 r64.1)), (10, (iq l155i96)), (35, (iq (a0.length : Int))), (36, (iq l7i36)), (95, (iq (a0.length : Int))), (96, (iq l155i96))]) F_) ?_
 refine al_mv rfl rfl ?_
 refine al_nil ?_
 exact fr_fin hK_ ()⟩, ⟨_, rfl, [], rfl, by
 intro X_ Y_ F_ K_ hK_
 refine al_show (m := Mem.plus (memOf w0 Z0 [(oRow v0_0 94 (tyH us0) a0), (oBag 5 tyU8 us0 b0)] [(oBag 5 tyU8 us0 l155xb0), (oRow v0_0 94 (tyH us0) ((l7x0.set (l7i36).toNat u16).set (j14i7).toNat u21)), (oBag 5 tyU8 j3us4 l155xb4), (oRow v2 94 (tyH j3us4) ((l7x4.set (l7i36).toNat u34).set (j14i7).toNat u39))] [(fDat (tyH us0) [s56] u52), (fDat (tyH j3us4) [s43] u39), (fDat (tyH us0) [s25] u21)]) X_ Y_) (S := over (tab [(0, v0_0), (3, (iq (a0.length : Int))), (4, v2), (6, (iq l7i36)), (8, (i8 r64.1)), (10, (iq l155i96)), (35, (iq (a0.length : Int))), (36, (iq l7i36)), (95, (iq (a0.length : Int))), (96, (iq l155i96))]) F_) ?_
 refine al_mv rfl rfl ?_
 refine al_nil ?_
 exact fr_fin hK_ ()⟩, ⟨_, rfl, [5, 6], rfl, by
 intro _
 intro _
 intro X_ Y_ F_ K_ hK_
 refine al_show (m := Mem.plus (memOf w0 Z0 [(oRow v0_0 94 (tyH us0) a0), (oBag 5 tyU8 us0 b0)] [(oBag 5 tyU8 us0 l155xb0), (oRow v0_0 94 (tyH us0) ((l7x0.set (l7i36).toNat u16).set (j14i7).toNat u21)), (oBag 5 tyU8 j3us4 l155xb4), (oRow v2 94 (tyH j3us4) ((l7x4.set (l7i36).toNat u34).set (j14i7).toNat u39))] [(fDat (tyH us0) [s56] u52), (fDat (tyH j3us4) [s43] u39), (fDat (tyH us0) [s25] u21)]) X_ Y_) (S := over (put (put (tab [(0, v0_0), (3, (iq (a0.length : Int))), (4, v2), (6, (iq l7i36)), (8, (i8 r64.1)), (10, (iq l155i96)), (35, (iq (a0.length : Int))), (36, (iq l7i36)), (95, (iq (a0.length : Int))), (96, (iq l155i96))]) 104 v2) 105 (iq l7i36)) F_) ?_
 refine al_idxR 3 (at_some hu165).1 (at_some hu165).2.1 rfl rfl rfl Try.underlying93 sz94 rfl (fun p166 hp167 => ?_)
 refine al_nil ?_
 exact fr_fin hK_ ⟨p166, hp167⟩⟩, ⟨_, rfl, [7], rfl, by
 rintro ⟨p166, hp167⟩
 intro X_ Y_ F_ K_ hK_
 refine al_show (m := Mem.plus (memOf w0 Z0 [(oRow v0_0 94 (tyH us0) a0), (oBag 5 tyU8 us0 b0)] [(oBag 5 tyU8 us0 l155xb0), (oRow v0_0 94 (tyH us0) ((l7x0.set (l7i36).toNat u16).set (j14i7).toNat u21)), (oBag 5 tyU8 j3us4 l155xb4), (oRow v2 94 (tyH j3us4) ((l7x4.set (l7i36).toNat u34).set (j14i7).toNat u39))] [(fDat (tyH us0) [s56] u52), (fDat (tyH j3us4) [s43] u39), (fDat (tyH us0) [s25] u21)]) X_ Y_) (S := over (put (tab [(0, v0_0), (3, (iq (a0.length : Int))), (4, v2), (6, (iq l7i36)), (8, (i8 r64.1)), (10, (iq l155i96)), (35, (iq (a0.length : Int))), (36, (iq l7i36)), (95, (iq (a0.length : Int))), (96, (iq l155i96))]) 106 p166) F_) ?_
 refine al_loadR1 3 rfl hp167 (at_some hu165).2.2 rfl Try.underlying94 sz94 rfl rfl rfl (fun s168 => ?_)
 refine al_nil ?_
 exact fr_fin hK_ s168⟩, ⟨_, rfl, [], rfl, by
 intro X_ Y_ F_ K_ hK_
 refine al_show (m := Mem.plus (memOf w0 Z0 [(oRow v0_0 94 (tyH us0) a0), (oBag 5 tyU8 us0 b0)] [(oBag 5 tyU8 us0 l155xb0), (oRow v0_0 94 (tyH us0) ((l7x0.set (l7i36).toNat u16).set (j14i7).toNat u21)), (oBag 5 tyU8 j3us4 l155xb4), (oRow v2 94 (tyH j3us4) ((l7x4.set (l7i36).toNat u34).set (j14i7).toNat u39))] [(fDat (tyH us0) [s56] u52), (fDat (tyH j3us4) [s43] u39), (fDat (tyH us0) [s25] u21)]) X_ Y_) (S := over (tab [(0, v0_0), (3, (iq (a0.length : Int))), (4, v2), (6, (iq l7i36)), (8, (i8 r64.1)), (10, (iq l155i96)), (35, (iq (a0.length : Int))), (36, (iq l7i36)), (95, (iq (a0.length : Int))), (96, (iq l155i96))]) F_) ?_
 refine al_mv rfl rfl ?_
 refine al_nil ?_
 exact fr_fin hK_ ()⟩, ⟨_, rfl, [], rfl, by
 intro X_ Y_ F_ K_ hK_
 refine al_show (m := Mem.plus (memOf w0 Z0 [(oRow v0_0 94 (tyH us0) a0), (oBag 5 tyU8 us0 b0)] [(oBag 5 tyU8 us0 l155xb0), (oRow v0_0 94 (tyH us0) ((l7x0.set (l7i36).toNat u16).set (j14i7).toNat u21)), (oBag 5 tyU8 j3us4 l155xb4), (oRow v2 94 (tyH j3us4) ((l7x4.set (l7i36).toNat u34).set (j14i7).toNat u39))] [(fDat (tyH us0) [s56] u52), (fDat (tyH j3us4) [s43] u39), (fDat (tyH us0) [s25] u21)]) X_ Y_) (S := over (tab [(0, v0_0), (3, (iq (a0.length : Int))), (4, v2), (6, (iq l7i36)), (8, (i8 r64.1)), (10, (iq l155i96)), (35, (iq (a0.length : Int))), (36, (iq l7i36)), (95, (iq (a0.length : Int))), (96, (iq l155i96))]) F_) ?_
 refine al_mv rfl rfl ?_
 refine al_nil ?_
 exact fr_fin hK_ ()⟩, ⟨_, rfl, [], rfl, by
 intro X_ Y_ F_ K_ hK_
 refine al_show (m := Mem.plus (memOf w0 Z0 [(oRow v0_0 94 (tyH us0) a0), (oBag 5 tyU8 us0 b0)] [(oBag 5 tyU8 us0 l155xb0), (oRow v0_0 94 (tyH us0) ((l7x0.set (l7i36).toNat u16).set (j14i7).toNat u21)), (oBag 5 tyU8 j3us4 l155xb4), (oRow v2 94 (tyH j3us4) ((l7x4.set (l7i36).toNat u34).set (j14i7).toNat u39))] [(fDat (tyH us0) [s56] u52), (fDat (tyH j3us4) [s43] u39), (fDat (tyH us0) [s25] u21)]) X_ Y_) (S := over (tab [(0, v0_0), (3, (iq (a0.length : Int))), (4, v2), (6, (iq l7i36)), (8, (i8 r64.1)), (10, (iq l155i96)), (35, (iq (a0.length : Int))), (36, (iq l7i36)), (95, (iq (a0.length : Int))), (96, (iq l155i96))]) F_) ?_
 refine al_mv rfl rfl ?_
 refine al_nil ?_
 exact fr_fin hK_ ()⟩, ⟨_, rfl, [], rfl, by
 intro X_ Y_ F_ K_ hK_
 refine al_show (m := Mem.plus (memOf w0 Z0 [(oRow v0_0 94 (tyH us0) a0), (oBag 5 tyU8 us0 b0)] [(oBag 5 tyU8 us0 l155xb0), (oRow v0_0 94 (tyH us0) ((l7x0.set (l7i36).toNat u16).set (j14i7).toNat u21)), (oBag 5 tyU8 j3us4 l155xb4), (oRow v2 94 (tyH j3us4) ((l7x4.set (l7i36).toNat u34).set (j14i7).toNat u39))] [(fDat (tyH us0) [s56] u52), (fDat (tyH j3us4) [s43] u39), (fDat (tyH us0) [s25] u21)]) X_ Y_) (S := over (tab [(0, v0_0), (3, (iq (a0.length : Int))), (4, v2), (6, (iq l7i36)), (8, (i8 r64.1)), (10, (iq l155i96)), (35, (iq (a0.length : Int))), (36, (iq l7i36)), (95, (iq (a0.length : Int))), (96, (iq l155i96))]) F_) ?_
 refine al_mv rfl rfl ?_
 refine al_nil ?_
 exact fr_fin hK_ ()⟩, ⟨_, rfl, [11, 12], rfl, by
 intro _
 intro _
 intro X_ Y_ F_ K_ hK_
 refine al_show (m := Mem.plus (memOf w0 Z0 [(oRow v0_0 94 (tyH us0) a0), (oBag 5 tyU8 us0 b0)] [(oBag 5 tyU8 us0 l155xb0), (oRow v0_0 94 (tyH us0) ((l7x0.set (l7i36).toNat u16).set (j14i7).toNat u21)), (oBag 5 tyU8 j3us4 l155xb4), (oRow v2 94 (tyH j3us4) ((l7x4.set (l7i36).toNat u34).set (j14i7).toNat u39))] [(fDat (tyH us0) [s56] u52), (fDat (tyH j3us4) [s43] u39), (fDat (tyH us0) [s25] u21)]) X_ Y_) (S := over (put (put (tab [(0, v0_0), (3, (iq (a0.length : Int))), (4, v2), (6, (iq l7i36)), (8, (i8 r64.1)), (10, (iq l155i96)), (35, (iq (a0.length : Int))), (36, (iq l7i36)), (95, (iq (a0.length : Int))), (96, (iq l155i96))]) 110 v0_0) 111 (iq l7i36)) F_) ?_
 refine al_idxR 1 (at_some hu170).1 (at_some hu170).2.1 rfl rfl rfl Try.underlying93 sz94 rfl (fun p171 hp172 => ?_)
 refine al_nil ?_
 exact fr_fin hK_ ⟨p171, hp172⟩⟩, ⟨_, rfl, [13], rfl, by
 rintro ⟨p171, hp172⟩
 intro X_ Y_ F_ K_ hK_
 refine al_show (m := Mem.plus (memOf w0 Z0 [(oRow v0_0 94 (tyH us0) a0), (oBag 5 tyU8 us0 b0)] [(oBag 5 tyU8 us0 l155xb0), (oRow v0_0 94 (tyH us0) ((l7x0.set (l7i36).toNat u16).set (j14i7).toNat u21)), (oBag 5 tyU8 j3us4 l155xb4), (oRow v2 94 (tyH j3us4) ((l7x4.set (l7i36).toNat u34).set (j14i7).toNat u39))] [(fDat (tyH us0) [s56] u52), (fDat (tyH j3us4) [s43] u39), (fDat (tyH us0) [s25] u21)]) X_ Y_) (S := over (put (tab [(0, v0_0), (3, (iq (a0.length : Int))), (4, v2), (6, (iq l7i36)), (8, (i8 r64.1)), (10, (iq l155i96)), (35, (iq (a0.length : Int))), (36, (iq l7i36)), (95, (iq (a0.length : Int))), (96, (iq l155i96))]) 112 p171) F_) ?_
 refine al_loadR1 1 rfl hp172 (at_some hu170).2.2 rfl Try.underlying94 sz94 rfl rfl rfl (fun s173 => ?_)
 refine al_nil ?_
 exact fr_fin hK_ s173⟩, ⟨_, rfl, [], rfl, by
 intro X_ Y_ F_ K_ hK_
 refine al_show (m := Mem.plus (memOf w0 Z0 [(oRow v0_0 94 (tyH us0) a0), (oBag 5 tyU8 us0 b0)] [(oBag 5 tyU8 us0 l155xb0), (oRow v0_0 94 (tyH us0) ((l7x0.set (l7i36).toNat u16).set (j14i7).toNat u21)), (oBag 5 tyU8 j3us4 l155xb4), (oRow v2 94 (tyH j3us4) ((l7x4.set (l7i36).toNat u34).set (j14i7).toNat u39))] [(fDat (tyH us0) [s56] u52), (fDat (tyH j3us4) [s43] u39), (fDat (tyH us0) [s25] u21)]) X_ Y_) (S := over (tab [(0, v0_0), (3, (iq (a0.length : Int))), (4, v2), (6, (iq l7i36)), (8, (i8 r64.1)), (10, (iq l155i96)), (35, (iq (a0.length : Int))), (36, (iq l7i36)), (95, (iq (a0.length : Int))), (96, (iq l155i96))]) F_) ?_
 refine al_mv rfl rfl ?_
 refine al_nil ?_
 exact fr_fin hK_ ()⟩, ⟨_, rfl, [14, 15], rfl, by
 intro s173
 intro _
 intro X_ Y_ F_ K_ hK_
 refine al_show (m := Mem.plus (memOf w0 Z0 [(oRow v0_0 94 (tyH us0) a0), (oBag 5 tyU8 us0 b0)] [(oBag 5 tyU8 us0 l155xb0), (oRow v0_0 94 (tyH us0) ((l7x0.set (l7i36).toNat u16).set (j14i7).toNat u21)), (oBag 5 tyU8 j3us4 l155xb4), (oRow v2 94 (tyH j3us4) ((l7x4.set (l7i36).toNat u34).set (j14i7).toNat u39))] [(fDat (tyH us0) [s173] u169), (fDat (tyH us0) [s56] u52), (fDat (tyH j3us4) [s43] u39), (fDat (tyH us0) [s25] u21)]) X_ Y_) (S := over (put (put (tab [(0, v0_0), (3, (iq (a0.length : Int))), (4, v2), (6, (iq l7i36)), (8, (i8 r64.1)), (10, (iq l155i96)), (35, (iq (a0.length : Int))), (36, (iq l7i36)), (95, (iq (a0.length : Int))), (96, (iq l155i96))]) 113 s173) 114 (iq l155i96)) F_) ?_
 refine al_idxH 0 0 hb175 (at_some hu177).1 (at_some hu177).2.1 rfl rfl rfl rfl Try.underlying94 sz5 rfl (fun p178 hp179 => ?_)
 refine al_nil ?_
 exact fr_fin hK_ ⟨p178, hp179⟩⟩, ⟨_, rfl, [16], rfl, by
 rintro ⟨p178, hp179⟩
 intro X_ Y_ F_ K_ hK_
 refine al_show (m := Mem.plus (memOf w0 Z0 [(oRow v0_0 94 (tyH us0) a0), (oBag 5 tyU8 us0 b0)] [(oBag 5 tyU8 us0 l155xb0), (oRow v0_0 94 (tyH us0) ((l7x0.set (l7i36).toNat u16).set (j14i7).toNat u21)), (oBag 5 tyU8 j3us4 l155xb4), (oRow v2 94 (tyH j3us4) ((l7x4.set (l7i36).toNat u34).set (j14i7).toNat u39))] [(fDat (tyH us0) [s56] u52), (fDat (tyH j3us4) [s43] u39), (fDat (tyH us0) [s25] u21)]) X_ Y_) (S := over (put (tab [(0, v0_0), (3, (iq (a0.length : Int))), (4, v2), (6, (iq l7i36)), (8, (i8 r64.1)), (10, (iq l155i96)), (35, (iq (a0.length : Int))), (36, (iq l7i36)), (95, (iq (a0.length : Int))), (96, (iq l155i96))]) 115 p178) F_) ?_
 refine al_val (ov_loadH (ds := [(i8 (u176.toNat : Int))]) 0 rfl hp179 hb175 (at_some hu177).2.2 (fun h => h) rfl Try.underlying5 sz5 rfl rfl rfl) ?_
 refine al_nil ?_
 exact fr_fin hK_ ()⟩, ⟨_, rfl, [], rfl, by
 intro X_ Y_ F_ K_ hK_
 refine al_show (m := Mem.plus (memOf w0 Z0 [(oRow v0_0 94 (tyH us0) a0), (oBag 5 tyU8 us0 b0)] [(oBag 5 tyU8 us0 l155xb0), (oRow v0_0 94 (tyH us0) ((l7x0.set (l7i36).toNat u16).set (j14i7).toNat u21)), (oBag 5 tyU8 j3us4 l155xb4), (oRow v2 94 (tyH j3us4) ((l7x4.set (l7i36).toNat u34).set (j14i7).toNat u39))] [(fDat (tyH us0) [s56] u52), (fDat (tyH j3us4) [s43] u39), (fDat (tyH us0) [s25] u21)]) X_ Y_) (S := over (tab [(0, v0_0), (3, (iq (a0.length : Int))), (4, v2), (6, (iq l7i36)), (8, (i8 r64.1)), (10, (iq l155i96)), (35, (iq (a0.length : Int))), (36, (iq l7i36)), (95, (iq (a0.length : Int))), (96, (iq l155i96))]) F_) ?_
 refine al_mv rfl rfl ?_
 refine al_nil ?_
 exact fr_fin hK_ ()⟩, ⟨_, rfl, [], rfl, by
 intro X_ Y_ F_ K_ hK_
 refine al_show (m := Mem.plus (memOf w0 Z0 [(oRow v0_0 94 (tyH us0) a0), (oBag 5 tyU8 us0 b0)] [(oBag 5 tyU8 us0 l155xb0), (oRow v0_0 94 (tyH us0) ((l7x0.set (l7i36).toNat u16).set (j14i7).toNat u21)), (oBag 5 tyU8 j3us4 l155xb4), (oRow v2 94 (tyH j3us4) ((l7x4.set (l7i36).toNat u34).set (j14i7).toNat u39))] [(fDat (tyH us0) [s56] u52), (fDat (tyH j3us4) [s43] u39), (fDat (tyH us0) [s25] u21)]) X_ Y_) (S := over (tab [(0, v0_0), (3, (iq (a0.length : Int))), (4, v2), (6, (iq l7i36)), (8, (i8 r64.1)), (10, (iq l155i96)), (35, (iq (a0.length : Int))), (36, (iq l7i36)), (95, (iq (a0.length : Int))), (96, (iq l155i96))]) F_) ?_
 refine al_mv rfl rfl ?_
 refine al_nil ?_
 exact fr_fin hK_ ()⟩, ⟨_, rfl, [], rfl, by
 intro X_ Y_ F_ K_ hK_
 refine al_show (m := Mem.plus (memOf w0 Z0 [(oRow v0_0 94 (tyH us0) a0), (oBag 5 tyU8 us0 b0)] [(oBag 5 tyU8 us0 l155xb0), (oRow v0_0 94 (tyH us0) ((l7x0.set (l7i36).toNat u16).set (j14i7).toNat u21)), (oBag 5 tyU8 j3us4 l155xb4), (oRow v2 94 (tyH j3us4) ((l7x4.set (l7i36).toNat u34).set (j14i7).toNat u39))] [(fDat (tyH us0) [s56] u52), (fDat (tyH j3us4) [s43] u39), (fDat (tyH us0) [s25] u21)]) X_ Y_) (S := over (tab [(0, v0_0), (3, (iq (a0.length : Int))), (4, v2), (6, (iq l7i36)), (8, (i8 r64.1)), (10, (iq l155i96)), (35, (iq (a0.length : Int))), (36, (iq l7i36)), (95, (iq (a0.length : Int))), (96, (iq l155i96))]) F_) ?_
 refine al_mv rfl rfl ?_
 refine al_nil ?_
 exact fr_fin hK_ ()⟩, ⟨_, rfl, [19, 20], rfl, by
 intro _
 intro _
 intro X_ Y_ F_ K_ hK_
 refine al_show (m := Mem.plus (memOf w0 Z0 [(oRow v0_0 94 (tyH us0) a0), (oBag 5 tyU8 us0 b0)] [(oBag 5 tyU8 us0 l155xb0), (oRow v0_0 94 (tyH us0) ((l7x0.set (l7i36).toNat u16).set (j14i7).toNat u21)), (oBag 5 tyU8 j3us4 l155xb4), (oRow v2 94 (tyH j3us4) ((l7x4.set (l7i36).toNat u34).set (j14i7).toNat u39))] [(fDat (tyH us0) [s56] u52), (fDat (tyH j3us4) [s43] u39), (fDat (tyH us0) [s25] u21)]) X_ Y_) (S := over (put (put (tab [(0, v0_0), (3, (iq (a0.length : Int))), (4, v2), (6, (iq l7i36)), (8, (i8 r64.1)), (10, (iq l155i96)), (35, (iq (a0.length : Int))), (36, (iq l7i36)), (95, (iq (a0.length : Int))), (96, (iq l155i96))]) 119 v2) 120 (iq l7i36)) F_) ?_
 refine al_idxR 3 (at_some hu181).1 (at_some hu181).2.1 rfl rfl rfl Try.underlying93 sz94 rfl (fun p182 hp183 => ?_)
 refine al_nil ?_
 exact fr_fin hK_ ⟨p182, hp183⟩⟩, ⟨_, rfl, [21], rfl, by
 rintro ⟨p182, hp183⟩
 intro X_ Y_ F_ K_ hK_
 refine al_show (m := Mem.plus (memOf w0 Z0 [(oRow v0_0 94 (tyH us0) a0), (oBag 5 tyU8 us0 b0)] [(oBag 5 tyU8 us0 l155xb0), (oRow v0_0 94 (tyH us0) ((l7x0.set (l7i36).toNat u16).set (j14i7).toNat u21)), (oBag 5 tyU8 j3us4 l155xb4), (oRow v2 94 (tyH j3us4) ((l7x4.set (l7i36).toNat u34).set (j14i7).toNat u39))] [(fDat (tyH us0) [s56] u52), (fDat (tyH j3us4) [s43] u39), (fDat (tyH us0) [s25] u21)]) X_ Y_) (S := over (put (tab [(0, v0_0), (3, (iq (a0.length : Int))), (4, v2), (6, (iq l7i36)), (8, (i8 r64.1)), (10, (iq l155i96)), (35, (iq (a0.length : Int))), (36, (iq l7i36)), (95, (iq (a0.length : Int))), (96, (iq l155i96))]) 121 p182) F_) ?_
 refine al_loadR1 3 rfl hp183 (at_some hu181).2.2 rfl Try.underlying94 sz94 rfl rfl rfl (fun s184 => ?_)
 refine al_nil ?_
 exact fr_fin hK_ s184⟩, ⟨_, rfl, [], rfl, by
 intro X_ Y_ F_ K_ hK_
 refine al_show (m := Mem.plus (memOf w0 Z0 [(oRow v0_0 94 (tyH us0) a0), (oBag 5 tyU8 us0 b0)] [(oBag 5 tyU8 us0 l155xb0), (oRow v0_0 94 (tyH us0) ((l7x0.set (l7i36).toNat u16).set (j14i7).toNat u21)), (oBag 5 tyU8 j3us4 l155xb4), (oRow v2 94 (tyH j3us4) ((l7x4.set (l7i36).toNat u34).set (j14i7).toNat u39))] [(fDat (tyH us0) [s56] u52), (fDat (tyH j3us4) [s43] u39), (fDat (tyH us0) [s25] u21)]) X_ Y_) (S := over (tab [(0, v0_0), (3, (iq (a0.length : Int))), (4, v2), (6, (iq l7i36)), (8, (i8 r64.1)), (10, (iq l155i96)), (35, (iq (a0.length : Int))), (36, (iq l7i36)), (95, (iq (a0.length : Int))), (96, (iq l155i96))]) F_) ?_
 refine al_mv rfl rfl ?_
 refine al_nil ?_
 exact fr_fin hK_ ()⟩, ⟨_, rfl, [22, 23], rfl, by
 intro s184
 intro _
 intro X_ Y_ F_ K_ hK_
 refine al_show (m := Mem.plus (memOf w0 Z0 [(oRow v0_0 94 (tyH us0) a0), (oBag 5 tyU8 us0 b0)] [(oBag 5 tyU8 us0 l155xb0), (oRow v0_0 94 (tyH us0) ((l7x0.set (l7i36).toNat u16).set (j14i7).toNat u21)), (oBag 5 tyU8 j3us4 l155xb4), (oRow v2 94 (tyH j3us4) ((l7x4.set (l7i36).toNat u34).set (j14i7).toNat u39))] [(fDat (tyH j3us4) [s184] u180), (fDat (tyH us0) [s56] u52), (fDat (tyH j3us4) [s43] u39), (fDat (tyH us0) [s25] u21)]) X_ Y_) (S := over (put (put (tab [(0, v0_0), (3, (iq (a0.length : Int))), (4, v2), (6, (iq l7i36)), (8, (i8 r64.1)), (10, (iq l155i96)), (35, (iq (a0.length : Int))), (36, (iq l7i36)), (95, (iq (a0.length : Int))), (96, (iq l155i96))]) 122 s184) 123 (iq l155i96)) F_) ?_
 refine al_idxH 2 0 hb186 (at_some hu188).1 (at_some hu188).2.1 rfl rfl rfl rfl Try.underlying94 sz5 rfl (fun p189 hp190 => ?_)
 refine al_nil ?_
 exact fr_fin hK_ ⟨p189, hp190⟩⟩, ⟨_, rfl, [24], rfl, by
 rintro ⟨p189, hp190⟩
 intro X_ Y_ F_ K_ hK_
 refine al_show (m := Mem.plus (memOf w0 Z0 [(oRow v0_0 94 (tyH us0) a0), (oBag 5 tyU8 us0 b0)] [(oBag 5 tyU8 us0 l155xb0), (oRow v0_0 94 (tyH us0) ((l7x0.set (l7i36).toNat u16).set (j14i7).toNat u21)), (oBag 5 tyU8 j3us4 l155xb4), (oRow v2 94 (tyH j3us4) ((l7x4.set (l7i36).toNat u34).set (j14i7).toNat u39))] [(fDat (tyH us0) [s56] u52), (fDat (tyH j3us4) [s43] u39), (fDat (tyH us0) [s25] u21)]) X_ Y_) (S := over (put (tab [(0, v0_0), (3, (iq (a0.length : Int))), (4, v2), (6, (iq l7i36)), (8, (i8 r64.1)), (10, (iq l155i96)), (35, (iq (a0.length : Int))), (36, (iq l7i36)), (95, (iq (a0.length : Int))), (96, (iq l155i96))]) 124 p189) F_) ?_
 refine al_val (ov_loadH (ds := [(i8 (u187.toNat : Int))]) 2 rfl hp190 hb186 (at_some hu188).2.2 (fun h => h) rfl Try.underlying5 sz5 rfl rfl rfl) ?_
 refine al_nil ?_
 exact fr_fin hK_ ()⟩, trivial⟩ ?_
        intro _
        intro _
        intro _
        rintro ⟨p171, hp172⟩
        intro s173
        intro _
        rintro ⟨p178, hp179⟩
        intro _
        intro X_ Y_ F_ K_ hK_
        refine al_show (m := Mem.plus (memOf w0 Z0 [(oRow v0_0 94 (tyH us0) a0), (oBag 5 tyU8 us0 b0)] [(oBag 5 tyU8 us0 l155xb0), (oRow v0_0 94 (tyH us0) ((l7x0.set (l7i36).toNat u16).set (j14i7).toNat u21)), (oBag 5 tyU8 j3us4 l155xb4), (oRow v2 94 (tyH j3us4) ((l7x4.set (l7i36).toNat u34).set (j14i7).toNat u39))] [(fDat (tyH us0) [s173] u169), (fDat (tyH us0) [s56] u52), (fDat (tyH j3us4) [s43] u39), (fDat (tyH us0) [s25] u21)]) X_ Y_) (S := over (put (put (put (put (put (put (put (put (tab [(0, v0_0), (3, (iq (a0.length : Int))), (4, v2), (6, (iq l7i36)), (8, (i8 r64.1)), (10, (iq l155i96)), (35, (iq (a0.length : Int))), (36, (iq l7i36)), (95, (iq (a0.length : Int))), (96, (iq l155i96))]) 109 (i8 r64.1)) 110 v0_0) 111 (iq l7i36)) 112 p171) 113 s173) 114 (iq l155i96)) 115 p178) 116 (i8 (u176.toNat : Int))) F_) ?_
        obtain ⟨r192, hc191, h⟩ := opt_some h
        refine al_callX (vs := [(i8 r64.1), (i8 (u176.toNat : Int))]) (f_field_Mul_ok fu r64.1 (u176.toNat : Int) hc191) [] [] [0, 1, 2, 3] pre_nil rfl (by simp) (by decide) rfl (.inl rfl) rfl Try.func95 rfl rfl rfl (fun _ => ?_)
        refine al_nil ?_
        refine aq_show (m := Mem.plus (memOf w0 Z0 [(oRow v0_0 94 (tyH us0) a0), (oBag 5 tyU8 us0 b0)] [(oBag 5 tyU8 us0 l155xb0), (oRow v0_0 94 (tyH us0) ((l7x0.set (l7i36).toNat u16).set (j14i7).toNat u21)), (oBag 5 tyU8 j3us4 l155xb4), (oRow v2 94 (tyH j3us4) ((l7x4.set (l7i36).toNat u34).set (j14i7).toNat u39))] [(fDat (tyH us0) [s173] u169), (fDat (tyH us0) [s56] u52), (fDat (tyH j3us4) [s43] u39), (fDat (tyH us0) [s25] u21)]) X_ Y_) ?_
        refine aq_next hK_ [0, 1, 2, 3] [1, 2, 3] [(0, v0_0), (3, (iq (a0.length : Int))), (4, v2), (6, (iq l7i36)), (8, (i8 r64.1)), (10, (iq l155i96)), (35, (iq (a0.length : Int))), (36, (iq l7i36)), (95, (iq (a0.length : Int))), (96, (iq l155i96)), (117, (i8 r192))] [99, 100, 101, 102, 103, 104, 105, 106, 107, 108, 118, 119, 120, 121, 122, 123, 124, 125] [] rfl rfl (by decide) rfl ⟨rfl, rfl, rfl, rfl, rfl, rfl, rfl, rfl, rfl, rfl, rfl, trivial⟩ ⟨rfl, rfl, rfl, rfl, rfl, rfl, rfl, rfl, rfl, rfl, rfl, rfl, rfl, rfl, rfl, rfl, rfl, rfl, trivial⟩ ?_
        clear hK_ K_ F_ X_ Y_
        refine ta_show (m := (memOf w0 Z0 [(oRow v0_0 94 (tyH us0) a0), (oBag 5 tyU8 us0 b0)] [(oBag 5 tyU8 us0 l155xb0), (oRow v0_0 94 (tyH us0) ((l7x0.set (l7i36).toNat u16).set (j14i7).toNat u21)), (oBag 5 tyU8 j3us4 l155xb4), (oRow v2 94 (tyH j3us4) ((l7x4.set (l7i36).toNat u34).set (j14i7).toNat u39))] [(fDat (tyH us0) [s56] u52), (fDat (tyH j3us4) [s43] u39), (fDat (tyH us0) [s25] u21)])) (S := (tab [(0, v0_0), (3, (iq (a0.length : Int))), (4, v2), (6, (iq l7i36)), (8, (i8 r64.1)), (10, (iq l155i96)), (35, (iq (a0.length : Int))), (36, (iq l7i36)), (95, (iq (a0.length : Int))), (96, (iq l155i96)), (117, (i8 r192))])) ?_
        refine ta_step 27 _ [0, 1, 2, 3, 4, 5, 6, 7, 8, 9, 19, 20, 21, 22, 23, 24, 25, 26] [99, 100, 101, 102, 103, 104, 105, 106, 107, 108, 118, 119, 120, 121, 122, 123, 124, 125] [19, 20, 21, 22, 23, 24, 25, 26] [28] [⟨19, 118, Unit, fun _ => { val := (i8 r64.1) }⟩, ⟨20, 119, Unit, fun _ => { val := v2 }⟩, ⟨21, 120, Unit, fun _ => { val := (iq l7i36) }⟩, ⟨22, 121, {p : Value // EltOf v2 p ((l7i36).toNat * Ty.size (tyH j3us4))}, fun p => { val := p.1 }⟩, ⟨23, 122, Value, fun (i : Value) => { val := i, fz := [(fDat (tyH j3us4) [i] u180)] }⟩, ⟨24, 123, Unit, fun _ => { val := (iq l155i96) }⟩, ⟨25, 124, {p : Value // EltH j3us4 u180 p ((l155i96).toNat * Ty.size tyU8)}, fun p => { val := p.1 }⟩, ⟨26, 125, Unit, fun _ => { val := (i8 (u187.toNat : Int)) }⟩] [⟨0, 99, Unit, fun _ => { val := v0_0 }⟩, ⟨1, 100, Unit, fun _ => { val := (iq l7i36) }⟩, ⟨2, 101, {p : Value // EltOf v0_0 p ((l7i36).toNat * Ty.size (tyH us0))}, fun p => { val := p.1 }⟩, ⟨3, 102, Value, fun (i : Value) => { val := i, fz := [(fDat (tyH us0) [i] u159)] }⟩, ⟨4, 103, Unit, fun _ => { val := (iq l155i96) }⟩, ⟨5, 104, Unit, fun _ => { val := v2 }⟩, ⟨6, 105, Unit, fun _ => { val := (iq l7i36) }⟩, ⟨7, 106, {p : Value // EltOf v2 p ((l7i36).toNat * Ty.size (tyH j3us4))}, fun p => { val := p.1 }⟩, ⟨8, 107, Value, fun (i : Value) => { val := i, fz := [(fDat (tyH j3us4) [i] u164)] }⟩, ⟨9, 108, Unit, fun _ => { val := (iq l155i96) }⟩] rfl rfl rfl (by kernel_rfl) rfl rfl rfl ⟨⟨_, rfl, [], rfl, by
 intro X_ Y_ F_ K_ hK_
 refine al_show (m := Mem.plus (memOf w0 Z0 [(oRow v0_0 94 (tyH us0) a0), (oBag 5 tyU8 us0 b0)] [(oBag 5 tyU8 us0 l155xb0), (oRow v0_0 94 (tyH us0) ((l7x0.set (l7i36).toNat u16).set (j14i7).toNat u21)), (oBag 5 tyU8 j3us4 l155xb4), (oRow v2 94 (tyH j3us4) ((l7x4.set (l7i36).toNat u34).set (j14i7).toNat u39))] [(fDat (tyH us0) [s56] u52), (fDat (tyH j3us4) [s43] u39), (fDat (tyH us0) [s25] u21)]) X_ Y_) (S := over (tab [(0, v0_0), (3, (iq (a0.length : Int))), (4, v2), (6, (iq l7i36)), (8, (i8 r64.1)), (10, (iq l155i96)), (35, (iq (a0.length : Int))), (36, (iq l7i36)), (95, (iq (a0.length : Int))), (96, (iq l155i96)), (117, (i8 r192))]) F_) ?_
 refine al_mv rfl rfl ?_
 refine al_nil ?_
 exact fr_fin hK_ ()⟩, ⟨_, rfl, [], rfl, by
 intro X_ Y_ F_ K_ hK_
 refine al_show (m := Mem.plus (memOf w0 Z0 [(oRow v0_0 94 (tyH us0) a0), (oBag 5 tyU8 us0 b0)] [(oBag 5 tyU8 us0 l155xb0), (oRow v0_0 94 (tyH us0) ((l7x0.set (l7i36).toNat u16).set (j14i7).toNat u21)), (oBag 5 tyU8 j3us4 l155xb4), (oRow v2 94 (tyH j3us4) ((l7x4.set (l7i36).toNat u34).set (j14i7).toNat u39))] [(fDat (tyH us0) [s56] u52), (fDat (tyH j3us4) [s43] u39), (fDat (tyH us0) [s25] u21)]) X_ Y_) (S := over (tab [(0, v0_0), (3, (iq (a0.length : Int))), (4, v2), (6, (iq l7i36)), (8, (i8 r64.1)), (10, (iq l155i96)), (35, (iq (a0.length : Int))), (36, (iq l7i36)), (95, (iq (a0.length : Int))), (96, (iq l155i96)), (117, (i8 r192))]) F_) ?_
 refine al_mv rfl rfl ?_
 refine al_nil ?_
 exact fr_fin hK_ ()⟩, ⟨_, rfl, [0, 1], rfl, by
 intro _
 intro _
 intro X_ Y_ F_ K_ hK_
 refine al_show (m := Mem.plus (memOf w0 Z0 [(oRow v0_0 94 (tyH us0) a0), (oBag 5 tyU8 us0 b0)] [(oBag 5 tyU8 us0 l155xb0), (oRow v0_0 94 (tyH us0) ((l7x0.set (l7i36).toNat u16).set (j14i7).toNat u21)), (oBag 5 tyU8 j3us4 l155xb4), (oRow v2 94 (tyH j3us4) ((l7x4.set (l7i36).toNat u34).set (j14i7).toNat u39))] [(fDat (tyH us0) [s56] u52), (fDat (tyH j3us4) [s43] u39), (fDat (tyH us0) [s25] u21)]) X_ Y_) (S := over (put (put (tab [(0, v0_0), (3, (iq (a0.length : Int))), (4, v2), (6, (iq l7i36)), (8, (i8 r64.1)), (10, (iq l155i96)), (35, (iq (a0.length : Int))), (36, (iq l7i36)), (95, (iq (a0.length : Int))), (96, (iq l155i96)), (117, (i8 r192))]) 99 v0_0) 100 (iq l7i36)) F_) ?_
 refine al_idxR 1 (at_some hu160).1 (at_some hu160).2.1 rfl rfl rfl Try.underlying93 sz94 rfl (fun p161 hp162 => ?_)
 refine al_nil ?_
 exact fr_fin hK_ ⟨p161, hp162⟩⟩, ⟨_, rfl, [2], rfl, by
 rintro ⟨p161, hp162⟩
 intro X_ Y_ F_ K_ hK_
 refine al_show (m := Mem.plus (memOf w0 Z0 [(oRow v0_0 94 (tyH us0) a0), (oBag 5 tyU8 us0 b0)] [(oBag 5 tyU8 us0 l155xb0), (oRow v0_0 94 (tyH us0) ((l7x0.set (l7i36).toNat u16).set (j14i7).toNat u21)), (oBag 5 tyU8 j3us4 l155xb4), (oRow v2 94 (tyH j3us4) ((l7x4.set (l7i36).toNat u34).set (j14i7).toNat u39))] [(fDat (tyH us0) [s56] u52), (fDat (tyH j3us4) [s43] u39), (fDat (tyH us0) [s25] u21)]) X_ Y_) (S := over (put (tab [(0, v0_0), (3, (iq (a0.length : Int))), (4, v2), (6, (iq l7i36)), (8, (i8 r64.1)), (10, (iq l155i96)), (35, (iq (a0.length : Int))), (36, (iq l7i36)), (95, (iq (a0.length : Int))), (96, (iq l155i96)), (117, (i8 r192))]) 101 p161) F_) ?_
 refine al_loadR1 1 rfl hp162 (at_some hu160).2.2 rfl Try.underlying94 sz94 rfl rfl rfl (fun s163 => ?_)
 refine al_nil ?_
 exact fr_fin hK_ s163⟩, ⟨_, rfl, [], rfl, by
 intro X_ Y_ F_ K_ hK_
 refine al_show (m := Mem.plus (memOf w0 Z0 [(oRow v0_0 94 (tyH us0) a0), (oBag 5 tyU8 us0 b0)] [(oBag 5 tyU8 us0 l155xb0), (oRow v0_0 94 (tyH us0) ((l7x0.set (l7i36).toNat u16).set (j14i7).toNat u21)), (oBag 5 tyU8 j3us4 l155xb4), (oRow v2 94 (tyH j3us4) ((l7x4.set (l7i36).toNat u34).set (j14i7).toNat u39))] [(fDat (tyH us0) [s56] u52), (fDat (tyH j3us4) [s43] u39), (fDat (tyH us0) [s25] u21)]) X_ Y_) (S := over (tab [(0, v0_0), (3, (iq (a0.length : Int))), (4, v2), (6, (iq l7i36)), (8, (i8 r64.1)), (10, (iq l155i96)), (35, (iq (a0.length : Int))), (36, (iq l7i36)), (95, (iq (a0.length : Int))), (96, (iq l155i96)), (117, (i8 r192))]) F_) ?_
 refine al_mv rfl rfl ?_
 refine al_nil ?_
 exact fr_fin hK_ ()⟩, ⟨_, rfl, [], rfl, by
 intro X_ Y_ F_ K_ hK_
 refine al_show (m := Mem.plus (memOf w0 Z0 [(oRow v0_0 94 (tyH us0) a0), (oBag 5 tyU8 us0 b0)] [(oBag 5 tyU8 us0 l155xb0), (oRow v0_0 94 (tyH us0) ((l7x0.set (l7i36).toNat u16).set (j14i7).toNat u21)), (oBag 5 tyU8 j3us4 l155xb4), (oRow v2 94 (tyH j3us4) ((l7x4.set (l7i36).toNat u34).set (j14i7).toNat u39))] [(fDat (tyH us0) [s56] u52), (fDat (tyH j3us4) [s43] u39), (fDat (tyH us0) [s25] u21)]) X_ Y_) (S := over (tab [(0, v0_0), (3, (iq (a0.length : Int))), (4, v2), (6, (iq l7i36)), (8, (i8 r64.1)), (10, (iq l155i96)), (35, (iq (a0.length : Int))), (36, (iq l7i36)), (95, (iq (a0.length : Int))), (96, (iq l155i96)), (117, (i8 r192))]) F_) ?_
 refine al_mv rfl rfl ?_
 refine al_nil ?_
 exact fr_fin hK_ ()⟩, ⟨_, rfl, [], rfl, by
 intro X_ Y_ F_ K_ hK_
 refine al_show (m := Mem.plus (memOf w0 Z0 [(oRow v0_0 94 (tyH us0) a0), (oBag 5 tyU8 us0 b0)] [(oBag 5 tyU8 us0 l155xb0), (oRow v0_0 94 (tyH us0) ((l7x0.set (l7i36).toNat u16).set (j14i7).toNat u21)), (oBag 5 tyU8 j3us4 l155xb4), (oRow v2 94 (tyH j3us4) ((l7x4.set (l7i36).toNat u34).set (j14i7).toNat u39))] [(fDat (tyH us0) [s56] u52), (fDat (tyH j3us4) [s43] u39), (fDat (tyH us0) [s25] u21)]) X_ Y_) (S := over (tab [(0, v0_0), (3, (iq (a0.length : Int))), (4, v2), (6, (iq l7i36)), (8, (i8 r64.1)), (10, (iq l155i96)), (35, (iq (a0.length : Int))), (36, (iq l7i36)), (95, (iq (a0.length : Int))), (96, (iq l155i96)), (117, (i8 r192))]) F_) ?_
 refine al_mv rfl rfl ?_
 refine al_nil ?_
 exact fr_fin hK_ ()⟩, ⟨_, rfl, [5, 6], rfl, by
 intro _
 intro _
 intro X_ Y_ F_ K_ hK_
 refine al_show (m := Mem.plus (memOf w0 Z0 [(oRow v0_0 94 (tyH us0) a0), (oBag 5 tyU8 us0 b0)] [(oBag 5 tyU8 us0 l155xb0), (oRow v0_0 94 (tyH us0) ((l7x0.set (l7i36).toNat u16).set (j14i7).toNat u21)), (oBag 5 tyU8 j3us4 l155xb4), (oRow v2 94 (tyH j3us4) ((l7x4.set (l7i36).toNat u34).set (j14i7).toNat u39))] [(fDat (tyH us0) [s56] u52), (fDat (tyH j3us4) [s43] u39), (fDat (tyH us0) [s25] u21)]) X_ Y_) (S := over (put (put (tab [(0, v0_0), (3, (iq (a0.length : Int))), (4, v2), (6, (iq l7i36)), (8, (i8 r64.1)), (10, (iq l155i96)), (35, (iq (a0.length : Int))), (36, (iq l7i36)), (95, (iq (a0.length : Int))), (96, (iq l155i96)), (117, (i8 r192))]) 104 v2) 105 (iq l7i36)) F_) ?_
 refine al_idxR 3 (at_some hu165).1 (at_some hu165).2.1 rfl rfl rfl Try.underlying93 sz94 rfl (fun p166 hp167 => ?_)
 refine al_nil ?_
 exact fr_fin hK_ ⟨p166, hp167⟩⟩, ⟨_, rfl, [7], rfl, by
 rintro ⟨p166, hp167⟩
 intro X_ Y_ F_ K_ hK_
 refine al_show (m := Mem.plus (memOf w0 Z0 [(oRow v0_0 94 (tyH us0) a0), (oBag 5 tyU8 us0 b0)] [(oBag 5 tyU8 us0 l155xb0), (oRow v0_0 94 (tyH us0) ((l7x0.set (l7i36).toNat u16).set (j14i7).toNat u21)), (oBag 5 tyU8 j3us4 l155xb4), (oRow v2 94 (tyH j3us4) ((l7x4.set (l7i36).toNat u34).set (j14i7).toNat u39))] [(fDat (tyH us0) [s56] u52), (fDat (tyH j3us4) [s43] u39), (fDat (tyH us0) [s25] u21)]) X_ Y_) (S := over (put (tab [(0, v0_0), (3, (iq (a0.length : Int))), (4, v2), (6, (iq l7i36)), (8, (i8 r64.1)), (10, (iq l155i96)), (35, (iq (a0.length : Int))), (36, (iq l7i36)), (95, (iq (a0.length : Int))), (96, (iq l155i96)), (117, (i8 r192))]) 106 p166) F_) ?_
 refine al_loadR1 3 rfl hp167 (at_some hu165).2.2 rfl Try.underlying94 sz94 rfl rfl rfl (fun s168 => ?_)
 refine al_nil ?_
 exact fr_fin hK_ s168⟩, ⟨_, rfl, [], rfl, by
 intro X_ Y_ F_ K_ hK_
 refine al_show (m := Mem.plus (memOf w0 Z0 [(oRow v0_0 94 (tyH us0) a0), (oBag 5 tyU8 us0 b0)] [(oBag 5 tyU8 us0 l155xb0), (oRow v0_0 94 (tyH us0) ((l7x0.set (l7i36).toNat u16).set (j14i7).toNat u21)), (oBag 5 tyU8 j3us4 l155xb4), (oRow v2 94 (tyH j3us4) ((l7x4.set (l7i36).toNat u34).set (j14i7).toNat u39))] [(fDat (tyH us0) [s56] u52), (fDat (tyH j3us4) [s43] u39), (fDat (tyH us0) [s25] u21)]) X_ Y_) (S := over (tab [(0, v0_0), (3, (iq (a0.length : Int))), (4, v2), (6, (iq l7i36)), (8, (i8 r64.1)), (10, (iq l155i96)), (35, (iq (a0.length : Int))), (36, (iq l7i36)), (95, (iq (a0.length : Int))), (96, (iq l155i96)), (117, (i8 r192))]) F_) ?_
 refine al_mv rfl rfl ?_
 refine al_nil ?_
 exact fr_fin hK_ ()⟩, ⟨_, rfl, [], rfl, by
 intro X_ Y_ F_ K_ hK_
 refine al_show (m := Mem.plus (memOf w0 Z0 [(oRow v0_0 94 (tyH us0) a0), (oBag 5 tyU8 us0 b0)] [(oBag 5 tyU8 us0 l155xb0), (oRow v0_0 94 (tyH us0) ((l7x0.set (l7i36).toNat u16).set (j14i7).toNat u21)), (oBag 5 tyU8 j3us4 l155xb4), (oRow v2 94 (tyH j3us4) ((l7x4.set (l7i36).toNat u34).set (j14i7).toNat u39))] [(fDat (tyH us0) [s56] u52), (fDat (tyH j3us4) [s43] u39), (fDat (tyH us0) [s25] u21)]) X_ Y_) (S := over (tab [(0, v0_0), (3, (iq (a0.length : Int))), (4, v2), (6, (iq l7i36)), (8, (i8 r64.1)), (10, (iq l155i96)), (35, (iq (a0.length : Int))), (36, (iq l7i36)), (95, (iq (a0.length : Int))), (96, (iq l155i96)), (117, (i8 r192))]) F_) ?_
 refine al_mv rfl rfl ?_
 refine al_nil ?_
 exact fr_fin hK_ ()⟩, ⟨_, rfl, [], rfl, by
 intro X_ Y_ F_ K_ hK_
 refine al_show (m := Mem.plus (memOf w0 Z0 [(oRow v0_0 94 (tyH us0) a0), (oBag 5 tyU8 us0 b0)] [(oBag 5 tyU8 us0 l155xb0), (oRow v0_0 94 (tyH us0) ((l7x0.set (l7i36).toNat u16).set (j14i7).toNat u21)), (oBag 5 tyU8 j3us4 l155xb4), (oRow v2 94 (tyH j3us4) ((l7x4.set (l7i36).toNat u34).set (j14i7).toNat u39))] [(fDat (tyH us0) [s56] u52), (fDat (tyH j3us4) [s43] u39), (fDat (tyH us0) [s25] u21)]) X_ Y_) (S := over (tab [(0, v0_0), (3, (iq (a0.length : Int))), (4, v2), (6, (iq l7i36)), (8, (i8 r64.1)), (10, (iq l155i96)), (35, (iq (a0.length : Int))), (36, (iq l7i36)), (95, (iq (a0.length : Int))), (96, (iq l155i96)), (117, (i8 r192))]) F_) ?_
 refine al_mv rfl rfl ?_
 refine al_nil ?_
 exact fr_fin hK_ ()⟩, ⟨_, rfl, [], rfl, by
 intro X_ Y_ F_ K_ hK_
 refine al_show (m := Mem.plus (memOf w0 Z0 [(oRow v0_0 94 (tyH us0) a0), (oBag 5 tyU8 us0 b0)] [(oBag 5 tyU8 us0 l155xb0), (oRow v0_0 94 (tyH us0) ((l7x0.set (l7i36).toNat u16).set (j14i7).toNat u21)), (oBag 5 tyU8 j3us4 l155xb4), (oRow v2 94 (tyH j3us4) ((l7x4.set (l7i36).toNat u34).set (j14i7).toNat u39))] [(fDat (tyH us0) [s56] u52), (fDat (tyH j3us4) [s43] u39), (fDat (tyH us0) [s25] u21)]) X_ Y_) (S := over (tab [(0, v0_0), (3, (iq (a0.length : Int))), (4, v2), (6, (iq l7i36)), (8, (i8 r64.1)), (10, (iq l155i96)), (35, (iq (a0.length : Int))), (36, (iq l7i36)), (95, (iq (a0.length : Int))), (96, (iq l155i96)), (117, (i8 r192))]) F_) ?_
 refine al_mv rfl rfl ?_
 refine al_nil ?_
 exact fr_fin hK_ ()⟩, ⟨_, rfl, [11, 12], rfl, by
 intro _
 intro _
 intro X_ Y_ F_ K_ hK_
 refine al_show (m := Mem.plus (memOf w0 Z0 [(oRow v0_0 94 (tyH us0) a0), (oBag 5 tyU8 us0 b0)] [(oBag 5 tyU8 us0 l155xb0), (oRow v0_0 94 (tyH us0) ((l7x0.set (l7i36).toNat u16).set (j14i7).toNat u21)), (oBag 5 tyU8 j3us4 l155xb4), (oRow v2 94 (tyH j3us4) ((l7x4.set (l7i36).toNat u34).set (j14i7).toNat u39))] [(fDat (tyH us0) [s56] u52), (fDat (tyH j3us4) [s43] u39), (fDat (tyH us0) [s25] u21)]) X_ Y_) (S := over (put (put (tab [(0, v0_0), (3, (iq (a0.length : Int))), (4, v2), (6, (iq l7i36)), (8, (i8 r64.1)), (10, (iq l155i96)), (35, (iq (a0.length : Int))), (36, (iq l7i36)), (95, (iq (a0.length : Int))), (96, (iq l155i96)), (117, (i8 r192))]) 119 v2) 120 (iq l7i36)) F_) ?_
 refine al_idxR 3 (at_some hu181).1 (at_some hu181).2.1 rfl rfl rfl Try.underlying93 sz94 rfl (fun p182 hp183 => ?_)
 refine al_nil ?_
 exact fr_fin hK_ ⟨p182, hp183⟩⟩, ⟨_, rfl, [13], rfl, by
 rintro ⟨p182, hp183⟩
 intro X_ Y_ F_ K_ hK_
 refine al_show (m := Mem.plus (memOf w0 Z0 [(oRow v0_0 94 (tyH us0) a0), (oBag 5 tyU8 us0 b0)] [(oBag 5 tyU8 us0 l155xb0), (oRow v0_0 94 (tyH us0) ((l7x0.set (l7i36).toNat u16).set (j14i7).toNat u21)), (oBag 5 tyU8 j3us4 l155xb4), (oRow v2 94 (tyH j3us4) ((l7x4.set (l7i36).toNat u34).set (j14i7).toNat u39))] [(fDat (tyH us0) [s56] u52), (fDat (tyH j3us4) [s43] u39), (fDat (tyH us0) [s25] u21)]) X_ Y_) (S := over (put (tab [(0, v0_0), (3, (iq (a0.length : Int))), (4, v2), (6, (iq l7i36)), (8, (i8 r64.1)), (10, (iq l155i96)), (35, (iq (a0.length : Int))), (36, (iq l7i36)), (95, (iq (a0.length : Int))), (96, (iq l155i96)), (117, (i8 r192))]) 121 p182) F_) ?_
 refine al_loadR1 3 rfl hp183 (at_some hu181).2.2 rfl Try.underlying94 sz94 rfl rfl rfl (fun s184 => ?_)
 refine al_nil ?_
 exact fr_fin hK_ s184⟩, ⟨_, rfl, [], rfl, by
 intro X_ Y_ F_ K_ hK_
 refine al_show (m := Mem.plus (memOf w0 Z0 [(oRow v0_0 94 (tyH us0) a0), (oBag 5 tyU8 us0 b0)] [(oBag 5 tyU8 us0 l155xb0), (oRow v0_0 94 (tyH us0) ((l7x0.set (l7i36).toNat u16).set (j14i7).toNat u21)), (oBag 5 tyU8 j3us4 l155xb4), (oRow v2 94 (tyH j3us4) ((l7x4.set (l7i36).toNat u34).set (j14i7).toNat u39))] [(fDat (tyH us0) [s56] u52), (fDat (tyH j3us4) [s43] u39), (fDat (tyH us0) [s25] u21)]) X_ Y_) (S := over (tab [(0, v0_0), (3, (iq (a0.length : Int))), (4, v2), (6, (iq l7i36)), (8, (i8 r64.1)), (10, (iq l155i96)), (35, (iq (a0.length : Int))), (36, (iq l7i36)), (95, (iq (a0.length : Int))), (96, (iq l155i96)), (117, (i8 r192))]) F_) ?_
 refine al_mv rfl rfl ?_
 refine al_nil ?_
 exact fr_fin hK_ ()⟩, ⟨_, rfl, [14, 15], rfl, by
 intro s184
 intro _
 intro X_ Y_ F_ K_ hK_
 refine al_show (m := Mem.plus (memOf w0 Z0 [(oRow v0_0 94 (tyH us0) a0), (oBag 5 tyU8 us0 b0)] [(oBag 5 tyU8 us0 l155xb0), (oRow v0_0 94 (tyH us0) ((l7x0.set (l7i36).toNat u16).set (j14i7).toNat u21)), (oBag 5 tyU8 j3us4 l155xb4), (oRow v2 94 (tyH j3us4) ((l7x4.set (l7i36).toNat u34).set (j14i7).toNat u39))] [(fDat (tyH j3us4) [s184] u180), (fDat (tyH us0) [s56] u52), (fDat (tyH j3us4) [s43] u39), (fDat (tyH us0) [s25] u21)]) X_ Y_) (S := over (put (put (tab [(0, v0_0), (3, (iq (a0.length : Int))), (4, v2), (6, (iq l7i36)), (8, (i8 r64.1)), (10, (iq l155i96)), (35, (iq (a0.length : Int))), (36, (iq l7i36)), (95, (iq (a0.length : Int))), (96, (iq l155i96)), (117, (i8 r192))]) 122 s184) 123 (iq l155i96)) F_) ?_
 refine al_idxH 2 0 hb186 (at_some hu188).1 (at_some hu188).2.1 rfl rfl rfl rfl Try.underlying94 sz5 rfl (fun p189 hp190 => ?_)
 refine al_nil ?_
 exact fr_fin hK_ ⟨p189, hp190⟩⟩, ⟨_, rfl, [16], rfl, by
 rintro ⟨p189, hp190⟩
 intro X_ Y_ F_ K_ hK_
 refine al_show (m := Mem.plus (memOf w0 Z0 [(oRow v0_0 94 (tyH us0) a0), (oBag 5 tyU8 us0 b0)] [(oBag 5 tyU8 us0 l155xb0), (oRow v0_0 94 (tyH us0) ((l7x0.set (l7i36).toNat u16).set (j14i7).toNat u21)), (oBag 5 tyU8 j3us4 l155xb4), (oRow v2 94 (tyH j3us4) ((l7x4.set (l7i36).toNat u34).set (j14i7).toNat u39))] [(fDat (tyH us0) [s56] u52), (fDat (tyH j3us4) [s43] u39), (fDat (tyH us0) [s25] u21)]) X_ Y_) (S := over (put (tab [(0, v0_0), (3, (iq (a0.length : Int))), (4, v2), (6, (iq l7i36)), (8, (i8 r64.1)), (10, (iq l155i96)), (35, (iq (a0.length : Int))), (36, (iq l7i36)), (95, (iq (a0.length : Int))), (96, (iq l155i96)), (117, (i8 r192))]) 124 p189) F_) ?_
 refine al_val (ov_loadH (ds := [(i8 (u187.toNat : Int))]) 2 rfl hp190 hb186 (at_some hu188).2.2 (fun h => h) rfl Try.underlying5 sz5 rfl rfl rfl) ?_
 refine al_nil ?_
 exact fr_fin hK_ ()⟩, trivial⟩ ?_
        intro _
        intro _
        intro _
        rintro ⟨p182, hp183⟩
        intro s184
        intro _
        rintro ⟨p189, hp190⟩
        intro _
        intro X_ Y_ F_ K_ hK_
        refine al_show (m := Mem.plus (memOf w0 Z0 [(oRow v0_0 94 (tyH us0) a0), (oBag 5 tyU8 us0 b0)] [(oBag 5 tyU8 us0 l155xb0), (oRow v0_0 94 (tyH us0) ((l7x0.set (l7i36).toNat u16).set (j14i7).toNat u21)), (oBag 5 tyU8 j3us4 l155xb4), (oRow v2 94 (tyH j3us4) ((l7x4.set (l7i36).toNat u34).set (j14i7).toNat u39))] [(fDat (tyH j3us4) [s184] u180), (fDat (tyH us0) [s56] u52), (fDat (tyH j3us4) [s43] u39), (fDat (tyH us0) [s25] u21)]) X_ Y_) (S := over (put (put (put (put (put (put (put (put (tab [(0, v0_0), (3, (iq (a0.length : Int))), (4, v2), (6, (iq l7i36)), (8, (i8 r64.1)), (10, (iq l155i96)), (35, (iq (a0.length : Int))), (36, (iq l7i36)), (95, (iq (a0.length : Int))), (96, (iq l155i96)), (117, (i8 r192))]) 118 (i8 r64.1)) 119 v2) 120 (iq l7i36)) 121 p182) 122 s184) 123 (iq l155i96)) 124 p189) 125 (i8 (u187.toNat : Int))) F_) ?_
        obtain ⟨r194, hc193, h⟩ := opt_some h
        refine al_callX (vs := [(i8 r64.1), (i8 (u187.toNat : Int))]) (f_field_Mul_ok fu r64.1 (u187.toNat : Int) hc193) [] [] [0, 1, 2, 3] pre_nil rfl (by simp) (by decide) rfl (.inl rfl) rfl Try.func95 rfl rfl rfl (fun _ => ?_)
        refine al_nil ?_
        obtain ⟨xs195, hb196, h⟩ := opt_some h
        obtain ⟨u197, hu198, h⟩ := opt_some h
        refine aq_show (m := Mem.plus (memOf w0 Z0 [(oRow v0_0 94 (tyH us0) a0), (oBag 5 tyU8 us0 b0)] [(oBag 5 tyU8 us0 l155xb0), (oRow v0_0 94 (tyH us0) ((l7x0.set (l7i36).toNat u16).set (j14i7).toNat u21)), (oBag 5 tyU8 j3us4 l155xb4), (oRow v2 94 (tyH j3us4) ((l7x4.set (l7i36).toNat u34).set (j14i7).toNat u39))] [(fDat (tyH j3us4) [s184] u180), (fDat (tyH us0) [s56] u52), (fDat (tyH j3us4) [s43] u39), (fDat (tyH us0) [s25] u21)]) X_ Y_) ?_
        refine aq_next hK_ [0, 1, 2, 3] [1, 2, 3] [(0, v0_0), (3, (iq (a0.length : Int))), (4, v2), (6, (iq l7i36)), (8, (i8 r64.1)), (10, (iq l155i96)), (35, (iq (a0.length : Int))), (36, (iq l7i36)), (95, (iq (a0.length : Int))), (96, (iq l155i96)), (117, (i8 r192)), (126, (i8 r194))] [99, 100, 101, 102, 103, 104, 105, 106, 107, 108] [⟨28, 127, {p : Value // EltH us0 u159 p ((l155i96).toNat * Ty.size tyU8)}, fun p => { val := p.1 }⟩] rfl rfl (by decide) rfl ⟨rfl, rfl, rfl, rfl, rfl, rfl, rfl, rfl, rfl, rfl, rfl, rfl, trivial⟩ ⟨rfl, rfl, rfl, rfl, rfl, rfl, rfl, rfl, rfl, rfl, trivial⟩ ?_
        clear hK_ K_ F_ X_ Y_
        refine ta_show (m := (memOf w0 Z0 [(oRow v0_0 94 (tyH us0) a0), (oBag 5 tyU8 us0 b0)] [(oBag 5 tyU8 us0 l155xb0), (oRow v0_0 94 (tyH us0) ((l7x0.set (l7i36).toNat u16).set (j14i7).toNat u21)), (oBag 5 tyU8 j3us4 l155xb4), (oRow v2 94 (tyH j3us4) ((l7x4.set (l7i36).toNat u34).set (j14i7).toNat u39))] [(fDat (tyH us0) [s56] u52), (fDat (tyH j3us4) [s43] u39), (fDat (tyH us0) [s25] u21)])) (S := (tab [(0, v0_0), (3, (iq (a0.length : Int))), (4, v2), (6, (iq l7i36)), (8, (i8 r64.1)), (10, (iq l155i96)), (35, (iq (a0.length : Int))), (36, (iq l7i36)), (95, (iq (a0.length : Int))), (96, (iq l155i96)), (117, (i8 r192)), (126, (i8 r194))])) ?_
        refine ta_step 29 _ [0, 1, 2, 3, 4, 5, 6, 7, 8, 9, 28] [99, 100, 101, 102, 103, 104, 105, 106, 107, 108, 127] [0, 1, 2, 3, 4, 5, 6, 7, 8, 28] [30] [⟨0, 99, Unit, fun _ => { val := v0_0 }⟩, ⟨1, 100, Unit, fun _ => { val := (iq l7i36) }⟩, ⟨2, 101, {p : Value // EltOf v0_0 p ((l7i36).toNat * Ty.size (tyH us0))}, fun p => { val := p.1 }⟩, ⟨3, 102, Value, fun (i : Value) => { val := i, fz := [(fDat (tyH us0) [i] u159)] }⟩, ⟨4, 103, Unit, fun _ => { val := (iq l155i96) }⟩, ⟨5, 104, Unit, fun _ => { val := v2 }⟩, ⟨6, 105, Unit, fun _ => { val := (iq l7i36) }⟩, ⟨7, 106, {p : Value // EltOf v2 p ((l7i36).toNat * Ty.size (tyH j3us4))}, fun p => { val := p.1 }⟩, ⟨8, 107, Value, fun (i : Value) => { val := i, fz := [(fDat (tyH j3us4) [i] u164)] }⟩, ⟨28, 127, {p : Value // EltH us0 u159 p ((l155i96).toNat * Ty.size tyU8)}, fun p => { val := p.1 }⟩] [⟨9, 108, Unit, fun _ => { val := (iq l155i96) }⟩] rfl rfl rfl (by kernel_rfl) rfl rfl rfl ⟨⟨_, rfl, [], rfl, by
 intro X_ Y_ F_ K_ hK_
 refine al_show (m := Mem.plus (memOf w0 Z0 [(oRow v0_0 94 (tyH us0) a0), (oBag 5 tyU8 us0 b0)] [(oBag 5 tyU8 us0 l155xb0), (oRow v0_0 94 (tyH us0) ((l7x0.set (l7i36).toNat u16).set (j14i7).toNat u21)), (oBag 5 tyU8 j3us4 l155xb4), (oRow v2 94 (tyH j3us4) ((l7x4.set (l7i36).toNat u34).set (j14i7).toNat u39))] [(fDat (tyH us0) [s56] u52), (fDat (tyH j3us4) [s43] u39), (fDat (tyH us0) [s25] u21)]) X_ Y_) (S := over (tab [(0, v0_0), (3, (iq (a0.length : Int))), (4, v2), (6, (iq l7i36)), (8, (i8 r64.1)), (10, (iq l155i96)), (35, (iq (a0.length : Int))), (36, (iq l7i36)), (95, (iq (a0.length : Int))), (96, (iq l155i96)), (117, (i8 r192)), (126, (i8 r194))]) F_) ?_
 refine al_mv rfl rfl ?_
 refine al_nil ?_
 exact fr_fin hK_ ()⟩, ⟨_, rfl, [], rfl, by
 intro X_ Y_ F_ K_ hK_
 refine al_show (m := Mem.plus (memOf w0 Z0 [(oRow v0_0 94 (tyH us0) a0), (oBag 5 tyU8 us0 b0)] [(oBag 5 tyU8 us0 l155xb0), (oRow v0_0 94 (tyH us0) ((l7x0.set (l7i36).toNat u16).set (j14i7).toNat u21)), (oBag 5 tyU8 j3us4 l155xb4), (oRow v2 94 (tyH j3us4) ((l7x4.set (l7i36).toNat u34).set (j14i7).toNat u39))] [(fDat (tyH us0) [s56] u52), (fDat (tyH j3us4) [s43] u39), (fDat (tyH us0) [s25] u21)]) X_ Y_) (S := over (tab [(0, v0_0), (3, (iq (a0.length : Int))), (4, v2), (6, (iq l7i36)), (8, (i8 r64.1)), (10, (iq l155i96)), (35, (iq (a0.length : Int))), (36, (iq l7i36)), (95, (iq (a0.length : Int))), (96, (iq l155i96)), (117, (i8 r192)), (126, (i8 r194))]) F_) ?_
 refine al_mv rfl rfl ?_
 refine al_nil ?_
 exact fr_fin hK_ ()⟩, ⟨_, rfl, [0, 1], rfl, by
 intro _
 intro _
 intro X_ Y_ F_ K_ hK_
 refine al_show (m := Mem.plus (memOf w0 Z0 [(oRow v0_0 94 (tyH us0) a0), (oBag 5 tyU8 us0 b0)] [(oBag 5 tyU8 us0 l155xb0), (oRow v0_0 94 (tyH us0) ((l7x0.set (l7i36).toNat u16).set (j14i7).toNat u21)), (oBag 5 tyU8 j3us4 l155xb4), (oRow v2 94 (tyH j3us4) ((l7x4.set (l7i36).toNat u34).set (j14i7).toNat u39))] [(fDat (tyH us0) [s56] u52), (fDat (tyH j3us4) [s43] u39), (fDat (tyH us0) [s25] u21)]) X_ Y_) (S := over (put (put (tab [(0, v0_0), (3, (iq (a0.length : Int))), (4, v2), (6, (iq l7i36)), (8, (i8 r64.1)), (10, (iq l155i96)), (35, (iq (a0.length : Int))), (36, (iq l7i36)), (95, (iq (a0.length : Int))), (96, (iq l155i96)), (117, (i8 r192)), (126, (i8 r194))]) 99 v0_0) 100 (iq l7i36)) F_) ?_
 refine al_idxR 1 (at_some hu160).1 (at_some hu160).2.1 rfl rfl rfl Try.underlying93 sz94 rfl (fun p161 hp162 => ?_)
 refine al_nil ?_
 exact fr_fin hK_ ⟨p161, hp162⟩⟩, ⟨_, rfl, [2], rfl, by
 rintro ⟨p161, hp162⟩
 intro X_ Y_ F_ K_ hK_
 refine al_show (m := Mem.plus (memOf w0 Z0 [(oRow v0_0 94 (tyH us0) a0), (oBag 5 tyU8 us0 b0)] [(oBag 5 tyU8 us0 l155xb0), (oRow v0_0 94 (tyH us0) ((l7x0.set (l7i36).toNat u16).set (j14i7).toNat u21)), (oBag 5 tyU8 j3us4 l155xb4), (oRow v2 94 (tyH j3us4) ((l7x4.set (l7i36).toNat u34).set (j14i7).toNat u39))] [(fDat (tyH us0) [s56] u52), (fDat (tyH j3us4) [s43] u39), (fDat (tyH us0) [s25] u21)]) X_ Y_) (S := over (put (tab [(0, v0_0), (3, (iq (a0.length : Int))), (4, v2), (6, (iq l7i36)), (8, (i8 r64.1)), (10, (iq l155i96)), (35, (iq (a0.length : Int))), (36, (iq l7i36)), (95, (iq (a0.length : Int))), (96, (iq l155i96)), (117, (i8 r192)), (126, (i8 r194))]) 101 p161) F_) ?_
 refine al_loadR1 1 rfl hp162 (at_some hu160).2.2 rfl Try.underlying94 sz94 rfl rfl rfl (fun s163 => ?_)
 refine al_nil ?_
 exact fr_fin hK_ s163⟩, ⟨_, rfl, [], rfl, by
 intro X_ Y_ F_ K_ hK_
 refine al_show (m := Mem.plus (memOf w0 Z0 [(oRow v0_0 94 (tyH us0) a0), (oBag 5 tyU8 us0 b0)] [(oBag 5 tyU8 us0 l155xb0), (oRow v0_0 94 (tyH us0) ((l7x0.set (l7i36).toNat u16).set (j14i7).toNat u21)), (oBag 5 tyU8 j3us4 l155xb4), (oRow v2 94 (tyH j3us4) ((l7x4.set (l7i36).toNat u34).set (j14i7).toNat u39))] [(fDat (tyH us0) [s56] u52), (fDat (tyH j3us4) [s43] u39), (fDat (tyH us0) [s25] u21)]) X_ Y_) (S := over (tab [(0, v0_0), (3, (iq (a0.length : Int))), (4, v2), (6, (iq l7i36)), (8, (i8 r64.1)), (10, (iq l155i96)), (35, (iq (a0.length : Int))), (36, (iq l7i36)), (95, (iq (a0.length : Int))), (96, (iq l155i96)), (117, (i8 r192)), (126, (i8 r194))]) F_) ?_
 refine al_mv rfl rfl ?_
 refine al_nil ?_
 exact fr_fin hK_ ()⟩, ⟨_, rfl, [], rfl, by
 intro X_ Y_ F_ K_ hK_
 refine al_show (m := Mem.plus (memOf w0 Z0 [(oRow v0_0 94 (tyH us0) a0), (oBag 5 tyU8 us0 b0)] [(oBag 5 tyU8 us0 l155xb0), (oRow v0_0 94 (tyH us0) ((l7x0.set (l7i36).toNat u16).set (j14i7).toNat u21)), (oBag 5 tyU8 j3us4 l155xb4), (oRow v2 94 (tyH j3us4) ((l7x4.set (l7i36).toNat u34).set (j14i7).toNat u39))] [(fDat (tyH us0) [s56] u52), (fDat (tyH j3us4) [s43] u39), (fDat (tyH us0) [s25] u21)]) X_ Y_) (S := over (tab [(0, v0_0), (3, (iq (a0.length : Int))), (4, v2), (6, (iq l7i36)), (8, (i8 r64.1)), (10, (iq l155i96)), (35, (iq (a0.length : Int))), (36, (iq l7i36)), (95, (iq (a0.length : Int))), (96, (iq l155i96)), (117, (i8 r192)), (126, (i8 r194))]) F_) ?_
 refine al_mv rfl rfl ?_
 refine al_nil ?_
 exact fr_fin hK_ ()⟩, ⟨_, rfl, [], rfl, by
 intro X_ Y_ F_ K_ hK_
 refine al_show (m := Mem.plus (memOf w0 Z0 [(oRow v0_0 94 (tyH us0) a0), (oBag 5 tyU8 us0 b0)] [(oBag 5 tyU8 us0 l155xb0), (oRow v0_0 94 (tyH us0) ((l7x0.set (l7i36).toNat u16).set (j14i7).toNat u21)), (oBag 5 tyU8 j3us4 l155xb4), (oRow v2 94 (tyH j3us4) ((l7x4.set (l7i36).toNat u34).set (j14i7).toNat u39))] [(fDat (tyH us0) [s56] u52), (fDat (tyH j3us4) [s43] u39), (fDat (tyH us0) [s25] u21)]) X_ Y_) (S := over (tab [(0, v0_0), (3, (iq (a0.length : Int))), (4, v2), (6, (iq l7i36)), (8, (i8 r64.1)), (10, (iq l155i96)), (35, (iq (a0.length : Int))), (36, (iq l7i36)), (95, (iq (a0.length : Int))), (96, (iq l155i96)), (117, (i8 r192)), (126, (i8 r194))]) F_) ?_
 refine al_mv rfl rfl ?_
 refine al_nil ?_
 exact fr_fin hK_ ()⟩, ⟨_, rfl, [5, 6], rfl, by
 intro _
 intro _
 intro X_ Y_ F_ K_ hK_
 refine al_show (m := Mem.plus (memOf w0 Z0 [(oRow v0_0 94 (tyH us0) a0), (oBag 5 tyU8 us0 b0)] [(oBag 5 tyU8 us0 l155xb0), (oRow v0_0 94 (tyH us0) ((l7x0.set (l7i36).toNat u16).set (j14i7).toNat u21)), (oBag 5 tyU8 j3us4 l155xb4), (oRow v2 94 (tyH j3us4) ((l7x4.set (l7i36).toNat u34).set (j14i7).toNat u39))] [(fDat (tyH us0) [s56] u52), (fDat (tyH j3us4) [s43] u39), (fDat (tyH us0) [s25] u21)]) X_ Y_) (S := over (put (put (tab [(0, v0_0), (3, (iq (a0.length : Int))), (4, v2), (6, (iq l7i36)), (8, (i8 r64.1)), (10, (iq l155i96)), (35, (iq (a0.length : Int))), (36, (iq l7i36)), (95, (iq (a0.length : Int))), (96, (iq l155i96)), (117, (i8 r192)), (126, (i8 r194))]) 104 v2) 105 (iq l7i36)) F_) ?_
 refine al_idxR 3 (at_some hu165).1 (at_some hu165).2.1 rfl rfl rfl Try.underlying93 sz94 rfl (fun p166 hp167 => ?_)
 refine al_nil ?_
 exact fr_fin hK_ ⟨p166, hp167⟩⟩, ⟨_, rfl, [7], rfl, by
 rintro ⟨p166, hp167⟩
 intro X_ Y_ F_ K_ hK_
 refine al_show (m := Mem.plus (memOf w0 Z0 [(oRow v0_0 94 (tyH us0) a0), (oBag 5 tyU8 us0 b0)] [(oBag 5 tyU8 us0 l155xb0), (oRow v0_0 94 (tyH us0) ((l7x0.set (l7i36).toNat u16).set (j14i7).toNat u21)), (oBag 5 tyU8 j3us4 l155xb4), (oRow v2 94 (tyH j3us4) ((l7x4.set (l7i36).toNat u34).set (j14i7).toNat u39))] [(fDat (tyH us0) [s56] u52), (fDat (tyH j3us4) [s43] u39), (fDat (tyH us0) [s25] u21)]) X_ Y_) (S := over (put (tab [(0, v0_0), (3, (iq (a0.length : Int))), (4, v2), (6, (iq l7i36)), (8, (i8 r64.1)), (10, (iq l155i96)), (35, (iq (a0.length : Int))), (36, (iq l7i36)), (95, (iq (a0.length : Int))), (96, (iq l155i96)), (117, (i8 r192)), (126, (i8 r194))]) 106 p166) F_) ?_
 refine al_loadR1 3 rfl hp167 (at_some hu165).2.2 rfl Try.underlying94 sz94 rfl rfl rfl (fun s168 => ?_)
 refine al_nil ?_
 exact fr_fin hK_ s168⟩, ⟨_, rfl, [], rfl, by
 intro X_ Y_ F_ K_ hK_
 refine al_show (m := Mem.plus (memOf w0 Z0 [(oRow v0_0 94 (tyH us0) a0), (oBag 5 tyU8 us0 b0)] [(oBag 5 tyU8 us0 l155xb0), (oRow v0_0 94 (tyH us0) ((l7x0.set (l7i36).toNat u16).set (j14i7).toNat u21)), (oBag 5 tyU8 j3us4 l155xb4), (oRow v2 94 (tyH j3us4) ((l7x4.set (l7i36).toNat u34).set (j14i7).toNat u39))] [(fDat (tyH us0) [s56] u52), (fDat (tyH j3us4) [s43] u39), (fDat (tyH us0) [s25] u21)]) X_ Y_) (S := over (tab [(0, v0_0), (3, (iq (a0.length : Int))), (4, v2), (6, (iq l7i36)), (8, (i8 r64.1)), (10, (iq l155i96)), (35, (iq (a0.length : Int))), (36, (iq l7i36)), (95, (iq (a0.length : Int))), (96, (iq l155i96)), (117, (i8 r192)), (126, (i8 r194))]) F_) ?_
 refine al_mv rfl rfl ?_
 refine al_nil ?_
 exact fr_fin hK_ ()⟩, ⟨_, rfl, [0, 1, 2, 3, 4, 8], rfl, by
 intro _
 intro _
 rintro ⟨p161, hp162⟩
 intro s163
 intro _
 intro s168
 intro X_ Y_ F_ K_ hK_
 refine al_show (m := Mem.plus (memOf w0 Z0 [(oRow v0_0 94 (tyH us0) a0), (oBag 5 tyU8 us0 b0)] [(oBag 5 tyU8 us0 l155xb0), (oRow v0_0 94 (tyH us0) ((l7x0.set (l7i36).toNat u16).set (j14i7).toNat u21)), (oBag 5 tyU8 j3us4 l155xb4), (oRow v2 94 (tyH j3us4) ((l7x4.set (l7i36).toNat u34).set (j14i7).toNat u39))] [(fDat (tyH j3us4) [s168] u164), (fDat (tyH us0) [s163] u159), (fDat (tyH us0) [s56] u52), (fDat (tyH j3us4) [s43] u39), (fDat (tyH us0) [s25] u21)]) X_ Y_) (S := over (put (put (put (put (put (put (tab [(0, v0_0), (3, (iq (a0.length : Int))), (4, v2), (6, (iq l7i36)), (8, (i8 r64.1)), (10, (iq l155i96)), (35, (iq (a0.length : Int))), (36, (iq l7i36)), (95, (iq (a0.length : Int))), (96, (iq l155i96)), (117, (i8 r192)), (126, (i8 r194))]) 99 v0_0) 100 (iq l7i36)) 101 p161) 102 s163) 103 (iq l155i96)) 107 s168) F_) ?_
 refine al_idxH 0 1 hb196 (at_some hu198).1 (at_some hu198).2.1 rfl rfl rfl rfl Try.underlying94 sz5 rfl (fun p199 hp200 => ?_)
 refine al_nil ?_
 exact fr_fin hK_ ⟨p199, hp200⟩⟩, trivial⟩ ?_
        intro _
        intro _
        rintro ⟨p161, hp162⟩
        intro s163
        intro _
        intro _
        intro _
        rintro ⟨p166, hp167⟩
        intro s168
        rintro ⟨p199, hp200⟩
        intro X_ Y_ F_ K_ hK_
        refine al_show (m := Mem.plus (memOf w0 Z0 [(oRow v0_0 94 (tyH us0) a0), (oBag 5 tyU8 us0 b0)] [(oBag 5 tyU8 us0 l155xb0), (oRow v0_0 94 (tyH us0) ((l7x0.set (l7i36).toNat u16).set (j14i7).toNat u21)), (oBag 5 tyU8 j3us4 l155xb4), (oRow v2 94 (tyH j3us4) ((l7x4.set (l7i36).toNat u34).set (j14i7).toNat u39))] [(fDat (tyH j3us4) [s168] u164), (fDat (tyH us0) [s163] u159), (fDat (tyH us0) [s56] u52), (fDat (tyH j3us4) [s43] u39), (fDat (tyH us0) [s25] u21)]) X_ Y_) (S := over (put (put (put (put (put (put (put (put (put (put (tab [(0, v0_0), (3, (iq (a0.length : Int))), (4, v2), (6, (iq l7i36)), (8, (i8 r64.1)), (10, (iq l155i96)), (35, (iq (a0.length : Int))), (36, (iq l7i36)), (95, (iq (a0.length : Int))), (96, (iq l155i96)), (117, (i8 r192)), (126, (i8 r194))]) 99 v0_0) 100 (iq l7i36)) 101 p161) 102 s163) 103 (iq l155i96)) 104 v2) 105 (iq l7i36)) 106 p166) 107 s168) 127 p199) F_) ?_
        obtain ⟨hc201, h⟩ := req_some h
        refine al_storeH (k := (l155i96).toNat) (x := (UInt8.ofNat (r192).toNat)) (vs := [(i8 r192)]) 0 rfl hp200 hb196 (idx_lt hu198) rfl rfl (cv_rfl rfl) (fun _ _ => u8_rep hc201) sz5 rfl ?_
        refine al_nil ?_
        obtain ⟨xs202, hb203, h⟩ := opt_some h
        obtain ⟨u204, hu205, h⟩ := opt_some h
        refine aq_show (m := Mem.plus (memOf w0 Z0 [(oRow v0_0 94 (tyH us0) a0), (oBag 5 tyU8 us0 b0)] [(oBag 5 tyU8 us0 (bset l155xb0 u159 (some (xs195.set (l155i96).toNat (UInt8.ofNat (r192).toNat))))), (oRow v0_0 94 (tyH us0) ((l7x0.set (l7i36).toNat u16).set (j14i7).toNat u21)), (oBag 5 tyU8 j3us4 l155xb4), (oRow v2 94 (tyH j3us4) ((l7x4.set (l7i36).toNat u34).set (j14i7).toNat u39))] [(fDat (tyH j3us4) [s168] u164), (fDat (tyH us0) [s163] u159), (fDat (tyH us0) [s56] u52), (fDat (tyH j3us4) [s43] u39), (fDat (tyH us0) [s25] u21)]) X_ Y_) ?_
        refine aq_next hK_ [0, 1, 2, 3] [0, 2, 3, 4] [(0, v0_0), (3, (iq (a0.length : Int))), (4, v2), (6, (iq l7i36)), (8, (i8 r64.1)), (10, (iq l155i96)), (35, (iq (a0.length : Int))), (36, (iq l7i36)), (95, (iq (a0.length : Int))), (96, (iq l155i96)), (107, s168), (126, (i8 r194))] [108] [⟨30, 128, {p : Value // EltH j3us4 u164 p ((l155i96).toNat * Ty.size tyU8)}, fun p => { val := p.1 }⟩] rfl rfl (by decide) rfl ⟨rfl, rfl, rfl, rfl, rfl, rfl, rfl, rfl, rfl, rfl, rfl, rfl, trivial⟩ ⟨rfl, trivial⟩ ?_
        clear hK_ K_ F_ X_ Y_
        refine ta_show (m := (memOf w0 Z0 [(oRow v0_0 94 (tyH us0) a0), (oBag 5 tyU8 us0 b0)] [(oBag 5 tyU8 us0 (bset l155xb0 u159 (some (xs195.set (l155i96).toNat (UInt8.ofNat (r192).toNat))))), (oRow v0_0 94 (tyH us0) ((l7x0.set (l7i36).toNat u16).set (j14i7).toNat u21)), (oBag 5 tyU8 j3us4 l155xb4), (oRow v2 94 (tyH j3us4) ((l7x4.set (l7i36).toNat u34).set (j14i7).toNat u39))] [(fDat (tyH j3us4) [s168] u164), (fDat (tyH us0) [s56] u52), (fDat (tyH j3us4) [s43] u39), (fDat (tyH us0) [s25] u21)])) (S := (tab [(0, v0_0), (3, (iq (a0.length : Int))), (4, v2), (6, (iq l7i36)), (8, (i8 r64.1)), (10, (iq l155i96)), (35, (iq (a0.length : Int))), (36, (iq l7i36)), (95, (iq (a0.length : Int))), (96, (iq l155i96)), (107, s168), (126, (i8 r194))])) ?_
        refine ta_step 31 _ [9, 30] [108, 128] [9, 30] [] [⟨9, 108, Unit, fun _ => { val := (iq l155i96) }⟩, ⟨30, 128, {p : Value // EltH j3us4 u164 p ((l155i96).toNat * Ty.size tyU8)}, fun p => { val := p.1 }⟩] [] rfl rfl rfl (by kernel_rfl) rfl rfl rfl ⟨⟨_, rfl, [], rfl, by
 intro X_ Y_ F_ K_ hK_
 refine al_show (m := Mem.plus (memOf w0 Z0 [(oRow v0_0 94 (tyH us0) a0), (oBag 5 tyU8 us0 b0)] [(oBag 5 tyU8 us0 (bset l155xb0 u159 (some (xs195.set (l155i96).toNat (UInt8.ofNat (r192).toNat))))), (oRow v0_0 94 (tyH us0) ((l7x0.set (l7i36).toNat u16).set (j14i7).toNat u21)), (oBag 5 tyU8 j3us4 l155xb4), (oRow v2 94 (tyH j3us4) ((l7x4.set (l7i36).toNat u34).set (j14i7).toNat u39))] [(fDat (tyH j3us4) [s168] u164), (fDat (tyH us0) [s56] u52), (fDat (tyH j3us4) [s43] u39), (fDat (tyH us0) [s25] u21)]) X_ Y_) (S := over (tab [(0, v0_0), (3, (iq (a0.length : Int))), (4, v2), (6, (iq l7i36)), (8, (i8 r64.1)), (10, (iq l155i96)), (35, (iq (a0.length : Int))), (36, (iq l7i36)), (95, (iq (a0.length : Int))), (96, (iq l155i96)), (107, s168), (126, (i8 r194))]) F_) ?_
 refine al_mv rfl rfl ?_
 refine al_nil ?_
 exact fr_fin hK_ ()⟩, ⟨_, rfl, [0], rfl, by
 intro _
 intro X_ Y_ F_ K_ hK_
 refine al_show (m := Mem.plus (memOf w0 Z0 [(oRow v0_0 94 (tyH us0) a0), (oBag 5 tyU8 us0 b0)] [(oBag 5 tyU8 us0 (bset l155xb0 u159 (some (xs195.set (l155i96).toNat (UInt8.ofNat (r192).toNat))))), (oRow v0_0 94 (tyH us0) ((l7x0.set (l7i36).toNat u16).set (j14i7).toNat u21)), (oBag 5 tyU8 j3us4 l155xb4), (oRow v2 94 (tyH j3us4) ((l7x4.set (l7i36).toNat u34).set (j14i7).toNat u39))] [(fDat (tyH j3us4) [s168] u164), (fDat (tyH us0) [s56] u52), (fDat (tyH j3us4) [s43] u39), (fDat (tyH us0) [s25] u21)]) X_ Y_) (S := over (put (tab [(0, v0_0), (3, (iq (a0.length : Int))), (4, v2), (6, (iq l7i36)), (8, (i8 r64.1)), (10, (iq l155i96)), (35, (iq (a0.length : Int))), (36, (iq l7i36)), (95, (iq (a0.length : Int))), (96, (iq l155i96)), (107, s168), (126, (i8 r194))]) 108 (iq l155i96)) F_) ?_
 refine al_idxH 2 0 hb203 (at_some hu205).1 (at_some hu205).2.1 rfl rfl rfl rfl Try.underlying94 sz5 rfl (fun p206 hp207 => ?_)
 refine al_nil ?_
 exact fr_fin hK_ ⟨p206, hp207⟩⟩, trivial⟩ ?_
        intro _
        rintro ⟨p206, hp207⟩
        intro X_ Y_ F_ K_ hK_
        refine al_show (m := Mem.plus (memOf w0 Z0 [(oRow v0_0 94 (tyH us0) a0), (oBag 5 tyU8 us0 b0)] [(oBag 5 tyU8 us0 (bset l155xb0 u159 (some (xs195.set (l155i96).toNat (UInt8.ofNat (r192).toNat))))), (oRow v0_0 94 (tyH us0) ((l7x0.set (l7i36).toNat u16).set (j14i7).toNat u21)), (oBag 5 tyU8 j3us4 l155xb4), (oRow v2 94 (tyH j3us4) ((l7x4.set (l7i36).toNat u34).set (j14i7).toNat u39))] [(fDat (tyH j3us4) [s168] u164), (fDat (tyH us0) [s56] u52), (fDat (tyH j3us4) [s43] u39), (fDat (tyH us0) [s25] u21)]) X_ Y_) (S := over (put (put (tab [(0, v0_0), (3, (iq (a0.length : Int))), (4, v2), (6, (iq l7i36)), (8, (i8 r64.1)), (10, (iq l155i96)), (35, (iq (a0.length : Int))), (36, (iq l7i36)), (95, (iq (a0.length : Int))), (96, (iq l155i96)), (107, s168), (126, (i8 r194))]) 108 (iq l155i96)) 128 p206) F_) ?_
        obtain ⟨hc208, h⟩ := req_some h
        refine al_storeH (k := (l155i96).toNat) (x := (UInt8.ofNat (r194).toNat)) (vs := [(i8 r194)]) 2 rfl hp207 hb203 (idx_lt hu205) rfl rfl (cv_rfl rfl) (fun _ _ => u8_rep hc208) sz5 rfl ?_
        refine al_nil ?_
        refine aq_show (m := Mem.plus (memOf w0 Z0 [(oRow v0_0 94 (tyH us0) a0), (oBag 5 tyU8 us0 b0)] [(oBag 5 tyU8 us0 (bset l155xb0 u159 (some (xs195.set (l155i96).toNat (UInt8.ofNat (r192).toNat))))), (oRow v0_0 94 (tyH us0) ((l7x0.set (l7i36).toNat u16).set (j14i7).toNat u21)), (oBag 5 tyU8 j3us4 (bset l155xb4 u164 (some (xs202.set (l155i96).toNat (UInt8.ofNat (r194).toNat))))), (oRow v2 94 (tyH j3us4) ((l7x4.set (l7i36).toNat u34).set (j14i7).toNat u39))] [(fDat (tyH j3us4) [s168] u164), (fDat (tyH us0) [s56] u52), (fDat (tyH j3us4) [s43] u39), (fDat (tyH us0) [s25] u21)]) X_ Y_) ?_
        refine aq_next hK_ [0, 1, 2, 3] [0, 1, 2, 3] [(0, v0_0), (3, (iq (a0.length : Int))), (4, v2), (6, (iq l7i36)), (8, (i8 r64.1)), (35, (iq (a0.length : Int))), (36, (iq l7i36)), (95, (iq (a0.length : Int))), (96, (iq l155i96))] [] [] rfl rfl (by decide) rfl ⟨rfl, rfl, rfl, rfl, rfl, rfl, rfl, rfl, rfl, trivial⟩ trivial ?_
        clear hK_ K_ F_ X_ Y_
        refine ta_show (m := (memOf w0 Z0 [(oRow v0_0 94 (tyH us0) a0), (oBag 5 tyU8 us0 b0)] [(oBag 5 tyU8 us0 (bset l155xb0 u159 (some (xs195.set (l155i96).toNat (UInt8.ofNat (r192).toNat))))), (oRow v0_0 94 (tyH us0) ((l7x0.set (l7i36).toNat u16).set (j14i7).toNat u21)), (oBag 5 tyU8 j3us4 (bset l155xb4 u164 (some (xs202.set (l155i96).toNat (UInt8.ofNat (r194).toNat))))), (oRow v2 94 (tyH j3us4) ((l7x4.set (l7i36).toNat u34).set (j14i7).toNat u39))] [(fDat (tyH j3us4) [s168] u164), (fDat (tyH us0) [s56] u52), (fDat (tyH j3us4) [s43] u39), (fDat (tyH us0) [s25] u21)])) (S := (tab [(0, v0_0), (3, (iq (a0.length : Int))), (4, v2), (6, (iq l7i36)), (8, (i8 r64.1)), (35, (iq (a0.length : Int))), (36, (iq l7i36)), (95, (iq (a0.length : Int))), (96, (iq l155i96))])) ?_
        refine ta_end [] [] rfl rfl (by kernel_rfl) rfl trivial ?_
        refine aq_show (m := (memOf w0 Z0 [(oRow v0_0 94 (tyH us0) a0), (oBag 5 tyU8 us0 b0)] [(oBag 5 tyU8 us0 (bset l155xb0 u159 (some (xs195.set (l155i96).toNat (UInt8.ofNat (r192).toNat))))), (oRow v0_0 94 (tyH us0) ((l7x0.set (l7i36).toNat u16).set (j14i7).toNat u21)), (oBag 5 tyU8 j3us4 (bset l155xb4 u164 (some (xs202.set (l155i96).toNat (UInt8.ofNat (r194).toNat))))), (oRow v2 94 (tyH j3us4) ((l7x4.set (l7i36).toNat u34).set (j14i7).toNat u39))] [(fDat (tyH j3us4) [s168] u164), (fDat (tyH us0) [s56] u52), (fDat (tyH j3us4) [s43] u39), (fDat (tyH us0) [s25] u21)])) (S := (tab [(0, v0_0), (3, (iq (a0.length : Int))), (4, v2), (6, (iq l7i36)), (8, (i8 r64.1)), (35, (iq (a0.length : Int))), (36, (iq l7i36)), (95, (iq (a0.length : Int))), (96, (iq l155i96))])) ?_
        refine aq_block ?_
        refine aq_then ?_
        refine aw_region ?_
        refine al_in rfl rfl rfl rfl ?_
        refine al_mv rfl rfl ?_
        refine al_nil ?_
        exact aq_again k156 ((bset l155xb0 u159 (some (xs195.set (l155i96).toNat (UInt8.ofNat (r192).toNat)))), (bset l155xb4 u164 (some (xs202.set (l155i96).toNat (UInt8.ofNat (r194).toNat)))), (wq (l155i96 + (1 : Int)))) (Nat.lt_succ_self _) h (fun w a hm hs => norm hm hs [0, 1, 2, 3] [1, 2, 3] [(0, v0_0), (3, (iq (a0.length : Int))), (4, v2), (6, (iq l7i36)), (8, (i8 r64.1)), (35, (iq (a0.length : Int))), (36, (iq l7i36)), (95, (iq (a0.length : Int))), (96, (iq (wq (l155i96 + (1 : Int)))))] (by decide) ⟨rfl, rfl, rfl, rfl, rfl, rfl, rfl, rfl, rfl, trivial⟩)
       ·replace h := bif_f hb158 h
        refine aw_exit ?_
        refine aq_then_exit ?_
        refine aq_then_exit ?_
        refine aq_block_exit ?_
        exact aq_join (l155xb0, l155xb4) h (fun w a hm hs => norm hm hs [0, 1, 2, 3] [0, 1, 2] [(0, v0_0), (3, (iq (a0.length : Int))), (4, v2), (6, (iq l7i36)), (35, (iq (a0.length : Int))), (36, (iq l7i36))] (by decide) ⟨rfl, rfl, rfl, rfl, rfl, rfl, trivial⟩)
     ·clear hkk15
      refine aw_block ?_
      refine aw_state (aw_loop (ι := Int) (fun i => (memOf w0 Z0 [(oRow v0_0 94 (tyH us0) a0), (oBag 5 tyU8 us0 b0)] [(oBag 5 tyU8 us0 l7xb0), (oRow v0_0 94 (tyH us0) l7x0), (oBag 5 tyU8 j3us4 l7xb4), (oRow v2 94 (tyH j3us4) l7x4)] [])) (fun i => (tab [(0, v0_0), (3, (iq (a0.length : Int))), (4, v2), (6, (iq l7i36)), (7, (iq i)), (35, (iq (a0.length : Int))), (36, (iq l7i36))])) (fun q i => f_shield_inverse_ownd_L211 a0 l7xb0 l7x0 l7i36 kk15 q i = some r) ?_ fu l7i36 h) (fun w a hm hs => norm hm hs [0, 1, 2, 3] [] [(0, v0_0), (3, (iq (a0.length : Int))), (4, v2), (6, (iq l7i36)), (7, (iq l7i36)), (35, (iq (a0.length : Int))), (36, (iq l7i36))] (by decide) ⟨rfl, rfl, rfl, rfl, rfl, rfl, rfl, trivial⟩)
      clear h
      rintro k210 l209i7 h
      have h : f_shield_inverse_ownd_L211 a0 l7xb0 l7x0 l7i36 kk15 k210 l209i7 = some r := h
      obtain _ | k210 := k210
      · rw [f_shield_inverse_ownd_L211] at h; cases h
      rw [f_shield_inverse_ownd_L211] at h
      refine aw_show (m := (memOf w0 Z0 [(oRow v0_0 94 (tyH us0) a0), (oBag 5 tyU8 us0 b0)] [(oBag 5 tyU8 us0 l7xb0), (oRow v0_0 94 (tyH us0) l7x0), (oBag 5 tyU8 j3us4 l7xb4), (oRow v2 94 (tyH j3us4) l7x4)] [])) (S := (tab [(0, v0_0), (3, (iq (a0.length : Int))), (4, v2), (6, (iq l7i36)), (7, (iq l209i7)), (35, (iq (a0.length : Int))), (36, (iq l7i36))])) ?_
      refine aw_seq ?_
      obtain ⟨kk213, hkk213, h⟩ := lt_some h
      refine aw_seq_join (ι := Bool) (fun i => (memOf w0 Z0 [(oRow v0_0 94 (tyH us0) a0), (oBag 5 tyU8 us0 b0)] [(oBag 5 tyU8 us0 l7xb0), (oRow v0_0 94 (tyH us0) l7x0), (oBag 5 tyU8 j3us4 l7xb4), (oRow v2 94 (tyH j3us4) l7x4)] [])) (fun i => (tab [(0, v0_0), (3, (iq (a0.length : Int))), (4, v2), (6, (iq l7i36)), (7, (iq l209i7)), (35, (iq (a0.length : Int))), (36, (iq l7i36)), (53, (bool i))])) (fun i => kk213 i = some r) ?_ ?_
      ·rintro j212b53 h
       have h : kk213 j212b53 = some r := h
       rw [hkk213] at h
       dsimp only at h
       clear hkk213
       refine aw_show (m := (memOf w0 Z0 [(oRow v0_0 94 (tyH us0) a0), (oBag 5 tyU8 us0 b0)] [(oBag 5 tyU8 us0 l7xb0), (oRow v0_0 94 (tyH us0) l7x0), (oBag 5 tyU8 j3us4 l7xb4), (oRow v2 94 (tyH j3us4) l7x4)] [])) (S := (tab [(0, v0_0), (3, (iq (a0.length : Int))), (4, v2), (6, (iq l7i36)), (7, (iq l209i7)), (35, (iq (a0.length : Int))), (36, (iq l7i36)), (53, (bool j212b53))])) ?_
       refine aw_cond rfl (fun hb214 => ?_) (fun hb214 => ?_)
       ·replace h := bif_t hb214 h
        refine aw_skip ?_
        refine aq_then ?_
        refine aw_block ?_
        refine aw_region ?_
        refine al_mv rfl rfl ?_
        refine al_in rfl rfl rfl rfl ?_
        refine al_as rfl rfl ?_
        refine al_nil ?_
        refine aq_block ?_
        exact aq_again k210 (wq (l209i7 + (1 : Int))) (Nat.lt_succ_self _) h (fun w a hm hs => norm hm hs [0, 1, 2, 3] [] [(0, v0_0), (3, (iq (a0.length : Int))), (4, v2), (6, (iq l7i36)), (7, (iq (wq (l209i7 + (1 : Int))))), (35, (iq (a0.length : Int))), (36, (iq l7i36))] (by decide) ⟨rfl, rfl, rfl, rfl, rfl, rfl, rfl, trivial⟩)
       ·replace h := bif_f hb214 h
        refine aw_exit ?_
        refine aq_then_exit ?_
        refine aq_then_exit ?_
        refine aq_block_exit ?_
        exact aq_join l209i7 h (fun w a hm hs => norm hm hs [0, 1, 2, 3] [] [(0, v0_0), (3, (iq (a0.length : Int))), (4, v2), (6, (iq l7i36)), (7, (iq l209i7)), (35, (iq (a0.length : Int))), (36, (iq l7i36))] (by decide) ⟨rfl, rfl, rfl, rfl, rfl, rfl, rfl, trivial⟩)
      ·clear hkk213
       refine aw_region ?_
       refine al_mv rfl rfl ?_
       refine al_mv rfl rfl ?_
       refine al_in rfl rfl rfl rfl ?_
       refine al_in rfl rfl rfl rfl ?_
       refine al_mv rfl rfl ?_
       refine al_caseB 44 rfl (fun hb215 => ?_) (fun hb215 => ?_)
       ·replace h := bif_t hb215 h
        refine al_mv rfl rfl ?_
        refine al_mv rfl rfl ?_
        obtain ⟨u216, hu217, h⟩ := opt_some h
        refine al_idxR 1 (at_some hu217).1 (at_some hu217).2.1 rfl rfl rfl Try.underlying93 sz94 rfl (fun p218 hp219 => ?_)
        refine al_loadR1 1 rfl hp219 (at_some hu217).2.2 rfl Try.underlying94 sz94 rfl rfl rfl (fun s220 => ?_)
        refine al_mv rfl rfl ?_
        obtain ⟨xs221, hb222, h⟩ := opt_some h
        obtain ⟨u223, hu224, h⟩ := opt_some h
        refine al_idxH 0 0 hb222 (at_some hu224).1 (at_some hu224).2.1 rfl rfl rfl rfl Try.underlying94 sz5 rfl (fun p225 hp226 => ?_)
        refine al_val (ov_loadH (ds := [(i8 (u223.toNat : Int))]) 0 rfl hp226 hb222 (at_some hu224).2.2 (fun h => h) rfl Try.underlying5 sz5 rfl rfl rfl) ?_
        refine al_in rfl rfl rfl rfl ?_
        refine al_val (ov_pick_t rfl rfl rfl) ?_
        refine al_nil ?_
        exact aq_join ((u223.toNat : Int) == (0 : Int)) h (fun w a hm hs => norm hm hs [0, 1, 2, 3] [] [(0, v0_0), (3, (iq (a0.length : Int))), (4, v2), (6, (iq l7i36)), (7, (iq l209i7)), (35, (iq (a0.length : Int))), (36, (iq l7i36)), (53, (bool ((u223.toNat : Int) == (0 : Int))))] (by decide) ⟨rfl, rfl, rfl, rfl, rfl, rfl, rfl, rfl, trivial⟩)
       ·replace h := bif_f hb215 h
        refine al_skip ?_
        refine al_skip ?_
        refine al_skip ?_
        refine al_skip ?_
        refine al_skip ?_
        refine al_skip ?_
        refine al_skip ?_
        refine al_skip ?_
        refine al_val (ov_pick_f rfl rfl rfl) ?_
        refine al_nil ?_
        exact aq_join false h (fun w a hm hs => norm hm hs [0, 1, 2, 3] [] [(0, v0_0), (3, (iq (a0.length : Int))), (4, v2), (6, (iq l7i36)), (7, (iq l209i7)), (35, (iq (a0.length : Int))), (36, (iq l7i36)), (53, (bool false))] (by decide) ⟨rfl, rfl, rfl, rfl, rfl, rfl, rfl, rfl, trivial⟩)
   ·replace h := bif_f hb11 h
    refine aw_exit ?_
    refine aq_then_exit ?_
    refine aq_then_exit ?_
    refine aq_block_exit ?_
    exact aq_join (l7xb4, l7x4) h (fun w a hm hs => norm hm hs [2, 3] [] [(4, v2)] (by decide) ⟨rfl, trivial⟩)
 ·clear hkk4
  refine aw_sr ?_
  refine al_mv rfl rfl ?_
  refine al_val (ov_lenR 0 rfl rfl Try.underlying93 rfl) ?_
  refine al_mv rfl rfl ?_
  refine al_nt ?_
  refine aw_block ?_
  refine aw_state (aw_loop (ι := (List Value) × (List (Option (List UInt8))) × (List Int) × Int) (fun i => (memOf w0 Z0 [(oRow v0_0 94 (tyH us0) a0), (oBag 5 tyU8 us0 b0)] [(oBag 5 tyU8 us0 b0), (oRow v0_0 94 (tyH us0) a0), (oBag 5 tyU8 i.1 i.2.1), (oRow v2 94 (tyH i.1) i.2.2.1)] [])) (fun i => (tab [(0, v0_0), (3, (iq (a0.length : Int))), (4, v2), (19, (iq ((List.replicate ((a0.length : Int)).toNat (0 : Int)).length : Int))), (20, (iq i.2.2.2))])) (fun q i => f_shield_inverse_ownd_L229 a0 kk4 q i.2.1 i.2.2.1 i.2.2.2 = some r) ?_ fu (([nS]), ([some []] : (List (Option (List UInt8)))), (List.replicate ((a0.length : Int)).toNat (0 : Int)), (0 : Int)) h) (fun w a hm hs => norm hm hs [3, 2, 1, 0] [] [(0, v0_0), (3, (iq (a0.length : Int))), (4, v2), (19, (iq ((List.replicate ((a0.length : Int)).toNat (0 : Int)).length : Int))), (20, (iq (0 : Int)))] (by decide) ⟨rfl, rfl, rfl, rfl, rfl, trivial⟩)
  clear h
  rintro k228 ⟨l227us4, l227xb4, l227x4, l227i20⟩ h
  have h : f_shield_inverse_ownd_L229 a0 kk4 k228 l227xb4 l227x4 l227i20 = some r := h
  obtain _ | k228 := k228
  · rw [f_shield_inverse_ownd_L229] at h; cases h
  rw [f_shield_inverse_ownd_L229] at h
  refine aw_show (m := (memOf w0 Z0 [(oRow v0_0 94 (tyH us0) a0), (oBag 5 tyU8 us0 b0)] [(oBag 5 tyU8 us0 b0), (oRow v0_0 94 (tyH us0) a0), (oBag 5 tyU8 l227us4 l227xb4), (oRow v2 94 (tyH l227us4) l227x4)] [])) (S := (tab [(0, v0_0), (3, (iq (a0.length : Int))), (4, v2), (19, (iq ((List.replicate ((a0.length : Int)).toNat (0 : Int)).length : Int))), (20, (iq l227i20))])) ?_
  refine aw_sr ?_
  refine al_in rfl rfl rfl rfl ?_
  refine al_nt ?_
  refine aw_seq ?_
  refine aw_cond rfl (fun hb230 => ?_) (fun hb230 => ?_)
  ·replace h := bif_t hb230 h
   refine aw_skip ?_
   refine aq_then ?_
   refine aw_seq ?_
   refine aw_block ?_
   refine aw_sr ?_
   refine al_mv rfl rfl ?_
   refine al_as rfl rfl ?_
   refine al_nt ?_
   refine aw_sr ?_
   refine al_mv rfl rfl ?_
   refine al_mv rfl rfl ?_
   refine al_mv rfl rfl ?_
   obtain ⟨hc231, h⟩ := req_some h
   refine al_make (τ := tyU8) (x0 := 0) hc231.1 hc231.2.1 hc231.2.2 rfl rfl Try.underlying94 to5 (fun _ _ => rfl) rfl rfl (fun v232 => ?_)
   obtain ⟨u233, hu234, h⟩ := opt_some h
   refine al_idxR 4 (at_some hu234).1 (at_some hu234).2.1 rfl rfl rfl Try.underlying93 sz94 rfl (fun p235 hp236 => ?_)
   refine al_bagPush 3 0 rfl rfl rfl ?_
   refine al_rowWide 3 l227us4 v232 rfl ?_
   refine al_storeR (k := (l227i20).toNat) (x := (l227xb4.length : Int)) (vs := [v232]) 3 rfl hp236 (idx_lt hu234) rfl rfl (cv_fzH 0 rfl) (fun hm => fz_at (i := 0) hm rfl) sz94 rfl ?_
   refine al_nt ?_
   refine aw_region ?_
   refine al_mv rfl rfl ?_
   refine al_mv rfl rfl ?_
   obtain ⟨u237, hu238, h⟩ := opt_some h
   refine al_idxR 3 (at_some hu238).1 (at_some hu238).2.1 rfl rfl rfl Try.underlying93 sz94 rfl (fun p239 hp240 => ?_)
   refine al_loadR1 3 rfl hp240 (at_some hu238).2.2 rfl Try.underlying94 sz94 rfl rfl rfl (fun s241 => ?_)
   refine al_mv rfl rfl ?_
   obtain ⟨xs242, hb243, h⟩ := opt_some h
   obtain ⟨u244, hu245, h⟩ := opt_some h
   refine al_idxH 2 0 hb243 (at_some hu245).1 (at_some hu245).2.1 rfl rfl rfl rfl Try.underlying94 sz5 rfl (fun p246 hp247 => ?_)
   obtain ⟨hc248, h⟩ := req_some h
   refine al_storeH (k := (l227i20).toNat) (x := (UInt8.ofNat ((1 : Int)).toNat)) (vs := [(i8 (1 : Int))]) 2 rfl hp247 hb243 (idx_lt hu245) rfl rfl (cv_rfl rfl) (fun _ _ => u8_rep hc248) sz5 rfl ?_
   refine al_nil ?_
   refine aq_block ?_
   refine aq_then ?_
   refine aw_region ?_
   refine al_in rfl rfl rfl rfl ?_
   refine al_mv rfl rfl ?_
   refine al_nil ?_
   exact aq_again k228 ((l227us4 ++ [v232]), (bset (l227xb4 ++ [some (List.replicate ((a0.length : Int)).toNat (0 : UInt8))]) u237 (some (xs242.set (l227i20).toNat (UInt8.ofNat ((1 : Int)).toNat)))), (l227x4.set (l227i20).toNat (l227xb4.length : Int)), (wq (l227i20 + (1 : Int)))) (Nat.lt_succ_self _) h (fun w a hm hs => norm hm hs [0, 1, 2, 3] [] [(0, v0_0), (3, (iq (a0.length : Int))), (4, v2), (19, (iq ((List.replicate ((a0.length : Int)).toNat (0 : Int)).length : Int))), (20, (iq (wq (l227i20 + (1 : Int)))))] (by decide) ⟨rfl, rfl, rfl, rfl, rfl, trivial⟩)
  ·replace h := bif_f hb230 h
   refine aw_exit ?_
   refine aq_then_exit ?_
   refine aq_then_exit ?_
   refine aq_block_exit ?_
   exact aq_join (l227us4, l227xb4, l227x4) h (fun w a hm hs => norm hm hs [0, 1, 2, 3] [] [(0, v0_0), (3, (iq (a0.length : Int))), (4, v2)] (by decide) ⟨rfl, rfl, rfl, trivial⟩)
def f_shield_Mend_L17 (j5x9 : (List (List UInt8))) (kk8 : ((List (List UInt8)) → Option ((List (List UInt8)) × Int))) (l13 : (List (List UInt8))) (fu : Nat) : Nat → (List (List UInt8)) → Int → Option ((List (List UInt8)) × Int)
  | 0, _, _ => none
  | k16 + 1, l15x12, l15i50 => (bif (decide (l15i50 < (l13.length : Int))) then (opt (at? l13 l15i50) fun (u19 : (List UInt8)) => (opt (at? j5x9 (0 : Int)) fun (u23 : (List UInt8)) => (opt (f_shield_combine fu u19 j5x9 (u23.length : Int)) fun (r28 : (List UInt8)) => (req (((l15x12.length + ([r28]).length) * 16 : Nat) ≤ 140737488355328 ∧ l15x12.length + ([r28]).length ≤ 9223372036854775807) (f_shield_Mend_L17 j5x9 kk8 l13 fu k16 (l15x12 ++ ([r28])) (IntKind.i64.wrap (l15i50 + (1 : Int)))))))) else (kk8 l15x12))
def f_shield_Mend_L36 (a0 : (List S_api_Shard)) (a1 : Int) (r2 : ((List Int) × Int)) (kk6 : ((List (Option (List UInt8))) → (List Int) → (List (List UInt8)) → Option ((List (List UInt8)) × Int))) (fu : Nat) : Nat → (List (Option (List UInt8))) → (List Int) → (List (List UInt8)) → Int → Option ((List (List UInt8)) × Int)
  | 0, _, _, _, _ => none
  | k35 + 1, l34xb8, l34x8, l34x9, l34i28 => (bif (decide (l34i28 < ((r2.1.take (a1).toNat).length : Int))) then (opt (at? (r2.1.take (a1).toNat) l34i28) fun (u38 : Int) => (opt (f_shield_row fu u38 a1) fun (r43 : (List UInt8)) => (req (((l34x8.length + ([(l34xb8.length : Int)]).length) * 24 : Nat) ≤ 140737488355328 ∧ l34x8.length + ([(l34xb8.length : Int)]).length ≤ 9223372036854775807) (opt (at? a0 u38) fun (u48 : S_api_Shard) => (req (((l34x9.length + ([u48.Bytes]).length) * 16 : Nat) ≤ 140737488355328 ∧ l34x9.length + ([u48.Bytes]).length ≤ 9223372036854775807) (f_shield_Mend_L36 a0 a1 r2 kk6 fu k35 (l34xb8 ++ [some r43]) (l34x8 ++ ([(l34xb8.length : Int)])) (l34x9 ++ ([u48.Bytes])) (IntKind.i64.wrap (l34i28 + (1 : Int))))))))) else (kk6 l34xb8 l34x8 l34x9))
def f_shield_Mend (fu : Nat) (a0 : (List S_api_Shard)) (a1 : Int) : Option ((List (List UInt8)) × Int) := (opt (f_shield_check fu a0 a1) fun (r2 : ((List Int) × Int)) => (bif (r2.2 != (0 : Int)) then (some (([] : List (List UInt8)), r2.2)) else (lt (fun (j5xb8 : (List (Option (List UInt8)))) (j5x8 : (List Int)) (j5x9 : (List (List UInt8))) => (lt (fun (j7x12 : (List (List UInt8))) => (some (j7x12, (0 : Int)))) fun (kk8 : (List (List UInt8)) → Option ((List (List UInt8)) × Int)) => (opt (f_shield_inverse_ownd fu j5x8 j5xb8) fun (r10 : ((List Int) × (List (Option (List UInt8))))) => (opt (frzH r10.2 r10.1) fun (l13 : (List (List UInt8))) => (f_shield_Mend_L17 j5x9 kk8 l13 fu fu ([] : List (List UInt8)) (0 : Int)))))) fun (kk6 : (List (Option (List UInt8))) → (List Int) → (List (List UInt8)) → Option ((List (List UInt8)) × Int)) => (req (0 ≤ a1 ∧ a1 ≤ (r2.1.length : Int)) (f_shield_Mend_L36 a0 a1 r2 kk6 fu fu ([] : (List (Option (List UInt8)))) ([] : List Int) ([] : List (List UInt8)) (0 : Int))))))
set_option maxHeartbeats 2000000 in
set_option maxRecDepth 100000 in
theorem f_shield_Mend_ok (fu : Nat) (v0_0 : Value) (a0 : (List S_api_Shard)) (a1 : Int) {r : ((List (List UInt8)) × Int)} (h : f_shield_Mend fu a0 a1 = some r) : FnOk Try.prog 8 [v0_0, (int .i64 a1)] [(fDat (tyList tyS_api_Shard) [v0_0] a0)] [] (fun (i : Value) => { val := (Value.tuple #[i, (int .i64 r.2)]), own := [(oRow i 9 tyStr r.1)] }) := by
 unfold f_shield_Mend at h
 refine fn_enter Try.func8 rfl Try.ntmps8 rfl (fun w0 Z0 => ?_)
 refine aw_sr ?_
 refine al_as rfl rfl ?_
 refine al_as rfl rfl ?_
 refine al_nt ?_
 refine aw_sr ?_
 refine al_mv rfl rfl ?_
 refine al_mv rfl rfl ?_
 obtain ⟨r2, hc1, h⟩ := opt_some h
 refine al_call (vs := [v0_0, (iq a1)]) (f_shield_check_ok fu v0_0 a0 a1 hc1) [] [] [] (pre_fz 0 rfl pre_nil) rfl (by simp) (by decide) (.inl rfl) rfl Try.func39 rfl rfl rfl (fun v3 => ?_)
 refine al_mv rfl rfl ?_
 refine al_ex rfl rfl rfl ?_
 refine al_ex rfl rfl rfl ?_
 refine al_as rfl rfl ?_
 refine al_as rfl rfl ?_
 refine al_nt ?_
 refine aw_seq ?_
 refine aw_sr ?_
 refine al_mv rfl rfl ?_
 refine al_in rfl rfl rfl rfl ?_
 refine al_nt ?_
 refine aw_cond rfl (fun hb4 => ?_) (fun hb4 => ?_)
 ·replace h := bif_t hb4 h
  refine aw_sr ?_
  refine al_mv rfl rfl ?_
  refine al_as rfl rfl ?_
  refine al_as rfl rfl ?_
  refine al_nt ?_
  refine aw_ret ?_
  refine aq_then_ret ?_
  refine aq_nilR 9 tyStr ?_
  obtain rfl := Option.some.inj h
  exact fn_ret nS [0] [] rfl rfl rfl rfl (res2 rfl rfl rfl) rfl rfl rfl (by decide)
 ·replace h := bif_f hb4 h
  refine aw_skip ?_
  refine aq_tr ?_
  refine al_as rfl rfl ?_
  refine al_nt ?_
  refine aw_sr ?_
  refine al_as rfl rfl ?_
  refine al_nt ?_
  obtain ⟨kk6, hkk6, h⟩ := lt_some h
  refine aw_seq_join (ι := Value × (List Value) × (List (Option (List UInt8))) × (List Int) × Value × (List (List UInt8))) (fun i => (memOf w0 Z0 [] [(oBag 5 tyU8 i.2.1 i.2.2.1), (oRow i.1 94 (tyH i.2.1) i.2.2.2.1), (oRow i.2.2.2.2.1 9 tyStr i.2.2.2.2.2)] [(fDat (tyList tyS_api_Shard) [v0_0] a0)])) (fun i => (tab [(8, i.1), (9, i.2.2.2.2.1)])) (fun i => kk6 i.2.2.1 i.2.2.2.1 i.2.2.2.2.2 = some r) ?_ ?_
  ·rintro ⟨j5v8, j5us8, j5xb8, j5x8, j5v9, j5x9⟩ h
   have h : kk6 j5xb8 j5x8 j5x9 = some r := h
   rw [hkk6] at h
   dsimp only at h
   clear hkk6
   refine aw_show (m := (memOf w0 Z0 [] [(oBag 5 tyU8 j5us8 j5xb8), (oRow j5v8 94 (tyH j5us8) j5x8), (oRow j5v9 9 tyStr j5x9)] [(fDat (tyList tyS_api_Shard) [v0_0] a0)])) (S := (tab [(8, j5v8), (9, j5v9)])) ?_
   refine aw_sr ?_
   refine al_as rfl rfl ?_
   refine al_nt ?_
   obtain ⟨kk8, hkk8, h⟩ := lt_some h
   refine aw_seq_join (ι := Value × (List (List UInt8))) (fun i => (memOf w0 Z0 [] [(oRow i.1 9 tyStr i.2)] [(fDat (tyList tyS_api_Shard) [v0_0] a0)])) (fun i => (tab [(12, i.1)])) (fun i => kk8 i.2 = some r) ?_ ?_
   ·rintro ⟨j7v12, j7x12⟩ h
    have h : kk8 j7x12 = some r := h
    rw [hkk8] at h
    dsimp only at h
    clear hkk8
    refine aw_show (m := (memOf w0 Z0 [] [(oRow j7v12 9 tyStr j7x12)] [(fDat (tyList tyS_api_Shard) [v0_0] a0)])) (S := (tab [(12, j7v12)])) ?_
    refine aw_sr ?_
    refine al_mv rfl rfl ?_
    refine al_as rfl rfl ?_
    refine al_as rfl rfl ?_
    refine al_nt ?_
    refine aw_ret ?_
    obtain rfl := Option.some.inj h
    exact fn_ret j7v12 [0] [] rfl rfl rfl rfl (res2 rfl rfl rfl) rfl rfl rfl (by decide)
   ·clear hkk8
    refine aw_sr ?_
    refine al_mv rfl rfl ?_
    obtain ⟨r10, hc9, h⟩ := opt_some h
    refine al_call (vs := [j5v8]) (f_shield_inverse_ownd_ok fu j5v8 j5us8 j5x8 j5xb8 hc9) [] [1, 0] [2] pre_nil rfl (by simp) (by decide) (.inl rfl) rfl Try.func41 rfl rfl rfl (fun ⟨v11, us12⟩ => ?_)
    obtain ⟨l13, hc14, h⟩ := opt_some h
    refine al_freezeH 0 1 [2] hc14 rfl rfl (by decide) rfl ?_
    refine al_val (ov_lenD 0 rfl rfl Try.underlying93 rfl) ?_
    refine al_mv rfl rfl ?_
    refine al_nt ?_
    refine aw_block ?_
    refine aw_nilR 9 tyStr ?_
    refine aw_state (aw_loop (ι := Value × (List (List UInt8)) × Int) (fun i => (memOf w0 Z0 [] [(oRow j5v9 9 tyStr j5x9), (oRow i.1 9 tyStr i.2.1)] [(fDat (tyList (tyList tyU8)) [v11] l13), (fDat (tyList tyS_api_Shard) [v0_0] a0)])) (fun i => (tab [(9, j5v9), (12, i.1), (48, v11), (49, (iq (l13.length : Int))), (50, (iq i.2.2))])) (fun q i => f_shield_Mend_L17 j5x9 kk8 l13 fu q i.2.1 i.2.2 = some r) ?_ fu (nS, ([] : List (List UInt8)), (0 : Int)) h) (fun w a hm hs => norm hm hs [1, 0] [0, 1] [(9, j5v9), (12, nS), (48, v11), (49, (iq (l13.length : Int))), (50, (iq (0 : Int)))] (by decide) ⟨rfl, rfl, rfl, rfl, rfl, trivial⟩)
    clear h
    rintro k16 ⟨l15v12, l15x12, l15i50⟩ h
    have h : f_shield_Mend_L17 j5x9 kk8 l13 fu k16 l15x12 l15i50 = some r := h
    obtain _ | k16 := k16
    · rw [f_shield_Mend_L17] at h; cases h
    rw [f_shield_Mend_L17] at h
    refine aw_show (m := (memOf w0 Z0 [] [(oRow j5v9 9 tyStr j5x9), (oRow l15v12 9 tyStr l15x12)] [(fDat (tyList (tyList tyU8)) [v11] l13), (fDat (tyList tyS_api_Shard) [v0_0] a0)])) (S := (tab [(9, j5v9), (12, l15v12), (48, v11), (49, (iq (l13.length : Int))), (50, (iq l15i50))])) ?_
    refine aw_sr ?_
    refine al_in rfl rfl rfl rfl ?_
    refine al_nt ?_
    refine aw_seq ?_
    refine aw_cond rfl (fun hb18 => ?_) (fun hb18 => ?_)
    ·replace h := bif_t hb18 h
     refine aw_skip ?_
     refine aq_then ?_
     refine aw_seq ?_
     refine aw_block ?_
     refine aw_sr ?_
     obtain ⟨u19, hu20, h⟩ := opt_some h
     refine al_idxD 0 hu20 rfl rfl rfl Try.underlying93 sz94 rfl (fun p21 => ?_)
     refine al_loadP1 0 rfl rfl Try.underlying94 sz94 rfl rfl rfl (fun s22 => ?_)
     refine al_as rfl rfl ?_
     refine al_nt ?_
     refine aw_region ?_
     refine al_mv rfl rfl ?_
     refine al_mv rfl rfl ?_
     refine al_mv rfl rfl ?_
     refine al_mv rfl rfl ?_
     obtain ⟨u23, hu24, h⟩ := opt_some h
     refine al_idxR 0 (at_some hu24).1 (at_some hu24).2.1 rfl rfl rfl Try.underlying23 sz9 rfl (fun p25 hp26 => ?_)
     refine al_val (ov_loadR (ds := [(str u23)]) 0 rfl hp26 (at_some hu24).2.2 (fun h => h) rfl Try.underlying9 sz9 rfl rfl rfl) ?_
     refine al_val (ov_strLen Try.underlying9 rfl rfl) ?_
     obtain ⟨r28, hc27, h⟩ := opt_some h
     refine al_call (vs := [s22, j5v9, (iq (u23.length : Int))]) (f_shield_combine_ok fu s22 u19 j5v9 j5x9 (u23.length : Int) hc27) [0] [] [0, 1] (pre_fz 0 rfl (pre_own 0 rfl rfl pre_nil)) rfl (by simp) (by decide) (.inr flat_res0) rfl Try.func42 rfl rfl rfl (fun _ => ?_)
     refine al_buildSlice (τ := tyStr) (e := 9) (k := 1) (sz := 0) (by_ := 0) (z := undef) (cs := [(str r28)]) (xs := [r28]) rfl (by decide) (fun w a hm hs => ⟨([(str r28)]).toArray, rfl, by simp only [List.map_toArray, List.map_cons, List.map_nil, hs.ev (x := .tmp 61) rfl]; exact run_bs [(str r28)] [(str r28)] Try.underlying23 to9 rfl rfl (bs_cons (l := [(str r28)]) (cs := []) (cv_rfl rfl) rfl bs_nil) hm⟩) (fun hm => ⟨_, _, rfl, (fun _ => rfl) hm, rfl⟩) rfl (fun v29 => ?_)
     obtain ⟨hc30, h⟩ := req_some h
     refine al_append 2 hc30.1 hc30.2 rfl (src_own (i := 2) 0 rfl) rfl rfl Try.underlying23 to9 rfl rfl rfl (fun v31 => ?_)
     refine al_as rfl rfl ?_
     refine al_nil ?_
     refine aq_block ?_
     refine aq_then ?_
     refine aw_region ?_
     refine al_in rfl rfl rfl rfl ?_
     refine al_mv rfl rfl ?_
     refine al_nil ?_
     exact aq_again k16 (v31, (l15x12 ++ ([r28])), (wq (l15i50 + (1 : Int)))) (Nat.lt_succ_self _) h (fun w a hm hs => norm hm hs [1, 2] [2, 3] [(9, j5v9), (12, v31), (48, v11), (49, (iq (l13.length : Int))), (50, (iq (wq (l15i50 + (1 : Int)))))] (by decide) ⟨rfl, rfl, rfl, rfl, rfl, trivial⟩)
    ·replace h := bif_f hb18 h
     refine aw_exit ?_
     refine aq_then_exit ?_
     refine aq_then_exit ?_
     refine aq_block_exit ?_
     exact aq_join (l15v12, l15x12) h (fun w a hm hs => norm hm hs [1] [1] [(12, l15v12)] (by decide) ⟨rfl, trivial⟩)
  ·clear hkk6
   refine aw_sr ?_
   refine al_mv rfl rfl ?_
   refine al_mv rfl rfl ?_
   obtain ⟨hc32, h⟩ := req_some h
   refine al_cutR 0 hc32.1 hc32.2 rfl rfl rfl Try.underlying50 sz3 rfl (fun s33 => ?_)
   refine al_val (ov_lenR 0 rfl rfl Try.underlying50 rfl) ?_
   refine al_mv rfl rfl ?_
   refine al_nt ?_
   refine aw_block ?_
   refine aw_bagNew (α := UInt8) 5 tyU8 ?_
   refine aw_nilR 94 (tyH ([] : List Value)) ?_
   refine aw_nilR 9 tyStr ?_
   refine aw_state (aw_loop (ι := Value × (List Value) × (List (Option (List UInt8))) × (List Int) × Value × (List (List UInt8)) × Int) (fun i => (memOf w0 Z0 [] [(oBag 5 tyU8 i.2.1 i.2.2.1), (oRow i.1 94 (tyH i.2.1) i.2.2.2.1), (oRow i.2.2.2.2.1 9 tyStr i.2.2.2.2.2.1), (oRow s33 3 tq (r2.1.take (a1).toNat))] [(fDat (tyList tyS_api_Shard) [v0_0] a0)])) (fun i => (tab [(0, v0_0), (1, (iq a1)), (8, i.1), (9, i.2.2.2.2.1), (26, s33), (27, (iq ((r2.1.take (a1).toNat).length : Int))), (28, (iq i.2.2.2.2.2.2))])) (fun q i => f_shield_Mend_L36 a0 a1 r2 kk6 fu q i.2.2.1 i.2.2.2.1 i.2.2.2.2.2.1 i.2.2.2.2.2.2 = some r) ?_ fu (nS, ([] : List Value), ([] : (List (Option (List UInt8)))), ([] : List Int), nS, ([] : List (List UInt8)), (0 : Int)) h) (fun w a hm hs => norm hm hs [2, 1, 0, 3] [0] [(0, v0_0), (1, (iq a1)), (8, nS), (9, nS), (26, s33), (27, (iq ((r2.1.take (a1).toNat).length : Int))), (28, (iq (0 : Int)))] (by decide) ⟨rfl, rfl, rfl, rfl, rfl, rfl, rfl, trivial⟩)
   clear h
   rintro k35 ⟨l34v8, l34us8, l34xb8, l34x8, l34v9, l34x9, l34i28⟩ h
   have h : f_shield_Mend_L36 a0 a1 r2 kk6 fu k35 l34xb8 l34x8 l34x9 l34i28 = some r := h
   obtain _ | k35 := k35
   · rw [f_shield_Mend_L36] at h; cases h
   rw [f_shield_Mend_L36] at h
   refine aw_show (m := (memOf w0 Z0 [] [(oBag 5 tyU8 l34us8 l34xb8), (oRow l34v8 94 (tyH l34us8) l34x8), (oRow l34v9 9 tyStr l34x9), (oRow s33 3 tq (r2.1.take (a1).toNat))] [(fDat (tyList tyS_api_Shard) [v0_0] a0)])) (S := (tab [(0, v0_0), (1, (iq a1)), (8, l34v8), (9, l34v9), (26, s33), (27, (iq ((r2.1.take (a1).toNat).length : Int))), (28, (iq l34i28))])) ?_
   refine aw_sr ?_
   refine al_in rfl rfl rfl rfl ?_
   refine al_nt ?_
   refine aw_seq ?_
   refine aw_cond rfl (fun hb37 => ?_) (fun hb37 => ?_)
   ·replace h := bif_t hb37 h
    refine aw_skip ?_
    refine aq_then ?_
    refine aw_seq ?_
    refine aw_block ?_
    refine aw_sr ?_
    obtain ⟨u38, hu39, h⟩ := opt_some h
    refine al_idxR 3 (at_some hu39).1 (at_some hu39).2.1 rfl rfl rfl Try.underlying50 sz3 rfl (fun p40 hp41 => ?_)
    refine al_val (ov_loadR (ds := [(iq u38)]) 3 rfl hp41 (at_some hu39).2.2 (fun h => h) rfl Try.underlying3 sz3 rfl rfl rfl) ?_
    refine al_as rfl rfl ?_
    refine al_nt ?_
    refine aw_sr ?_
    refine al_mv rfl rfl ?_
    refine al_mv rfl rfl ?_
    refine al_mv rfl rfl ?_
    obtain ⟨r43, hc42, h⟩ := opt_some h
    refine al_call (vs := [(iq u38), (iq a1)]) (f_shield_row_ok fu u38 a1 hc42) [] [] [0, 1, 2, 3] pre_nil rfl (by simp) (by decide) (.inl rfl) rfl Try.func40 rfl rfl rfl (fun v44 => ?_)
    refine al_bagPush 1 0 rfl rfl rfl ?_
    refine al_rowWide 1 l34us8 v44 rfl ?_
    refine al_buildSlice (τ := (tyH (l34us8 ++ [v44]))) (e := 94) (k := 1) (sz := 0) (by_ := 0) (z := undef) (cs := [v44]) (xs := [(l34xb8.length : Int)]) rfl (by decide) (fun w a hm hs => ⟨([v44]).toArray, rfl, by simp only [List.map_toArray, List.map_cons, List.map_nil, hs.ev (x := .tmp 35) rfl]; exact run_bs [v44] [v44] Try.underlying93 to94 rfl rfl (bs_cons (l := [v44]) (cs := []) (cv_fzH 0 rfl) rfl bs_nil) hm⟩) (fun hm => ⟨_, _, rfl, (fun hm => fz_at (i := 0) hm rfl) hm, rfl⟩) rfl (fun v45 => ?_)
    obtain ⟨hc46, h⟩ := req_some h
    refine al_append 2 hc46.1 hc46.2 rfl (src_own (i := 2) 0 rfl) rfl rfl Try.underlying93 to94 rfl rfl rfl (fun v47 => ?_)
    refine al_as rfl rfl ?_
    refine al_nt ?_
    refine aw_region ?_
    refine al_mv rfl rfl ?_
    refine al_mv rfl rfl ?_
    refine al_mv rfl rfl ?_
    obtain ⟨u48, hu49, h⟩ := opt_some h
    refine al_idxD 1 hu49 rfl rfl rfl Try.underlying22 sz29 rfl (fun p50 => ?_)
    refine al_fieldD (pr := fun (y : S_api_Shard) => y.Bytes) 0 rfl subS_api_Shard_1 rfl Try.underlying29 rfl sz9 rfl rfl (fun p51 => ?_)
    refine al_val (ov_loadP (ds := [(str u48.Bytes)]) 0 rfl (fun h => h) rfl Try.underlying9 sz9 rfl rfl rfl) ?_
    refine al_buildSlice (τ := tyStr) (e := 9) (k := 1) (sz := 0) (by_ := 0) (z := undef) (cs := [(str u48.Bytes)]) (xs := [u48.Bytes]) rfl (by decide) (fun w a hm hs => ⟨([(str u48.Bytes)]).toArray, rfl, by simp only [List.map_toArray, List.map_cons, List.map_nil, hs.ev (x := .tmp 43) rfl]; exact run_bs [(str u48.Bytes)] [(str u48.Bytes)] Try.underlying23 to9 rfl rfl (bs_cons (l := [(str u48.Bytes)]) (cs := []) (cv_rfl rfl) rfl bs_nil) hm⟩) (fun hm => ⟨_, _, rfl, (fun _ => rfl) hm, rfl⟩) rfl (fun v52 => ?_)
    obtain ⟨hc53, h⟩ := req_some h
    refine al_append 4 hc53.1 hc53.2 rfl (src_own (i := 4) 0 rfl) rfl rfl Try.underlying23 to9 rfl rfl rfl (fun v54 => ?_)
    refine al_as rfl rfl ?_
    refine al_nil ?_
    refine aq_block ?_
    refine aq_then ?_
    refine aw_region ?_
    refine al_in rfl rfl rfl rfl ?_
    refine al_mv rfl rfl ?_
    refine al_nil ?_
    exact aq_again k35 (v47, (l34us8 ++ [v44]), (l34xb8 ++ [some r43]), (l34x8 ++ ([(l34xb8.length : Int)])), v54, (l34x9 ++ ([u48.Bytes])), (wq (l34i28 + (1 : Int)))) (Nat.lt_succ_self _) h (fun w a hm hs => norm hm hs [2, 3, 4, 5] [3] [(0, v0_0), (1, (iq a1)), (8, v47), (9, v54), (26, s33), (27, (iq ((r2.1.take (a1).toNat).length : Int))), (28, (iq (wq (l34i28 + (1 : Int)))))] (by decide) ⟨rfl, rfl, rfl, rfl, rfl, rfl, rfl, trivial⟩)
   ·replace h := bif_f hb37 h
    refine aw_exit ?_
    refine aq_then_exit ?_
    refine aq_then_exit ?_
    refine aq_block_exit ?_
    exact aq_join (l34v8, l34us8, l34xb8, l34x8, l34v9, l34x9) h (fun w a hm hs => norm hm hs [0, 1, 2] [0] [(8, l34v8), (9, l34v9)] (by decide) ⟨rfl, rfl, trivial⟩)
def f_lumref_MendErr_L9 (a0 : (List S_api_Shard)) (kk5 : (Int → Option Int)) : Nat → Int → Int → Int → Option Int
  | 0, _, _, _ => none
  | k8 + 1, l7i5, l7i6, l7i30 => (bif (decide (l7i30 < (a0.length : Int))) then (lt (fun (j11i5 : Int) (j11i6 : Int) => (f_lumref_MendErr_L9 a0 kk5 k8 j11i5 j11i6 (IntKind.i64.wrap (l7i30 + (1 : Int))))) fun (kk12 : Int → Int → Option Int) => (opt (at? a0 l7i30) fun (u13 : S_api_Shard) => (bif (!u13.Has) then (kk12 l7i5 l7i6) else (bif (decide ((u13.Bytes.length : Int) > (4096 : Int))) then (some (2 : Int)) else (lt (fun (j19i5 : Int) => (opt (at? a0 j19i5) fun (u21 : S_api_Shard) => (bif ((u13.Bytes.length : Int) != (u21.Bytes.length : Int)) then (some (4 : Int)) else (kk12 j19i5 (IntKind.i64.wrap (l7i6 + (1 : Int))))))) fun (kk20 : Int → Option Int) => (bif (decide (l7i5 < (0 : Int))) then (kk20 l7i30) else (kk20 l7i5))))))) else (kk5 l7i6))
def f_lumref_MendErr (fu : Nat) (a0 : (List S_api_Shard)) (a1 : Int) : Option Int := (lt (fun (j1b27 : Bool) => (bif j1b27 then (some (1 : Int)) else (lt (fun (j4i6 : Int) => (bif (decide (j4i6 < a1)) then (some (7 : Int)) else (some (0 : Int)))) fun (kk5 : Int → Option Int) => (f_lumref_MendErr_L9 a0 kk5 fu (-1 : Int) (0 : Int) (0 : Int))))) fun (kk2 : Bool → Option Int) => (bif (decide (a1 < (1 : Int))) then (kk2 true) else (bif (decide (a1 > (16 : Int))) then (kk2 true) else (bif (decide ((a0.length : Int) ≤ a1)) then (kk2 true) else (kk2 (decide ((a0.length : Int) > (IntKind.i64.wrap (a1 + (8 : Int))))))))))
set_option maxRecDepth 100000 in
set_option maxHeartbeats 2000000 in
set_option maxHeartbeats 2000000 in
theorem f_lumref_MendErr_ok (fu : Nat) (v0_0 : Value) (a0 : (List S_api_Shard)) (a1 : Int) {r : Int} (h : f_lumref_MendErr fu a0 a1 = some r) : FnOk Try.prog 9 [v0_0, (int .i64 a1)] [(fDat (tyList tyS_api_Shard) [v0_0] a0)] [] (fun (i : Unit) => { val := (int .i64 r) }) := by
 unfold f_lumref_MendErr at h
 refine fn_enter Try.func9 rfl Try.ntmps9 rfl (fun w0 Z0 => ?_)
 refine aw_sr ?_
 refine al_as rfl rfl ?_
 refine al_nt ?_
 refine aw_seq ?_
 obtain ⟨kk2, hkk2, h⟩ := lt_some h
 refine aw_seq_join (ι := Bool) (fun i => (memOf w0 Z0 [] [] [(fDat (tyList tyS_api_Shard) [v0_0] a0)])) (fun i => (tab [(0, v0_0), (1, (iq a1)), (27, (bool i))])) (fun i => kk2 i = some r) ?_ ?_
 ·rintro j1b27 h
  have h : kk2 j1b27 = some r := h
  rw [hkk2] at h
  dsimp only at h
  clear hkk2
  refine aw_show (m := (memOf w0 Z0 [] [] [(fDat (tyList tyS_api_Shard) [v0_0] a0)])) (S := (tab [(0, v0_0), (1, (iq a1)), (27, (bool j1b27))])) ?_
  refine aw_cond rfl (fun hb3 => ?_) (fun hb3 => ?_)
  ·replace h := bif_t hb3 h
   refine aw_sr ?_
   refine al_as rfl rfl ?_
   refine al_nt ?_
   refine aw_ret ?_
   refine aq_then_ret ?_
   obtain rfl := Option.some.inj h
   exact fn_ret () [] [] rfl rfl rfl rfl (res1 rfl rfl) rfl rfl rfl (by decide)
  ·replace h := bif_f hb3 h
   refine aw_skip ?_
   refine aq_tr ?_
   refine al_as rfl rfl ?_
   refine al_as rfl rfl ?_
   refine al_nt ?_
   obtain ⟨kk5, hkk5, h⟩ := lt_some h
   refine aw_seq_join (ι := Int) (fun i => (memOf w0 Z0 [] [] [(fDat (tyList tyS_api_Shard) [v0_0] a0)])) (fun i => (tab [(1, (iq a1)), (6, (iq i))])) (fun i => kk5 i = some r) ?_ ?_
   ·rintro j4i6 h
    have h : kk5 j4i6 = some r := h
    rw [hkk5] at h
    dsimp only at h
    clear hkk5
    refine aw_show (m := (memOf w0 Z0 [] [] [(fDat (tyList tyS_api_Shard) [v0_0] a0)])) (S := (tab [(1, (iq a1)), (6, (iq j4i6))])) ?_
    refine aw_seq ?_
    refine aw_sr ?_
    refine al_mv rfl rfl ?_
    refine al_mv rfl rfl ?_
    refine al_in rfl rfl rfl rfl ?_
    refine al_nt ?_
    refine aw_cond rfl (fun hb6 => ?_) (fun hb6 => ?_)
    ·replace h := bif_t hb6 h
     refine aw_sr ?_
     refine al_as rfl rfl ?_
     refine al_nt ?_
     refine aw_ret ?_
     refine aq_then_ret ?_
     obtain rfl := Option.some.inj h
     exact fn_ret () [] [] rfl rfl rfl rfl (res1 rfl rfl) rfl rfl rfl (by decide)
    ·replace h := bif_f hb6 h
     refine aw_skip ?_
     refine aq_tr ?_
     refine al_as rfl rfl ?_
     refine al_nt ?_
     refine aw_ret ?_
     obtain rfl := Option.some.inj h
     exact fn_ret () [] [] rfl rfl rfl rfl (res1 rfl rfl) rfl rfl rfl (by decide)
   ·clear hkk5
    refine aw_sr ?_
    refine al_mv rfl rfl ?_
    refine al_val (ov_lenD 0 rfl rfl Try.underlying22 rfl) ?_
    refine al_mv rfl rfl ?_
    refine al_nt ?_
    refine aw_block ?_
    refine aw_state (aw_loop (ι := Int × Int × Int) (fun i => (memOf w0 Z0 [] [] [(fDat (tyList tyS_api_Shard) [v0_0] a0)])) (fun i => (tab [(0, v0_0), (1, (iq a1)), (5, (iq i.1)), (6, (iq i.2.1)), (28, v0_0), (29, (iq (a0.length : Int))), (30, (iq i.2.2))])) (fun q i => f_lumref_MendErr_L9 a0 kk5 q i.1 i.2.1 i.2.2 = some r) ?_ fu ((-1 : Int), (0 : Int), (0 : Int)) h) (fun w a hm hs => norm hm hs [] [0] [(0, v0_0), (1, (iq a1)), (5, (iq (-1 : Int))), (6, (iq (0 : Int))), (28, v0_0), (29, (iq (a0.length : Int))), (30, (iq (0 : Int)))] (by decide) ⟨rfl, rfl, rfl, rfl, rfl, rfl, rfl, trivial⟩)
    clear h
    rintro k8 ⟨l7i5, l7i6, l7i30⟩ h
    have h : f_lumref_MendErr_L9 a0 kk5 k8 l7i5 l7i6 l7i30 = some r := h
    obtain _ | k8 := k8
    · rw [f_lumref_MendErr_L9] at h; cases h
    rw [f_lumref_MendErr_L9] at h
    refine aw_show (m := (memOf w0 Z0 [] [] [(fDat (tyList tyS_api_Shard) [v0_0] a0)])) (S := (tab [(0, v0_0), (1, (iq a1)), (5, (iq l7i5)), (6, (iq l7i6)), (28, v0_0), (29, (iq (a0.length : Int))), (30, (iq l7i30))])) ?_
    refine aw_sr ?_
    refine al_in rfl rfl rfl rfl ?_
    refine al_nt ?_
    refine aw_seq ?_
    refine aw_cond rfl (fun hb10 => ?_) (fun hb10 => ?_)
    ·replace h := bif_t hb10 h
     refine aw_skip ?_
     refine aq_then ?_
     obtain ⟨kk12, hkk12, h⟩ := lt_some h
     refine aw_seq_join (ι := Int × Int) (fun i => (memOf w0 Z0 [] [] [(fDat (tyList tyS_api_Shard) [v0_0] a0)])) (fun i => (tab [(0, v0_0), (1, (iq a1)), (5, (iq i.1)), (6, (iq i.2)), (28, v0_0), (29, (iq (a0.length : Int))), (30, (iq l7i30))])) (fun i => kk12 i.1 i.2 = some r) ?_ ?_
     ·rintro ⟨j11i5, j11i6⟩ h
      have h : kk12 j11i5 j11i6 = some r := h
      rw [hkk12] at h
      dsimp only at h
      clear hkk12
      refine aw_show (m := (memOf w0 Z0 [] [] [(fDat (tyList tyS_api_Shard) [v0_0] a0)])) (S := (tab [(0, v0_0), (1, (iq a1)), (5, (iq j11i5)), (6, (iq j11i6)), (28, v0_0), (29, (iq (a0.length : Int))), (30, (iq l7i30))])) ?_
      refine aw_region ?_
      refine al_in rfl rfl rfl rfl ?_
      refine al_mv rfl rfl ?_
      refine al_nil ?_
      exact aq_again k8 (j11i5, j11i6, (wq (l7i30 + (1 : Int)))) (Nat.lt_succ_self _) h (fun w a hm hs => norm hm hs [] [0] [(0, v0_0), (1, (iq a1)), (5, (iq j11i5)), (6, (iq j11i6)), (28, v0_0), (29, (iq (a0.length : Int))), (30, (iq (wq (l7i30 + (1 : Int)))))] (by decide) ⟨rfl, rfl, rfl, rfl, rfl, rfl, rfl, trivial⟩)
     ·clear hkk12
      refine aw_block ?_
      refine aw_sr ?_
      refine al_mv rfl rfl ?_
      obtain ⟨u13, hu14, h⟩ := opt_some h
      refine al_idxD 0 hu14 rfl rfl rfl Try.underlying22 sz29 rfl (fun p15 => ?_)
      refine al_val (ov_loadP (ds := [(bool u13.Has), (str u13.Bytes)]) 0 rfl encS_api_Shard rfl Try.underlying29 sz29 rfl rfl rfl) ?_
      refine al_alloc (zs := [(bool false), (str ([] : List UInt8))]) (zeroOf_to to29) rfl rfl (fun g16 => ?_)
      refine al_as rfl rfl ?_
      refine al_store (i := 0) (vs := [(bool u13.Has), (str u13.Bytes)]) (cs' := [(bool u13.Has), (str u13.Bytes)]) rfl rfl rfl sz29 (cv_rfl rfl) rfl (co_val rfl (co_val rfl co_nil)) (Nat.le_of_ble_eq_true rfl) rfl rfl ?_
      refine al_nt ?_
      refine aw_seq ?_
      refine aw_sr ?_
      refine al_val (ov_fieldA (p := 0) rfl Try.underlying29 rfl sz4 rfl rfl rfl) ?_
      refine al_val (ov_load (i := 0) (v := (bool u13.Has)) rfl rfl Try.underlying4 sz4 rfl rfl rfl rfl) ?_
      refine al_val (ov_not rfl rfl) ?_
      refine al_nt ?_
      refine aw_cond rfl (fun hb17 => ?_) (fun hb17 => ?_)
      ·replace h := bif_t hb17 h
       refine aw_exit ?_
       refine aq_then_exit ?_
       refine aq_block_exit ?_
       exact aq_join (l7i5, l7i6) h (fun w a hm hs => norm hm hs [] [1] [(0, v0_0), (1, (iq a1)), (5, (iq l7i5)), (6, (iq l7i6)), (28, v0_0), (29, (iq (a0.length : Int))), (30, (iq l7i30))] (by decide) ⟨rfl, rfl, rfl, rfl, rfl, rfl, rfl, trivial⟩)
      ·replace h := bif_f hb17 h
       refine aw_skip ?_
       refine aq_then ?_
       refine aw_seq ?_
       refine aw_sr ?_
       refine al_val (ov_fieldA (p := 1) rfl Try.underlying29 rfl sz9 rfl rfl rfl) ?_
       refine al_val (ov_load (i := 0) (v := (str u13.Bytes)) rfl rfl Try.underlying9 sz9 rfl rfl rfl rfl) ?_
       refine al_val (ov_strLen Try.underlying9 rfl rfl) ?_
       refine al_in rfl rfl rfl rfl ?_
       refine al_nt ?_
       refine aw_cond rfl (fun hb18 => ?_) (fun hb18 => ?_)
       ·replace h := bif_t hb18 h
        refine aw_sr ?_
        refine al_as rfl rfl ?_
        refine al_nt ?_
        refine aw_ret ?_
        refine aq_then_ret ?_
        refine aq_block_ret ?_
        refine aq_then_ret ?_
        refine aq_then_ret ?_
        refine aq_block_ret ?_
        refine aq_then_ret ?_
        obtain rfl := Option.some.inj h
        exact fn_ret () [] [] rfl rfl rfl rfl (res1 rfl rfl) rfl rfl rfl (by decide)
       ·replace h := bif_f hb18 h
        refine aw_skip ?_
        refine aq_then ?_
        obtain ⟨kk20, hkk20, h⟩ := lt_some h
        refine aw_seq_join (ι := Int) (fun i => (memOf w0 Z0 [] [(oBox g16 29 [(bool u13.Has), (str u13.Bytes)])] [(fDat (tyList tyS_api_Shard) [v0_0] a0), (fPtr tyS_api_Shard p15 u13)])) (fun i => (tab [(0, v0_0), (1, (iq a1)), (5, (iq i)), (6, (iq l7i6)), (8, (pq g16)), (28, v0_0), (29, (iq (a0.length : Int))), (30, (iq l7i30))])) (fun i => kk20 i = some r) ?_ ?_
        ·rintro j19i5 h
         have h : kk20 j19i5 = some r := h
         rw [hkk20] at h
         dsimp only at h
         clear hkk20
         refine aw_show (m := (memOf w0 Z0 [] [(oBox g16 29 [(bool u13.Has), (str u13.Bytes)])] [(fDat (tyList tyS_api_Shard) [v0_0] a0), (fPtr tyS_api_Shard p15 u13)])) (S := (tab [(0, v0_0), (1, (iq a1)), (5, (iq j19i5)), (6, (iq l7i6)), (8, (pq g16)), (28, v0_0), (29, (iq (a0.length : Int))), (30, (iq l7i30))])) ?_
         refine aw_seq ?_
         refine aw_seq ?_
         obtain ⟨u21, hu22, h⟩ := opt_some h
         refine aw_region_draw 9 [(45, (fun u => fEq u (ptr g16 1))), (46, (fun u => fEq u (str u13.Bytes))), (47, (fun u => fEq u (iq (u13.Bytes.length : Int)))), (48, (fun u => fEq u v0_0)), (49, (fun u => fEq u (iq j19i5))), (50, (fun p23 => (fPtr tyS_api_Shard p23 u21))), (51, (fun p24 => (fPtr tyStr p24 u21.Bytes))), (52, (fun u => fEq u (str u21.Bytes))), (53, (fun u => fEq u (iq (u21.Bytes.length : Int))))] (tab [(0, v0_0), (1, (iq a1)), (5, (iq j19i5)), (6, (iq l7i6)), (8, (pq g16)), (28, v0_0), (29, (iq (a0.length : Int))), (30, (iq l7i30))]) mixed (by kernel_rfl) rfl rfl rfl (fun a hs => hs.tab _ (allT_mem ⟨rfl, rfl, rfl, rfl, rfl, rfl, rfl, rfl, trivial⟩)) ⟨⟨rfl, ld_val (ov_fieldA (p := 1) rfl Try.underlying29 rfl sz9 rfl rfl rfl)⟩, ⟨rfl, ld_eq (j := 0) rfl rfl (ld_val (ov_load (i := 0) (v := (str u13.Bytes)) rfl rfl Try.underlying9 sz9 rfl rfl rfl rfl))⟩, ⟨rfl, ld_eq (j := 1) rfl rfl (ld_val (ov_strLen Try.underlying9 rfl rfl))⟩, ⟨rfl, ld_val (ov_move rfl rfl)⟩, ⟨rfl, ld_val (ov_move rfl rfl)⟩, ⟨rfl, ld_eq (j := 3) rfl rfl (ld_eq (j := 4) rfl rfl (ld_of (of_idxD 0 hu22 rfl rfl rfl Try.underlying22 sz29 rfl)))⟩, ⟨rfl, ld_fact (j := 5) rfl rfl (fun p23 => ld_of (of_fieldD (pr := fun (y : S_api_Shard) => y.Bytes) 0 rfl subS_api_Shard_1 rfl Try.underlying29 rfl sz9 rfl rfl))⟩, ⟨rfl, ld_fact (j := 6) rfl rfl (fun p24 => ld_val (ov_loadP (ds := [(str u21.Bytes)]) 0 rfl (fun h => h) rfl Try.underlying9 sz9 rfl rfl rfl))⟩, ⟨rfl, ld_eq (j := 7) rfl rfl (ld_val (ov_strLen Try.underlying9 rfl rfl))⟩, trivial⟩ ?_
         refine tl_eq 2 rfl ?_
         refine tl_eq 8 rfl ?_
         refine tl_done ?_
         refine al_in rfl rfl rfl rfl ?_
         refine al_nt ?_
         refine aw_cond rfl (fun hb25 => ?_) (fun hb25 => ?_)
         ·replace h := bif_t hb25 h
          refine aw_sr ?_
          refine al_as rfl rfl ?_
          refine al_nt ?_
          refine aw_ret ?_
          refine aq_then_ret ?_
          refine aq_block_ret ?_
          refine aq_then_ret ?_
          refine aq_then_ret ?_
          refine aq_block_ret ?_
          refine aq_then_ret ?_
          obtain rfl := Option.some.inj h
          exact fn_ret () [] [] rfl rfl rfl rfl (res1 rfl rfl) rfl rfl rfl (by decide)
         ·replace h := bif_f hb25 h
          refine aw_skip ?_
          refine aq_then ?_
          refine aw_region ?_
          refine al_mv rfl rfl ?_
          refine al_in rfl rfl rfl rfl ?_
          refine al_as rfl rfl ?_
          refine al_nil ?_
          refine aq_block ?_
          exact aq_join (j19i5, (wq (l7i6 + (1 : Int)))) h (fun w a hm hs => norm hm hs [] [0] [(0, v0_0), (1, (iq a1)), (5, (iq j19i5)), (6, (iq (wq (l7i6 + (1 : Int))))), (28, v0_0), (29, (iq (a0.length : Int))), (30, (iq l7i30))] (by decide) ⟨rfl, rfl, rfl, rfl, rfl, rfl, rfl, trivial⟩)
        ·clear hkk20
         refine aw_sr ?_
         refine al_mv rfl rfl ?_
         refine al_in rfl rfl rfl rfl ?_
         refine al_nt ?_
         refine aw_cond rfl (fun hb26 => ?_) (fun hb26 => ?_)
         ·replace h := bif_t hb26 h
          refine aw_region ?_
          refine al_mv rfl rfl ?_
          refine al_as rfl rfl ?_
          refine al_nil ?_
          exact aq_join l7i30 h (fun w a hm hs => norm hm hs [0] [1, 0] [(0, v0_0), (1, (iq a1)), (5, (iq l7i30)), (6, (iq l7i6)), (8, (pq g16)), (28, v0_0), (29, (iq (a0.length : Int))), (30, (iq l7i30))] (by decide) ⟨rfl, rfl, rfl, rfl, rfl, rfl, rfl, rfl, trivial⟩)
         ·replace h := bif_f hb26 h
          refine aw_skip ?_
          exact aq_join l7i5 h (fun w a hm hs => norm hm hs [0] [1, 0] [(0, v0_0), (1, (iq a1)), (5, (iq l7i5)), (6, (iq l7i6)), (8, (pq g16)), (28, v0_0), (29, (iq (a0.length : Int))), (30, (iq l7i30))] (by decide) ⟨rfl, rfl, rfl, rfl, rfl, rfl, rfl, rfl, trivial⟩)
    ·replace h := bif_f hb10 h
     refine aw_exit ?_
     refine aq_then_exit ?_
     refine aq_then_exit ?_
     refine aq_block_exit ?_
     exact aq_join l7i6 h (fun w a hm hs => norm hm hs [] [0] [(1, (iq a1)), (6, (iq l7i6))] (by decide) ⟨rfl, rfl, trivial⟩)
 ·clear hkk2
  refine aw_region ?_
  refine al_mv rfl rfl ?_
  refine al_in rfl rfl rfl rfl ?_
  refine al_mv rfl rfl ?_
  refine al_caseB 11 rfl (fun hb27 => ?_) (fun hb27 => ?_)
  ·replace h := bif_t hb27 h
   refine al_skip ?_
   refine al_skip ?_
   refine al_val (ov_pick_t rfl rfl rfl) ?_
   refine al_mv rfl rfl ?_
   refine al_skip ?_
   refine al_skip ?_
   refine al_skip ?_
   refine al_skip ?_
   refine al_val (ov_pick_t rfl rfl rfl) ?_
   refine al_mv rfl rfl ?_
   refine al_skip ?_
   refine al_skip ?_
   refine al_skip ?_
   refine al_skip ?_
   refine al_skip ?_
   refine al_val (ov_pick_t rfl rfl rfl) ?_
   refine al_nil ?_
   exact aq_join true h (fun w a hm hs => norm hm hs [] [0] [(0, v0_0), (1, (iq a1)), (27, (bool true))] (by decide) ⟨rfl, rfl, rfl, trivial⟩)
  ·replace h := bif_f hb27 h
   refine al_mv rfl rfl ?_
   refine al_in rfl rfl rfl rfl ?_
   refine al_val (ov_pick_f rfl rfl rfl) ?_
   refine al_mv rfl rfl ?_
   refine al_caseB 15 rfl (fun hb28 => ?_) (fun hb28 => ?_)
   ·replace h := bif_t hb28 h
    refine al_skip ?_
    refine al_skip ?_
    refine al_skip ?_
    refine al_skip ?_
    refine al_val (ov_pick_t rfl rfl rfl) ?_
    refine al_mv rfl rfl ?_
    refine al_skip ?_
    refine al_skip ?_
    refine al_skip ?_
    refine al_skip ?_
    refine al_skip ?_
    refine al_val (ov_pick_t rfl rfl rfl) ?_
    refine al_nil ?_
    exact aq_join true h (fun w a hm hs => norm hm hs [] [0] [(0, v0_0), (1, (iq a1)), (27, (bool true))] (by decide) ⟨rfl, rfl, rfl, trivial⟩)
   ·replace h := bif_f hb28 h
    refine al_mv rfl rfl ?_
    refine al_val (ov_lenD 0 rfl rfl Try.underlying22 rfl) ?_
    refine al_mv rfl rfl ?_
    refine al_in rfl rfl rfl rfl ?_
    refine al_val (ov_pick_f rfl rfl rfl) ?_
    refine al_mv rfl rfl ?_
    refine al_caseB 21 rfl (fun hb29 => ?_) (fun hb29 => ?_)
    ·replace h := bif_t hb29 h
     refine al_skip ?_
     refine al_skip ?_
     refine al_skip ?_
     refine al_skip ?_
     refine al_skip ?_
     refine al_val (ov_pick_t rfl rfl rfl) ?_
     refine al_nil ?_
     exact aq_join true h (fun w a hm hs => norm hm hs [] [0] [(0, v0_0), (1, (iq a1)), (27, (bool true))] (by decide) ⟨rfl, rfl, rfl, trivial⟩)
    ·replace h := bif_f hb29 h
     refine al_mv rfl rfl ?_
     refine al_val (ov_lenD 0 rfl rfl Try.underlying22 rfl) ?_
     refine al_mv rfl rfl ?_
     refine al_in rfl rfl rfl rfl ?_
     refine al_in rfl rfl rfl rfl ?_
     refine al_val (ov_pick_f rfl rfl rfl) ?_
     refine al_nil ?_
     exact aq_join (decide ((a0.length : Int) > (wq (a1 + (8 : Int))))) h (fun w a hm hs => norm hm hs [] [0] [(0, v0_0), (1, (iq a1)), (27, (bool (decide ((a0.length : Int) > (wq (a1 + (8 : Int)))))))] (by decide) ⟨rfl, rfl, rfl, trivial⟩)
def f_shield_Check_L9 (a0 : (List S_api_Shard)) (a1 : Int) (r2 : ((List (List UInt8)) × Int)) (kk6 : (Unit → Option Int)) (fu : Nat) : Nat → Int → Option Int
  | 0, _ => none
  | k8 + 1, l7i20 => (bif (decide (l7i20 < (a0.length : Int))) then (opt (at? a0 l7i20) fun (u11 : S_api_Shard) => (lt (fun (j15b40 : Bool) => (bif j15b40 then (some (6 : Int)) else (f_shield_Check_L9 a0 a1 r2 kk6 fu k8 (IntKind.i64.wrap (l7i20 + (1 : Int)))))) fun (kk16 : Bool → Option Int) => (bif u11.Has then (opt (f_shield_row fu l7i20 a1) fun (r20 : (List UInt8)) => (opt (at? r2.1 (0 : Int)) fun (u22 : (List UInt8)) => (opt (f_shield_combine fu r20 r2.1 (u22.length : Int)) fun (r27 : (List UInt8)) => (kk16 (!(u11.Bytes == r27)))))) else (kk16 false)))) else (kk6 ()))
def f_shield_Check (fu : Nat) (a0 : (List S_api_Shard)) (a1 : Int) : Option Int := (opt (f_shield_Mend fu a0 a1) fun (r2 : ((List (List UInt8)) × Int)) => (bif (r2.2 != (0 : Int)) then (some r2.2) else (lt (fun (_ : Unit) => (some (0 : Int))) fun (kk6 : Unit → Option Int) => (f_shield_Check_L9 a0 a1 r2 kk6 fu fu (0 : Int)))))
set_option maxHeartbeats 2000000 in
set_option maxRecDepth 100000 in
theorem f_shield_Check_ok (fu : Nat) (v0_0 : Value) (a0 : (List S_api_Shard)) (a1 : Int) {r : Int} (h : f_shield_Check fu a0 a1 = some r) : FnOk Try.prog 10 [v0_0, (int .i64 a1)] [(fDat (tyList tyS_api_Shard) [v0_0] a0)] [] (fun (i : Unit) => { val := (int .i64 r) }) := by
 unfold f_shield_Check at h
 refine fn_enter Try.func10 rfl Try.ntmps10 rfl (fun w0 Z0 => ?_)
 refine aw_sr ?_
 refine al_as rfl rfl ?_
 refine al_nt ?_
 refine aw_sr ?_
 refine al_mv rfl rfl ?_
 refine al_mv rfl rfl ?_
 obtain ⟨r2, hc1, h⟩ := opt_some h
 refine al_call (vs := [v0_0, (iq a1)]) (f_shield_Mend_ok fu v0_0 a0 a1 hc1) [] [] [] (pre_fz 0 rfl pre_nil) rfl (by simp) (by decide) (.inl rfl) rfl Try.func8 rfl rfl rfl (fun v3 => ?_)
 refine al_mv rfl rfl ?_
 refine al_ex rfl rfl rfl ?_
 refine al_ex rfl rfl rfl ?_
 refine al_as rfl rfl ?_
 refine al_as rfl rfl ?_
 refine al_nt ?_
 refine aw_seq ?_
 refine aw_sr ?_
 refine al_mv rfl rfl ?_
 refine al_in rfl rfl rfl rfl ?_
 refine al_nt ?_
 refine aw_cond rfl (fun hb4 => ?_) (fun hb4 => ?_)
 ·replace h := bif_t hb4 h
  refine aw_sr ?_
  refine al_mv rfl rfl ?_
  refine al_as rfl rfl ?_
  refine al_nt ?_
  refine aw_ret ?_
  refine aq_then_ret ?_
  obtain rfl := Option.some.inj h
  exact fn_ret () [] [] rfl rfl rfl rfl (res1 rfl rfl) rfl rfl rfl (by decide)
 ·replace h := bif_f hb4 h
  refine aw_skip ?_
  refine aq_then ?_
  obtain ⟨kk6, hkk6, h⟩ := lt_some h
  refine aw_seq_join (ι := Unit) (fun i => (memOf w0 Z0 [] [] [(fDat (tyList tyS_api_Shard) [v0_0] a0)])) (fun i => (tab [])) (fun i => kk6 () = some r) ?_ ?_
  ·rintro _ h
   have h : kk6 () = some r := h
   rw [hkk6] at h
   dsimp only at h
   clear hkk6
   refine aw_show (m := (memOf w0 Z0 [] [] [(fDat (tyList tyS_api_Shard) [v0_0] a0)])) (S := (tab [])) ?_
   refine aw_sr ?_
   refine al_as rfl rfl ?_
   refine al_nt ?_
   refine aw_ret ?_
   obtain rfl := Option.some.inj h
   exact fn_ret () [] [] rfl rfl rfl rfl (res1 rfl rfl) rfl rfl rfl (by decide)
  ·clear hkk6
   refine aw_sr ?_
   refine al_mv rfl rfl ?_
   refine al_val (ov_lenD 0 rfl rfl Try.underlying22 rfl) ?_
   refine al_mv rfl rfl ?_
   refine al_nt ?_
   refine aw_block ?_
   refine aw_state (aw_loop (ι := Int) (fun i => (memOf w0 Z0 [] [(oRow v3 9 tyStr r2.1)] [(fDat (tyList tyS_api_Shard) [v0_0] a0)])) (fun i => (tab [(1, (iq a1)), (5, v3), (18, v0_0), (19, (iq (a0.length : Int))), (20, (iq i))])) (fun q i => f_shield_Check_L9 a0 a1 r2 kk6 fu q i = some r) ?_ fu (0 : Int) h) (fun w a hm hs => norm hm hs [0] [0] [(1, (iq a1)), (5, v3), (18, v0_0), (19, (iq (a0.length : Int))), (20, (iq (0 : Int)))] (by decide) ⟨rfl, rfl, rfl, rfl, rfl, trivial⟩)
   clear h
   rintro k8 l7i20 h
   have h : f_shield_Check_L9 a0 a1 r2 kk6 fu k8 l7i20 = some r := h
   obtain _ | k8 := k8
   · rw [f_shield_Check_L9] at h; cases h
   rw [f_shield_Check_L9] at h
   refine aw_show (m := (memOf w0 Z0 [] [(oRow v3 9 tyStr r2.1)] [(fDat (tyList tyS_api_Shard) [v0_0] a0)])) (S := (tab [(1, (iq a1)), (5, v3), (18, v0_0), (19, (iq (a0.length : Int))), (20, (iq l7i20))])) ?_
   refine aw_sr ?_
   refine al_in rfl rfl rfl rfl ?_
   refine al_nt ?_
   refine aw_seq ?_
   refine aw_cond rfl (fun hb10 => ?_) (fun hb10 => ?_)
   ·replace h := bif_t hb10 h
    refine aw_skip ?_
    refine aq_then ?_
    refine aw_seq ?_
    refine aw_block ?_
    refine aw_sr ?_
    refine al_mv rfl rfl ?_
    obtain ⟨u11, hu12, h⟩ := opt_some h
    refine al_idxD 0 hu12 rfl rfl rfl Try.underlying22 sz29 rfl (fun p13 => ?_)
    refine al_val (ov_loadP (ds := [(bool u11.Has), (str u11.Bytes)]) 0 rfl encS_api_Shard rfl Try.underlying29 sz29 rfl rfl rfl) ?_
    refine al_alloc (zs := [(bool false), (str ([] : List UInt8))]) (zeroOf_to to29) rfl rfl (fun g14 => ?_)
    refine al_as rfl rfl ?_
    refine al_store (i := 0) (vs := [(bool u11.Has), (str u11.Bytes)]) (cs' := [(bool u11.Has), (str u11.Bytes)]) rfl rfl rfl sz29 (cv_rfl rfl) rfl (co_val rfl (co_val rfl co_nil)) (Nat.le_of_ble_eq_true rfl) rfl rfl ?_
    refine al_nt ?_
    obtain ⟨kk16, hkk16, h⟩ := lt_some h
    refine aw_seq_join (ι := Bool) (fun i => (memOf w0 Z0 [] [(oRow v3 9 tyStr r2.1)] [(fDat (tyList tyS_api_Shard) [v0_0] a0), (fPtr tyS_api_Shard p13 u11)])) (fun i => (tab [(1, (iq a1)), (5, v3), (18, v0_0), (19, (iq (a0.length : Int))), (20, (iq l7i20)), (40, (bool i))])) (fun i => kk16 i = some r) ?_ ?_
    ·rintro j15b40 h
     have h : kk16 j15b40 = some r := h
     rw [hkk16] at h
     dsimp only at h
     clear hkk16
     refine aw_show (m := (memOf w0 Z0 [] [(oRow v3 9 tyStr r2.1)] [(fDat (tyList tyS_api_Shard) [v0_0] a0), (fPtr tyS_api_Shard p13 u11)])) (S := (tab [(1, (iq a1)), (5, v3), (18, v0_0), (19, (iq (a0.length : Int))), (20, (iq l7i20)), (40, (bool j15b40))])) ?_
     refine aw_cond rfl (fun hb17 => ?_) (fun hb17 => ?_)
     ·replace h := bif_t hb17 h
      refine aw_sr ?_
      refine al_as rfl rfl ?_
      refine al_nt ?_
      refine aw_ret ?_
      refine aq_block_ret ?_
      refine aq_then_ret ?_
      refine aq_then_ret ?_
      refine aq_block_ret ?_
      refine aq_then_ret ?_
      obtain rfl := Option.some.inj h
      exact fn_ret () [] [] rfl rfl rfl rfl (res1 rfl rfl) rfl rfl rfl (by decide)
     ·replace h := bif_f hb17 h
      refine aw_skip ?_
      refine aq_block ?_
      refine aq_then ?_
      refine aw_region ?_
      refine al_in rfl rfl rfl rfl ?_
      refine al_mv rfl rfl ?_
      refine al_nil ?_
      exact aq_again k8 (wq (l7i20 + (1 : Int))) (Nat.lt_succ_self _) h (fun w a hm hs => norm hm hs [0] [0] [(1, (iq a1)), (5, v3), (18, v0_0), (19, (iq (a0.length : Int))), (20, (iq (wq (l7i20 + (1 : Int)))))] (by decide) ⟨rfl, rfl, rfl, rfl, rfl, trivial⟩)
    ·clear hkk16
     rcases Bool.eq_false_or_eq_true u11.Has with hb18 | hb18
     ·replace h := bif_t hb18 h
      obtain ⟨r20, hc19, h⟩ := opt_some h
      obtain ⟨u22, hu23, h⟩ := opt_some h
      obtain ⟨r27, hc26, h⟩ := opt_some h
      refine aw_region_draw 15 [(25, (fun u => fEq u (pq g14))), (26, (fun u => fEq u (bool true))), (27, (fun u => fEq u (bool true))), (28, (fun u => fEq u (ptr g14 1))), (29, (fun u => fEq u (str u11.Bytes))), (30, (fun u => fEq u (iq l7i20))), (31, (fun u => fEq u (iq a1))), (32, (fun v21 => (fDat (tyList tyU8) [v21] r20))), (33, (fun u => fEq u v3)), (34, (fun u => fEq u v3)), (35, (fun p => fElt v3 p (((0 : Int)).toNat * Ty.size tyStr))), (36, (fun u => fEq u (str u22))), (37, (fun u => fEq u (iq (u22.length : Int)))), (38, (fun u => fEq u (str r27))), (39, (fun u => fEq u (bool (!(u11.Bytes == r27)))))] (tab [(1, (iq a1)), (5, v3), (7, (iq l7i20)), (8, (pq g14)), (18, v0_0), (19, (iq (a0.length : Int))), (20, (iq l7i20))]) mixed (by kernel_rfl) rfl rfl rfl (fun a hs => hs.tab _ (allT_mem ⟨rfl, rfl, rfl, rfl, rfl, rfl, rfl, trivial⟩)) ⟨⟨rfl, ld_val (ov_fieldA (p := 0) rfl Try.underlying29 rfl sz4 rfl rfl rfl)⟩, ⟨rfl, ld_eq (j := 0) rfl rfl (ld_val (ov_cast (by first | rw [hb18] | rfl) (ov_load (i := 0) (v := (bool u11.Has)) rfl rfl Try.underlying4 sz4 rfl rfl rfl rfl)))⟩, ⟨rfl, ld_eq (j := 1) rfl rfl (ld_val (ov_cast (by first | rw [hb18] | rfl) (ov_move rfl rfl)))⟩, ⟨rfl, ld_eq (j := 2) rfl rfl (ld_val (ov_fieldA (p := 1) rfl Try.underlying29 rfl sz9 rfl rfl rfl))⟩, ⟨rfl, ld_eq (j := 2) rfl rfl (ld_eq (j := 3) rfl rfl (ld_val (ov_load (i := 0) (v := (str u11.Bytes)) rfl rfl Try.underlying9 sz9 rfl rfl rfl rfl)))⟩, ⟨rfl, ld_eq (j := 2) rfl rfl (ld_val (ov_move rfl rfl))⟩, ⟨rfl, ld_eq (j := 2) rfl rfl (ld_val (ov_move rfl rfl))⟩, ⟨rfl, ld_eq (j := 2) rfl rfl (ld_eq (j := 5) rfl rfl (ld_eq (j := 6) rfl rfl (ld_callR (vs := [(iq l7i20), (iq a1)]) flat_enc (f_shield_row_ok fu l7i20 a1 hc19) [] pre_nil rfl Try.func40 rfl rfl rfl)))⟩, ⟨rfl, ld_eq (j := 2) rfl rfl (ld_val (ov_move rfl rfl))⟩, ⟨rfl, ld_eq (j := 2) rfl rfl (ld_val (ov_move rfl rfl))⟩, ⟨rfl, ld_eq (j := 2) rfl rfl (ld_eq (j := 9) rfl rfl (ld_of (of_idxR 1 (at_some hu23).1 (at_some hu23).2.1 rfl rfl rfl Try.underlying23 sz9 rfl)))⟩, ⟨rfl, ld_eq (j := 2) rfl rfl (ld_elt (j := 10) rfl rfl (fun p24 hp25 => ld_val (ov_loadR (ds := [(str u22)]) 1 rfl hp25 (at_some hu23).2.2 (fun h => h) rfl Try.underlying9 sz9 rfl rfl rfl)))⟩, ⟨rfl, ld_eq (j := 2) rfl rfl (ld_eq (j := 11) rfl rfl (ld_val (ov_strLen Try.underlying9 rfl rfl)))⟩, ⟨rfl, ld_eq (j := 2) rfl rfl (ld_fact (j := 7) rfl rfl (fun v21 => ld_eq (j := 8) rfl rfl (ld_eq (j := 12) rfl rfl (ld_callV (vs := [v21, v3, (iq (u22.length : Int))]) (f_shield_combine_ok fu v21 r20 v3 r2.1 (u22.length : Int) hc26) [1] (pre_fz 0 rfl (pre_own 1 rfl rfl pre_nil)) rfl Try.func42 rfl rfl rfl))))⟩, ⟨rfl, ld_eq (j := 2) rfl rfl (ld_eq (j := 4) rfl rfl (ld_eq (j := 13) rfl rfl (ld_val (ov_strCmp rfl rfl rfl rfl))))⟩, trivial⟩ ?_
      refine tl_eq 2 rfl ?_
      refine tl_eq 14 rfl ?_
      refine tl_done ?_
      refine al_val (ov_pick_t rfl rfl rfl) ?_
      refine al_nil ?_
      exact aq_join (!(u11.Bytes == r27)) h (fun w a hm hs => norm hm hs [1] [1, 0] [(1, (iq a1)), (5, v3), (18, v0_0), (19, (iq (a0.length : Int))), (20, (iq l7i20)), (40, (bool (!(u11.Bytes == r27))))] (by decide) ⟨rfl, rfl, rfl, rfl, rfl, rfl, trivial⟩)
     ·replace h := bif_f hb18 h
      refine aw_region_draw 15 [(25, (fun u => fEq u (pq g14))), (26, (fun u => fEq u (bool false))), (27, (fun u => fEq u (bool false))), (28, (fun u => fEq u undef)), (29, (fun u => fEq u undef)), (30, (fun u => fEq u undef)), (31, (fun u => fEq u undef)), (32, (fun u => fEq u undef)), (33, (fun u => fEq u undef)), (34, (fun u => fEq u undef)), (35, (fun u => fEq u undef)), (36, (fun u => fEq u undef)), (37, (fun u => fEq u undef)), (38, (fun u => fEq u undef)), (39, (fun u => fEq u undef))] (tab [(1, (iq a1)), (5, v3), (7, (iq l7i20)), (8, (pq g14)), (18, v0_0), (19, (iq (a0.length : Int))), (20, (iq l7i20))]) mixed (by kernel_rfl) rfl rfl rfl (fun a hs => hs.tab _ (allT_mem ⟨rfl, rfl, rfl, rfl, rfl, rfl, rfl, trivial⟩)) ⟨⟨rfl, ld_val (ov_fieldA (p := 0) rfl Try.underlying29 rfl sz4 rfl rfl rfl)⟩, ⟨rfl, ld_eq (j := 0) rfl rfl (ld_val (ov_cast (by first | rw [hb18] | rfl) (ov_load (i := 0) (v := (bool u11.Has)) rfl rfl Try.underlying4 sz4 rfl rfl rfl rfl)))⟩, ⟨rfl, ld_eq (j := 1) rfl rfl (ld_val (ov_cast (by first | rw [hb18] | rfl) (ov_move rfl rfl)))⟩, ⟨rfl, ld_eq (j := 2) rfl rfl (ld_skip)⟩, ⟨rfl, ld_eq (j := 2) rfl rfl (ld_skip)⟩, ⟨rfl, ld_eq (j := 2) rfl rfl (ld_skip)⟩, ⟨rfl, ld_eq (j := 2) rfl rfl (ld_skip)⟩, ⟨rfl, ld_eq (j := 2) rfl rfl (ld_skip)⟩, ⟨rfl, ld_eq (j := 2) rfl rfl (ld_skip)⟩, ⟨rfl, ld_eq (j := 2) rfl rfl (ld_skip)⟩, ⟨rfl, ld_eq (j := 2) rfl rfl (ld_skip)⟩, ⟨rfl, ld_eq (j := 2) rfl rfl (ld_skip)⟩, ⟨rfl, ld_eq (j := 2) rfl rfl (ld_skip)⟩, ⟨rfl, ld_eq (j := 2) rfl rfl (ld_skip)⟩, ⟨rfl, ld_eq (j := 2) rfl rfl (ld_skip)⟩, trivial⟩ ?_
      refine tl_eq 2 rfl ?_
      refine tl_eq 14 rfl ?_
      refine tl_done ?_
      refine al_val (ov_pick_f rfl rfl rfl) ?_
      refine al_nil ?_
      exact aq_join false h (fun w a hm hs => norm hm hs [1] [1, 0] [(1, (iq a1)), (5, v3), (18, v0_0), (19, (iq (a0.length : Int))), (20, (iq l7i20)), (40, (bool false))] (by decide) ⟨rfl, rfl, rfl, rfl, rfl, rfl, trivial⟩)
   ·replace h := bif_f hb10 h
    refine aw_exit ?_
    refine aq_then_exit ?_
    refine aq_then_exit ?_
    refine aq_block_exit ?_
    exact aq_join () h (fun w a hm hs => norm hm hs [] [0] [] (by decide) trivial)
def f_lumlaw_ShieldMends_1 (fu : Nat) (a0 : (List UInt8)) (a1 : S_api_Shard) : Option Bool := (some ((a0.length : Int) != (a1.Bytes.length : Int)))
set_option maxRecDepth 100000 in
theorem f_lumlaw_ShieldMends_1_ok (fu : Nat) (a0 : (List UInt8)) (c1 : Value) (a1 : S_api_Shard) {r : Bool} (h : f_lumlaw_ShieldMends_1 fu a0 a1 = some r) : FnOk Try.prog 12 [(str a0), c1] [(fPtr tyS_api_Shard c1 a1)] [] (fun (i : Unit) => { val := (bool r) }) := by
 unfold f_lumlaw_ShieldMends_1 at h
 refine fn_enter Try.func12 rfl Try.ntmps12 rfl (fun w0 Z0 => ?_)
 refine aw_sr ?_
 refine al_as rfl rfl ?_
 refine al_nt ?_
 refine aw_sr ?_
 refine al_mv rfl rfl ?_
 refine al_val (ov_strLen Try.underlying9 rfl rfl) ?_
 refine al_fieldD (pr := fun (y : S_api_Shard) => y.Bytes) 0 rfl subS_api_Shard_1 rfl Try.underlying29 rfl sz9 rfl rfl (fun p1 => ?_)
 refine al_val (ov_loadP (ds := [(str a1.Bytes)]) 0 rfl (fun h => h) rfl Try.underlying9 sz9 rfl rfl rfl) ?_
 refine al_val (ov_strLen Try.underlying9 rfl rfl) ?_
 refine al_in rfl rfl rfl rfl ?_
 refine al_as rfl rfl ?_
 refine al_nt ?_
 refine aw_ret ?_
 obtain rfl := Option.some.inj h
 exact fn_ret () [] [] rfl rfl rfl rfl (res1 rfl rfl) rfl rfl rfl (by decide)
-- STUCK slices.IndexFunc[[]string,string]: lty ['func', [9], [4], False]
-- STUCK slices.ContainsFunc[[]string,string]: lty ['func', [9], [4], False]
def f_lumref_Mul_L7 (kk4 : (Int → Option Int)) : Nat → Int → Int → Option Int
  | 0, _, _ => none
  | k6 + 1, l5i5, l5i7 => (bif (decide (l5i7 ≥ (8 : Int))) then (lt (fun (j9i5 : Int) => (f_lumref_Mul_L7 kk4 k6 j9i5 (IntKind.i64.wrap (l5i7 - (1 : Int))))) fun (kk10 : Int → Option Int) => (req (0 ≤ l5i7) (bif ((bits .and .i64 ((l5i5).fdiv (2 ^ min (l5i7).toNat (IntKind.bits .i64))) (1 : Int)) == (1 : Int)) then (req (0 ≤ (IntKind.i64.wrap (l5i7 - (8 : Int)))) (kk10 (bits .xor .i64 l5i5 (IntKind.i64.wrap ((285 : Int) * 2 ^ min ((IntKind.i64.wrap (l5i7 - (8 : Int)))).toNat (IntKind.bits .i64)))))) else (kk10 l5i5)))) else (kk4 l5i5))
def f_lumref_Mul_L16 (a0 : Int) (a1 : Int) (kk2 : (Int → Option Int)) : Nat → Int → Int → Option Int
  | 0, _, _ => none
  | k15 + 1, l14i5, l14i8 => (bif (decide (l14i8 < (8 : Int))) then (lt (fun (j18i5 : Int) => (f_lumref_Mul_L16 a0 a1 kk2 k15 j18i5 (IntKind.i64.wrap (l14i8 + (1 : Int))))) fun (kk19 : Int → Option Int) => (req (0 ≤ l14i8) (bif ((bits .and .u8 ((a1).fdiv (2 ^ min (l14i8).toNat (IntKind.bits .u8))) (1 : Int)) == (1 : Int)) then (req (0 ≤ l14i8) (kk19 (bits .xor .i64 l14i5 (IntKind.i64.wrap ((IntKind.i64.wrap a0) * 2 ^ min (l14i8).toNat (IntKind.bits .i64)))))) else (kk19 l14i5)))) else (kk2 l14i5))
def f_lumref_Mul (fu : Nat) (a0 : Int) (a1 : Int) : Option Int := (lt (fun (j1i5 : Int) => (lt (fun (j3i5 : Int) => (some (IntKind.u8.wrap j3i5))) fun (kk4 : Int → Option Int) => (f_lumref_Mul_L7 kk4 fu j1i5 (15 : Int)))) fun (kk2 : Int → Option Int) => (f_lumref_Mul_L16 a0 a1 kk2 fu (0 : Int) (0 : Int)))
end Go.Proofs.Ytpakblkldklbmaa
