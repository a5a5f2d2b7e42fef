/- Walks by program. No condition. -/
import Derived.Test.YthcmjcnilhglmaaEn9
import Derived.Test.YthcmjcnilhglmaaChecked
namespace Go.Proofs.Ythcmjcnilhglmaa
open Go.RowKit Ythcmjcnilhglmaa.En
set_option linter.unusedVariables false
set_option linter.unusedSimpArgs false
structure S_api_Fence where
  Seen : Int
  Texts : (List (List UInt8))
  deriving DecidableEq
def tyS_api_Fence : Ty S_api_Fence := tyVia (fun x => (x.Seen, x.Texts)) (tyPair (tyInt .i64) (tyList tyStr))
theorem subS_api_Fence_0 : Sub tyS_api_Fence 0 (tyInt .i64) (fun x => x.Seen) := Sub.via (Sub.fst (Sub.whole _))
theorem subS_api_Fence_1 : Sub tyS_api_Fence 1 (tyList tyStr) (fun x => x.Texts) := Sub.via (Sub.snd (Sub.whole _))
theorem encnS_api_Fence {cs} {x : S_api_Fence} : ∀ Z w, (fDat tyS_api_Fence cs x).p Z w → ∃ j : Value, cs = [(Value.int .i64 x.Seen), j] ∧ ∀ g ∈ [(fDat (tyList tyStr) [j] x.Texts)], g.p Z w := by
  intro Z w h
  obtain ⟨c0, d0, rfl, p0, q0⟩ := h
  obtain rfl : c0 = [(Value.int .i64 x.Seen)] := p0
  obtain ⟨v1, rfl⟩ := one_of q0
  exact ⟨v1, rfl, (fall_cons q0 fall_nil)⟩
theorem mknS_api_Fence {Z w cs} {x : S_api_Fence} {v0 : Value} (hc : cs = [(Value.int .i64 x.Seen), v0]) (h0 : (tyList tyStr).rep Z w [v0] x.Texts) : tyS_api_Fence.rep Z w cs x := by
  subst hc
  exact ⟨_, _, (List.take_append_drop 1 _).symm, rfl, h0⟩
theorem sz3 : szOf Try.prog 3 = some 1 := by kernel_rfl
theorem to3 : tyOf Try.prog 3 = some (1, 8, some (Value.int .i64 (0 : Int))) := by kernel_rfl
theorem sz9 : szOf Try.prog 9 = some 1 := by kernel_rfl
theorem to9 : tyOf Try.prog 9 = some (1, 16, some (str ([] : List UInt8))) := by kernel_rfl
theorem sz60 : szOf Try.prog 60 = some 1 := by kernel_rfl
theorem to60 : tyOf Try.prog 60 = some (1, 24, some (Value.slice none 0 0)) := by kernel_rfl
theorem sz62 : szOf Try.prog 62 = some 2 := by kernel_rfl
theorem to62 : tyOf Try.prog 62 = some (2, 32, some (ag [(Value.int .i64 (0 : Int)), (Value.slice none 0 0)])) := by kernel_rfl
theorem mixed : Try.prog.follows .mixedOrders = true := by kernel_rfl
def okS_api_Fence (x : S_api_Fence) : Prop := ((Lit.int .i64 x.Seen).wf = true) ∧ (okL (fun y => y.length ≤ 9223372036854775807) x.Texts)
theorem opnS_api_Fence {H : Type} : Opn H Try.prog 62 tyS_api_Fence okS_api_Fence := opn_struct (fun x => (x.Seen, x.Texts)) (fun y => S_api_Fence.mk y.1 y.2) (fun _ => rfl) Try.underlying62 sz62 (fields_cons sz3 (opn_int Try.underlying3) (fields_one sz60 (opn_list Try.underlying60 sz9 rfl (opn_str Try.underlying9))))
def f_lease_inRange (fu : Nat) (a0 : Int) : Option Bool := (lt (fun (j1b2 : Bool) => (some j1b2)) fun (kk2 : Bool → Option Bool) => (bif (decide (a0 ≥ (0 : Int))) then (kk2 (decide (a0 ≤ (1099511627776 : Int)))) else (kk2 false)))
set_option maxRecDepth 100000 in
theorem f_lease_inRange_ok (fu : Nat) (a0 : Int) {r : Bool} (h : f_lease_inRange fu a0 = some r) : FnOk Try.prog 83 [(Value.int .i64 a0)] [] [] (fun (i : Unit) => { val := (Value.bool r) }) := by
  unfold f_lease_inRange at h
  refine fn_enter Try.func83 rfl Try.ntmps83 rfl (fun w0 Z0 => ?_)
  refine aw_seq ?_
  refine aw_region ?_
  refine al_val (ov_assign rfl rfl) ?_
  refine al_nil ?_
  refine aq_then ?_
  obtain ⟨kk2, hkk2, h⟩ := lt_some h
  refine aw_seq_join (ι := Bool) (fun i => (memOf w0 Z0 [] [] [])) (fun i => (tab [(2, (Value.bool i))])) (fun i => kk2 i = some r) ?_ ?_
  · rintro j1b2 h
    have h : kk2 j1b2 = some r := h
    rw [hkk2] at h
    dsimp only at h
    clear hkk2
    refine aw_show (m := (memOf w0 Z0 [] [] [])) (S := (tab [(2, (Value.bool j1b2))])) ?_
    refine aw_ret ?_
    obtain rfl := Option.some.inj h
    exact fn_ret () [] [] rfl rfl rfl rfl (res1 rfl rfl) rfl rfl rfl (by decide)
  · clear hkk2
    refine aw_region ?_
    refine al_val (ov_move rfl rfl) ?_
    refine al_val (ov_int rfl rfl rfl rfl) ?_
    refine al_val (ov_move rfl rfl) ?_
    refine al_caseB 5 rfl (fun hb3 => ?_) (fun hb3 => ?_)
    · replace h := bif_t hb3 h
      refine al_val (ov_move rfl rfl) ?_
      refine al_val (ov_int rfl rfl rfl rfl) ?_
      refine al_val (ov_pick_t rfl rfl rfl) ?_
      refine al_val (ov_assign rfl rfl) ?_
      refine al_nil ?_
      exact aq_join (decide (a0 ≤ (1099511627776 : Int))) h (fun w a hm hs => norm hm hs [] [] [(2, (Value.bool (decide (a0 ≤ (1099511627776 : Int)))))] (by decide) ⟨rfl, trivial⟩)
    · replace h := bif_f hb3 h
      refine al_skip ?_
      refine al_skip ?_
      refine al_val (ov_pick_f rfl rfl rfl) ?_
      refine al_val (ov_assign rfl rfl) ?_
      refine al_nil ?_
      exact aq_join false h (fun w a hm hs => norm hm hs [] [] [(2, (Value.bool false))] (by decide) ⟨rfl, trivial⟩)
-- STUCK slices.Grow[[]string,string]: slices.go:426: call: builtin cap
def f_slices_Grow___string_string__nil (fu : Nat) (a1 : Int) : Option (List (List UInt8)) := (bif (decide (a1 < (0 : Int))) then (none : Option (List (List UInt8))) else (lt (fun (j2x0 : (List (List UInt8))) => (some j2x0)) fun (kk3 : (List (List UInt8)) → Option (List (List UInt8))) => (bif (decide ((IntKind.i64.wrap (a1 - (IntKind.i64.wrap (((0 : Nat) : Int) - ((0 : Nat) : Int))))) > (0 : Int))) then (req (0 < (IntKind.i64.wrap (a1 - (IntKind.i64.wrap (((0 : Nat) : Int) - ((0 : Nat) : Int))))) ∧ (IntKind.i64.wrap (a1 - (IntKind.i64.wrap (((0 : Nat) : Int) - ((0 : Nat) : Int))))) * 16 ≤ 140737488355328 ∧ (IntKind.i64.wrap (a1 - (IntKind.i64.wrap (((0 : Nat) : Int) - ((0 : Nat) : Int))))) ≤ 9223372036854775807) (req (0 ≤ ((0 : Nat) : Int) ∧ ((0 : Nat) : Int) ≤ ((List.replicate ((IntKind.i64.wrap (a1 - (IntKind.i64.wrap (((0 : Nat) : Int) - ((0 : Nat) : Int)))))).toNat ([] : (List UInt8))).length : Int)) (kk3 ((List.replicate ((IntKind.i64.wrap (a1 - (IntKind.i64.wrap (((0 : Nat) : Int) - ((0 : Nat) : Int)))))).toNat ([] : (List UInt8))).take (((0 : Nat) : Int)).toNat)))) else (kk3 ([] : List (List UInt8))))))
set_option maxRecDepth 100000 in
theorem f_slices_Grow___string_string__nil_ok (fu : Nat) (a1 : Int) {r : (List (List UInt8))} (h : f_slices_Grow___string_string__nil fu a1 = some r) : FnOk Try.prog 111 [(Value.slice none 0 0), (Value.int .i64 a1)] [] [] (fun (i : Value) => { val := i, own := [(oRow i 9 tyStr r)] }) := by
  unfold f_slices_Grow___string_string__nil at h
  refine fn_enter Try.func111 rfl Try.ntmps111 rfl (fun w0 Z0 => ?_)
  refine aw_seq ?_
  refine aw_region ?_
  refine al_val (ov_assign rfl rfl) ?_
  refine al_nil ?_
  refine aq_then ?_
  refine aw_seq ?_
  refine aw_seq ?_
  refine aw_region ?_
  refine al_val (ov_move rfl rfl) ?_
  refine al_val (ov_int rfl rfl rfl rfl) ?_
  refine al_nil ?_
  refine aq_then ?_
  refine aw_cond rfl (fun hb1 => ?_) (fun hb1 => ?_)
  · replace h := bif_t hb1 h
    refine aw_region ?_
    cases h
  · replace h := bif_f hb1 h
    refine aw_skip ?_
    refine aq_then ?_
    obtain ⟨kk3, hkk3, h⟩ := lt_some h
    refine aw_seq_join (ι := Value × (List (List UInt8))) (fun i => (memOf w0 Z0 [] [(oRow i.1 9 tyStr i.2)] [])) (fun i => (tab [(0, i.1)])) (fun i => kk3 i.2 = some r) ?_ ?_
    · rintro ⟨j2v0, j2x0⟩ h
      have h : kk3 j2x0 = some r := h
      rw [hkk3] at h
      dsimp only at h
      clear hkk3
      refine aw_show (m := (memOf w0 Z0 [] [(oRow j2v0 9 tyStr j2x0)] [])) (S := (tab [(0, j2v0)])) ?_
      refine aw_seq ?_
      refine aw_region ?_
      refine al_val (ov_move rfl rfl) ?_
      refine al_val (ov_assign rfl rfl) ?_
      refine al_nil ?_
      refine aq_then ?_
      refine aw_ret ?_
      obtain rfl := Option.some.inj h
      exact fn_ret j2v0 [0] [] rfl rfl rfl rfl (res1 rfl rfl) rfl rfl rfl (by decide)
    · clear hkk3
      refine aw_seq ?_
      refine aw_region ?_
      refine al_val (ov_move rfl rfl) ?_
      refine al_val (ov_move rfl rfl) ?_
      refine al_val (ov_capN rfl Try.underlying60 rfl) ?_
      refine al_val (ov_move rfl rfl) ?_
      refine al_val (ov_lenN rfl Try.underlying60 rfl) ?_
      refine al_val (ov_int rfl rfl rfl rfl) ?_
      refine al_val (ov_int rfl rfl rfl rfl) ?_
      refine al_val (ov_assign rfl rfl) ?_
      refine al_nil ?_
      refine aq_then ?_
      refine aw_seq ?_
      refine aw_region ?_
      refine al_val (ov_move rfl rfl) ?_
      refine al_val (ov_int rfl rfl rfl rfl) ?_
      refine al_nil ?_
      refine aq_then ?_
      refine aw_cond rfl (fun hb4 => ?_) (fun hb4 => ?_)
      · replace h := bif_t hb4 h
        refine aw_region ?_
        refine al_val (ov_move rfl rfl) ?_
        refine al_val (ov_move rfl rfl) ?_
        refine al_val (ov_capN rfl Try.underlying60 rfl) ?_
        refine al_val (ov_cutN rfl rfl Try.underlying60 sz9 rfl) ?_
        refine al_val (ov_move rfl rfl) ?_
        obtain ⟨hc5, h⟩ := req_some h
        refine al_appendZ (τ := tyStr) (x0 := []) hc5.1 hc5.2.1 hc5.2.2 rfl rfl Try.underlying60 Try.underlying3 to9 (fun _ _ => rfl) rfl rfl (fun v6 => ?_)
        refine al_val (ov_move rfl rfl) ?_
        refine al_val (ov_lenN rfl Try.underlying60 rfl) ?_
        obtain ⟨hc7, h⟩ := req_some h
        refine al_cutR 0 hc7.1 hc7.2 rfl rfl rfl Try.underlying60 sz9 rfl (fun s8 => ?_)
        refine al_val (ov_assign rfl rfl) ?_
        refine al_nil ?_
        exact aq_join (s8, ((List.replicate ((IntKind.i64.wrap (a1 - (IntKind.i64.wrap (((0 : Nat) : Int) - ((0 : Nat) : Int)))))).toNat ([] : (List UInt8))).take (((0 : Nat) : Int)).toNat)) h (fun w a hm hs => norm hm hs [0] [] [(0, s8)] (by decide) ⟨rfl, trivial⟩)
      · replace h := bif_f hb4 h
        refine aw_skip ?_
        refine aq_nilR 9 tyStr ?_
        exact aq_join ((Value.slice none 0 0), ([] : List (List UInt8))) h (fun w a hm hs => norm hm hs [0] [] [(0, (Value.slice none 0 0))] (by decide) ⟨rfl, trivial⟩)
def f_slices_Concat___string_string__L10 (a0 : (List (List (List UInt8)))) (kk7 : ((List (List UInt8)) → Option (List (List UInt8)))) : Nat → (List (List UInt8)) → Int → Option (List (List UInt8))
  | 0, _, _ => none
  | k9 + 1, l8x6, l8i27 => (bif (decide (l8i27 < (a0.length : Int))) then (opt (at? a0 l8i27) fun (u12 : (List (List UInt8))) => (req (((l8x6.length + u12.length) * 16 : Nat) ≤ 140737488355328 ∧ l8x6.length + u12.length ≤ 9223372036854775807) (f_slices_Concat___string_string__L10 a0 kk7 k9 (l8x6 ++ u12) (IntKind.i64.wrap (l8i27 + (1 : Int)))))) else (kk7 l8x6))
def f_slices_Concat___string_string__L20 (a0 : (List (List (List UInt8)))) (kk2 : (Int → Option (List (List UInt8)))) : Nat → Int → Int → Option (List (List UInt8))
  | 0, _, _ => none
  | k19 + 1, l18i3, l18i11 => (bif (decide (l18i11 < (a0.length : Int))) then (opt (at? a0 l18i11) fun (u22 : (List (List UInt8))) => (bif (decide ((IntKind.i64.wrap (l18i3 + (u22.length : Int))) < (0 : Int))) then (none : Option (List (List UInt8))) else (f_slices_Concat___string_string__L20 a0 kk2 k19 (IntKind.i64.wrap (l18i3 + (u22.length : Int))) (IntKind.i64.wrap (l18i11 + (1 : Int)))))) else (kk2 l18i3))
def f_slices_Concat___string_string_ (fu : Nat) (a0 : (List (List (List UInt8)))) : Option (List (List UInt8)) := (lt (fun (j1i3 : Int) => (opt (f_slices_Grow___string_string__nil fu j1i3) fun (r4 : (List (List UInt8))) => (lt (fun (j6x6 : (List (List UInt8))) => (some j6x6)) fun (kk7 : (List (List UInt8)) → Option (List (List UInt8))) => (f_slices_Concat___string_string__L10 a0 kk7 fu r4 (0 : Int))))) fun (kk2 : Int → Option (List (List UInt8))) => (f_slices_Concat___string_string__L20 a0 kk2 fu (0 : Int) (0 : Int)))
set_option maxRecDepth 100000 in
theorem f_slices_Concat___string_string__ok (fu : Nat) (v0_0 : Value) (a0 : (List (List (List UInt8)))) {r : (List (List UInt8))} (h : f_slices_Concat___string_string_ fu a0 = some r) : FnOk Try.prog 84 [v0_0] [(fDat (tyList (tyList tyStr)) [v0_0] a0)] [] (fun (i : Value) => { val := i, own := [(oRow i 9 tyStr r)] }) := by
  unfold f_slices_Concat___string_string_ at h
  refine fn_enter Try.func84 rfl Try.ntmps84 rfl (fun w0 Z0 => ?_)
  refine aw_seq ?_
  refine aw_region ?_
  refine al_val (ov_assign rfl rfl) ?_
  refine al_nil ?_
  refine aq_then ?_
  refine aw_seq ?_
  refine aw_region ?_
  refine al_val (ov_assign rfl rfl) ?_
  refine al_nil ?_
  refine aq_then ?_
  obtain ⟨kk2, hkk2, h⟩ := lt_some h
  refine aw_seq_join (ι := Int) (fun i => (memOf w0 Z0 [] [] [(fDat (tyList (tyList tyStr)) [v0_0] a0)])) (fun i => (tab [(0, v0_0), (3, (Value.int .i64 i))])) (fun i => kk2 i = some r) ?_ ?_
  · rintro j1i3 h
    have h : kk2 j1i3 = some r := h
    rw [hkk2] at h
    dsimp only at h
    clear hkk2
    refine aw_show (m := (memOf w0 Z0 [] [] [(fDat (tyList (tyList tyStr)) [v0_0] a0)])) (S := (tab [(0, v0_0), (3, (Value.int .i64 j1i3))])) ?_
    refine aw_seq ?_
    refine aw_region ?_
    refine al_val (ov_move rfl rfl) ?_
    obtain ⟨r4, hc3, h⟩ := opt_some h
    refine al_call (vs := [(Value.slice none 0 0), (Value.int .i64 j1i3)]) (f_slices_Grow___string_string__nil_ok fu j1i3 hc3) [] [] [] pre_nil rfl (by simp) (by decide) (.inl rfl) rfl Try.func111 rfl rfl rfl (fun v5 => ?_)
    refine al_val (ov_assign rfl rfl) ?_
    refine al_nil ?_
    refine aq_then ?_
    obtain ⟨kk7, hkk7, h⟩ := lt_some h
    refine aw_seq_join (ι := Value × (List (List UInt8))) (fun i => (memOf w0 Z0 [] [(oRow i.1 9 tyStr i.2)] [(fDat (tyList (tyList tyStr)) [v0_0] a0)])) (fun i => (tab [(6, i.1)])) (fun i => kk7 i.2 = some r) ?_ ?_
    · rintro ⟨j6v6, j6x6⟩ h
      have h : kk7 j6x6 = some r := h
      rw [hkk7] at h
      dsimp only at h
      clear hkk7
      refine aw_show (m := (memOf w0 Z0 [] [(oRow j6v6 9 tyStr j6x6)] [(fDat (tyList (tyList tyStr)) [v0_0] a0)])) (S := (tab [(6, j6v6)])) ?_
      refine aw_seq ?_
      refine aw_region ?_
      refine al_val (ov_move rfl rfl) ?_
      refine al_val (ov_assign rfl rfl) ?_
      refine al_nil ?_
      refine aq_then ?_
      refine aw_ret ?_
      obtain rfl := Option.some.inj h
      exact fn_ret j6v6 [0] [] rfl rfl rfl rfl (res1 rfl rfl) rfl rfl rfl (by decide)
    · clear hkk7
      refine aw_seq ?_
      refine aw_region ?_
      refine al_val (ov_move rfl rfl) ?_
      refine al_val (ov_lenD 0 rfl rfl Try.underlying148 rfl) ?_
      refine al_val (ov_move rfl rfl) ?_
      refine al_nil ?_
      refine aq_then ?_
      refine aw_block ?_
      refine aw_state (aw_loop (ι := Value × (List (List UInt8)) × Int) (fun i => (memOf w0 Z0 [] [(oRow i.1 9 tyStr i.2.1)] [(fDat (tyList (tyList tyStr)) [v0_0] a0)])) (fun i => (tab [(6, i.1), (25, v0_0), (26, (Value.int .i64 (a0.length : Int))), (27, (Value.int .i64 i.2.2))])) (fun q i => f_slices_Concat___string_string__L10 a0 kk7 q i.2.1 i.2.2 = some r) ?_ fu (v5, r4, (0 : Int)) h) (fun w a hm hs => norm hm hs [0] [0] [(6, v5), (25, v0_0), (26, (Value.int .i64 (a0.length : Int))), (27, (Value.int .i64 (0 : Int)))] (by decide) ⟨rfl, rfl, rfl, rfl, trivial⟩)
      clear h
      rintro k9 ⟨l8v6, l8x6, l8i27⟩ h
      have h : f_slices_Concat___string_string__L10 a0 kk7 k9 l8x6 l8i27 = some r := h
      obtain _ | k9 := k9
      · rw [f_slices_Concat___string_string__L10] at h; cases h
      rw [f_slices_Concat___string_string__L10] at h
      refine aw_show (m := (memOf w0 Z0 [] [(oRow l8v6 9 tyStr l8x6)] [(fDat (tyList (tyList tyStr)) [v0_0] a0)])) (S := (tab [(6, l8v6), (25, v0_0), (26, (Value.int .i64 (a0.length : Int))), (27, (Value.int .i64 l8i27))])) ?_
      refine aw_seq ?_
      refine aw_region ?_
      refine al_val (ov_int rfl rfl rfl rfl) ?_
      refine al_nil ?_
      refine aq_then ?_
      refine aw_seq ?_
      refine aw_cond rfl (fun hb11 => ?_) (fun hb11 => ?_)
      · replace h := bif_t hb11 h
        refine aw_skip ?_
        refine aq_then ?_
        refine aw_seq ?_
        refine aw_block ?_
        refine aw_seq ?_
        refine aw_region ?_
        obtain ⟨u12, hu13, h⟩ := opt_some h
        refine al_idxD 0 hu13 rfl rfl rfl Try.underlying148 sz60 rfl (fun p14 => ?_)
        refine al_loadP1 0 rfl rfl Try.underlying60 sz60 rfl rfl rfl (fun s15 => ?_)
        refine al_val (ov_assign rfl rfl) ?_
        refine al_nil ?_
        refine aq_then ?_
        refine aw_region ?_
        refine al_val (ov_move rfl rfl) ?_
        refine al_val (ov_move rfl rfl) ?_
        obtain ⟨hc16, h⟩ := req_some h
        refine al_append 0 hc16.1 hc16.2 rfl (src_dat (i := 0) 0 rfl) rfl rfl Try.underlying60 to9 rfl rfl rfl (fun v17 => ?_)
        refine al_val (ov_assign rfl rfl) ?_
        refine al_nil ?_
        refine aq_block ?_
        refine aq_then ?_
        refine aw_region ?_
        refine al_val (ov_int rfl rfl rfl rfl) ?_
        refine al_val (ov_move rfl rfl) ?_
        refine al_nil ?_
        exact aq_again k9 (v17, (l8x6 ++ u12), (IntKind.i64.wrap (l8i27 + (1 : Int)))) (Nat.lt_succ_self _) h (fun w a hm hs => norm hm hs [0] [2] [(6, v17), (25, v0_0), (26, (Value.int .i64 (a0.length : Int))), (27, (Value.int .i64 (IntKind.i64.wrap (l8i27 + (1 : Int)))))] (by decide) ⟨rfl, rfl, rfl, rfl, trivial⟩)
      · replace h := bif_f hb11 h
        refine aw_exit ?_
        refine aq_then_exit ?_
        refine aq_then_exit ?_
        refine aq_block_exit ?_
        exact aq_join (l8v6, l8x6) h (fun w a hm hs => norm hm hs [0] [0] [(6, l8v6)] (by decide) ⟨rfl, trivial⟩)
  · clear hkk2
    refine aw_seq ?_
    refine aw_region ?_
    refine al_val (ov_move rfl rfl) ?_
    refine al_val (ov_lenD 0 rfl rfl Try.underlying148 rfl) ?_
    refine al_val (ov_move rfl rfl) ?_
    refine al_nil ?_
    refine aq_then ?_
    refine aw_block ?_
    refine aw_state (aw_loop (ι := Int × Int) (fun i => (memOf w0 Z0 [] [] [(fDat (tyList (tyList tyStr)) [v0_0] a0)])) (fun i => (tab [(0, v0_0), (3, (Value.int .i64 i.1)), (9, v0_0), (10, (Value.int .i64 (a0.length : Int))), (11, (Value.int .i64 i.2))])) (fun q i => f_slices_Concat___string_string__L20 a0 kk2 q i.1 i.2 = some r) ?_ fu ((0 : Int), (0 : Int)) h) (fun w a hm hs => norm hm hs [] [0] [(0, v0_0), (3, (Value.int .i64 (0 : Int))), (9, v0_0), (10, (Value.int .i64 (a0.length : Int))), (11, (Value.int .i64 (0 : Int)))] (by decide) ⟨rfl, rfl, rfl, rfl, rfl, trivial⟩)
    clear h
    rintro k19 ⟨l18i3, l18i11⟩ h
    have h : f_slices_Concat___string_string__L20 a0 kk2 k19 l18i3 l18i11 = some r := h
    obtain _ | k19 := k19
    · rw [f_slices_Concat___string_string__L20] at h; cases h
    rw [f_slices_Concat___string_string__L20] at h
    refine aw_show (m := (memOf w0 Z0 [] [] [(fDat (tyList (tyList tyStr)) [v0_0] a0)])) (S := (tab [(0, v0_0), (3, (Value.int .i64 l18i3)), (9, v0_0), (10, (Value.int .i64 (a0.length : Int))), (11, (Value.int .i64 l18i11))])) ?_
    refine aw_seq ?_
    refine aw_region ?_
    refine al_val (ov_int rfl rfl rfl rfl) ?_
    refine al_nil ?_
    refine aq_then ?_
    refine aw_seq ?_
    refine aw_cond rfl (fun hb21 => ?_) (fun hb21 => ?_)
    · replace h := bif_t hb21 h
      refine aw_skip ?_
      refine aq_then ?_
      refine aw_seq ?_
      refine aw_block ?_
      refine aw_seq ?_
      refine aw_region ?_
      obtain ⟨u22, hu23, h⟩ := opt_some h
      refine al_idxD 0 hu23 rfl rfl rfl Try.underlying148 sz60 rfl (fun p24 => ?_)
      refine al_loadP1 0 rfl rfl Try.underlying60 sz60 rfl rfl rfl (fun s25 => ?_)
      refine al_val (ov_assign rfl rfl) ?_
      refine al_nil ?_
      refine aq_then ?_
      refine aw_seq ?_
      refine aw_region ?_
      refine al_val (ov_move rfl rfl) ?_
      refine al_val (ov_move rfl rfl) ?_
      refine al_val (ov_lenD 0 rfl rfl Try.underlying60 rfl) ?_
      refine al_val (ov_int rfl rfl rfl rfl) ?_
      refine al_val (ov_assign rfl rfl) ?_
      refine al_nil ?_
      refine aq_then ?_
      refine aw_seq ?_
      refine aw_region ?_
      refine al_val (ov_move rfl rfl) ?_
      refine al_val (ov_int rfl rfl rfl rfl) ?_
      refine al_nil ?_
      refine aq_then ?_
      refine aw_cond rfl (fun hb26 => ?_) (fun hb26 => ?_)
      · replace h := bif_t hb26 h
        refine aw_region ?_
        cases h
      · replace h := bif_f hb26 h
        refine aw_skip ?_
        refine aq_block ?_
        refine aq_then ?_
        refine aw_region ?_
        refine al_val (ov_int rfl rfl rfl rfl) ?_
        refine al_val (ov_move rfl rfl) ?_
        refine al_nil ?_
        exact aq_again k19 ((IntKind.i64.wrap (l18i3 + (u22.length : Int))), (IntKind.i64.wrap (l18i11 + (1 : Int)))) (Nat.lt_succ_self _) h (fun w a hm hs => norm hm hs [] [2] [(0, v0_0), (3, (Value.int .i64 (IntKind.i64.wrap (l18i3 + (u22.length : Int))))), (9, v0_0), (10, (Value.int .i64 (a0.length : Int))), (11, (Value.int .i64 (IntKind.i64.wrap (l18i11 + (1 : Int)))))] (by decide) ⟨rfl, rfl, rfl, rfl, rfl, trivial⟩)
    · replace h := bif_f hb21 h
      refine aw_exit ?_
      refine aq_then_exit ?_
      refine aq_then_exit ?_
      refine aq_block_exit ?_
      exact aq_join l18i3 h (fun w a hm hs => norm hm hs [] [0] [(0, v0_0), (3, (Value.int .i64 l18i3))] (by decide) ⟨rfl, rfl, trivial⟩)
def f_lease_Enter (fu : Nat) (a0 : S_api_Fence) (a1 : Int) (a2 : (List UInt8)) : Option (S_api_Fence × Int) := (lt (fun (j3b8 : Bool) => (bif j3b8 then (some ((S_api_Fence.mk (0 : Int) ([] : (List (List UInt8)))), (1 : Int))) else (bif (decide (a1 < a0.Seen)) then (some ((S_api_Fence.mk (0 : Int) ([] : (List (List UInt8)))), (16 : Int))) else (bif (decide ((a2.length : Int) > (1024 : Int))) then (some ((S_api_Fence.mk (0 : Int) ([] : (List (List UInt8)))), (2 : Int))) else (bif (decide ((a0.Texts.length : Int) ≥ (100 : Int))) then (some ((S_api_Fence.mk (0 : Int) ([] : (List (List UInt8)))), (12 : Int))) else (opt (f_slices_Concat___string_string_ fu ([a0.Texts, [a2]])) fun (r12 : (List (List UInt8))) => (some ((S_api_Fence.mk a1 r12), (0 : Int))))))))) fun (kk4 : Bool → Option (S_api_Fence × Int)) => (opt (f_lease_inRange fu a0.Seen) fun (r15 : Bool) => (bif (!r15) then (kk4 true) else (opt (f_lease_inRange fu a1) fun (r18 : Bool) => (kk4 (!r18))))))
set_option maxRecDepth 100000 in
theorem f_lease_Enter_ok (fu : Nat) (v0_1 : Value) (a0 : S_api_Fence) (a1 : Int) (a2 : (List UInt8)) {r : (S_api_Fence × Int)} (h : f_lease_Enter fu a0 a1 a2 = some r) : FnOk Try.prog 38 [(ag [(Value.int .i64 a0.Seen), v0_1]), (Value.int .i64 a1), (str a2)] [(fDat (tyList tyStr) [v0_1] a0.Texts)] [] (fun (i : Value) => { val := (Value.tuple #[(ag [(Value.int .i64 r.1.Seen), i]), (Value.int .i64 r.2)]), fz := [(fDat (tyList tyStr) [i] r.1.Texts)] }) := by
  unfold f_lease_Enter at h
  refine fn_enter Try.func38 rfl Try.ntmps38 rfl (fun w0 Z0 => ?_)
  refine aw_seq ?_
  refine aw_region ?_
  refine al_box (vs := [(Value.int .i64 a0.Seen), v0_1]) rfl (cv_rfl rfl) rfl (fun g1 => ?_)
  refine al_alloc (zs := [(Value.int .i64 (0 : Int)), (Value.slice none 0 0)]) (zeroOf_to to62) rfl rfl (fun g2 => ?_)
  refine al_val (ov_assign rfl rfl) ?_
  refine al_nil ?_
  refine aq_then ?_
  refine aw_seq ?_
  refine aw_block ?_
  obtain ⟨kk4, hkk4, h⟩ := lt_some h
  refine aw_seq_join (ι := Bool) (fun i => (memOf w0 Z0 [] [(oBox g1 62 [(Value.int .i64 a0.Seen), v0_1]), (oBox g2 62 [(Value.int .i64 (0 : Int)), (Value.slice none 0 0)])] [(fDat (tyList tyStr) [v0_1] a0.Texts)])) (fun i => (tab [(1, (Value.int .i64 a1)), (2, (str a2)), (3, (ptr g1 0)), (6, (ptr g2 0)), (8, (Value.bool i))])) (fun i => kk4 i = some r) ?_ ?_
  · rintro j3b8 h
    have h : kk4 j3b8 = some r := h
    rw [hkk4] at h
    dsimp only at h
    clear hkk4
    refine aw_show (m := (memOf w0 Z0 [] [(oBox g1 62 [(Value.int .i64 a0.Seen), v0_1]), (oBox g2 62 [(Value.int .i64 (0 : Int)), (Value.slice none 0 0)])] [(fDat (tyList tyStr) [v0_1] a0.Texts)])) (S := (tab [(1, (Value.int .i64 a1)), (2, (str a2)), (3, (ptr g1 0)), (6, (ptr g2 0)), (8, (Value.bool j3b8))])) ?_
    refine aw_cond rfl (fun hb5 => ?_) (fun hb5 => ?_)
    · replace h := bif_t hb5 h
      refine aw_seq ?_
      refine aw_region ?_
      refine al_val (ov_build (cells := #[(Value.int .i64 (0 : Int)), (Value.slice none 0 0)]) (cs := [(Value.int .i64 (0 : Int)), (Value.slice none 0 0)]) rfl (fun w a hm hs => by simp only [List.map_toArray, List.map_cons, List.map_nil, List.toList_toArray]; kernel_rfl)) ?_
      refine al_store (i := 1) (vs := [(Value.int .i64 (0 : Int)), (Value.slice none 0 0)]) (cs' := [(Value.int .i64 (0 : Int)), (Value.slice none 0 0)]) rfl rfl rfl sz62 (cv_rfl rfl) rfl (co_val rfl (co_val rfl co_nil)) (by decide) rfl rfl ?_
      refine al_val (ov_assign rfl rfl) ?_
      refine al_nil ?_
      refine aq_then ?_
      refine aw_ret ?_
      refine aq_block_ret ?_
      refine aq_then_ret ?_
      refine aq_nilD tyStr ?_
      obtain rfl := Option.some.inj h
      exact fn_ret (Value.slice none 0 0) [] [0] rfl rfl rfl rfl (resC rfl (resB (i := 1) rfl rfl Try.underlying62 sz62 rfl rfl rfl (resT rfl (resN))) rfl) rfl rfl rfl (by decide)
    · replace h := bif_f hb5 h
      refine aw_seq ?_
      refine aw_region ?_
      refine al_val (ov_move rfl rfl) ?_
      refine al_val (ov_fieldAddr rfl Try.underlying62 rfl sz3 rfl rfl) ?_
      refine al_val (ov_load (i := 0) (v := (Value.int .i64 a0.Seen)) rfl rfl Try.underlying3 sz3 rfl rfl rfl rfl) ?_
      refine al_val (ov_int rfl rfl rfl rfl) ?_
      refine al_val (ov_assign rfl rfl) ?_
      refine al_nil ?_
      refine aq_then ?_
      refine aw_cond rfl (fun hb6 => ?_) (fun hb6 => ?_)
      · replace h := bif_t hb6 h
        refine aw_seq ?_
        refine aw_region ?_
        refine al_val (ov_build (cells := #[(Value.int .i64 (0 : Int)), (Value.slice none 0 0)]) (cs := [(Value.int .i64 (0 : Int)), (Value.slice none 0 0)]) rfl (fun w a hm hs => by simp only [List.map_toArray, List.map_cons, List.map_nil, List.toList_toArray]; kernel_rfl)) ?_
        refine al_store (i := 1) (vs := [(Value.int .i64 (0 : Int)), (Value.slice none 0 0)]) (cs' := [(Value.int .i64 (0 : Int)), (Value.slice none 0 0)]) rfl rfl rfl sz62 (cv_rfl rfl) rfl (co_val rfl (co_val rfl co_nil)) (by decide) rfl rfl ?_
        refine al_val (ov_assign rfl rfl) ?_
        refine al_nil ?_
        refine aq_then ?_
        refine aw_ret ?_
        refine aq_block_ret ?_
        refine aq_then_ret ?_
        refine aq_nilD tyStr ?_
        obtain rfl := Option.some.inj h
        exact fn_ret (Value.slice none 0 0) [] [0] rfl rfl rfl rfl (resC rfl (resB (i := 1) rfl rfl Try.underlying62 sz62 rfl rfl rfl (resT rfl (resN))) rfl) rfl rfl rfl (by decide)
      · replace h := bif_f hb6 h
        refine aw_seq ?_
        refine aw_region ?_
        refine al_val (ov_move rfl rfl) ?_
        refine al_val (ov_strLen Try.underlying9 rfl rfl) ?_
        refine al_val (ov_int rfl rfl rfl rfl) ?_
        refine al_val (ov_assign rfl rfl) ?_
        refine al_nil ?_
        refine aq_then ?_
        refine aw_cond rfl (fun hb7 => ?_) (fun hb7 => ?_)
        · replace h := bif_t hb7 h
          refine aw_seq ?_
          refine aw_region ?_
          refine al_val (ov_build (cells := #[(Value.int .i64 (0 : Int)), (Value.slice none 0 0)]) (cs := [(Value.int .i64 (0 : Int)), (Value.slice none 0 0)]) rfl (fun w a hm hs => by simp only [List.map_toArray, List.map_cons, List.map_nil, List.toList_toArray]; kernel_rfl)) ?_
          refine al_store (i := 1) (vs := [(Value.int .i64 (0 : Int)), (Value.slice none 0 0)]) (cs' := [(Value.int .i64 (0 : Int)), (Value.slice none 0 0)]) rfl rfl rfl sz62 (cv_rfl rfl) rfl (co_val rfl (co_val rfl co_nil)) (by decide) rfl rfl ?_
          refine al_val (ov_assign rfl rfl) ?_
          refine al_nil ?_
          refine aq_then ?_
          refine aw_ret ?_
          refine aq_block_ret ?_
          refine aq_then_ret ?_
          refine aq_nilD tyStr ?_
          obtain rfl := Option.some.inj h
          exact fn_ret (Value.slice none 0 0) [] [0] rfl rfl rfl rfl (resC rfl (resB (i := 1) rfl rfl Try.underlying62 sz62 rfl rfl rfl (resT rfl (resN))) rfl) rfl rfl rfl (by decide)
        · replace h := bif_f hb7 h
          refine aw_seq ?_
          refine aw_region ?_
          refine al_val (ov_fieldAddr rfl Try.underlying62 rfl sz60 rfl rfl) ?_
          refine al_val (ov_load (i := 0) (v := v0_1) rfl rfl Try.underlying60 sz60 rfl rfl rfl rfl) ?_
          refine al_val (ov_lenD 0 rfl rfl Try.underlying60 rfl) ?_
          refine al_val (ov_int rfl rfl rfl rfl) ?_
          refine al_val (ov_assign rfl rfl) ?_
          refine al_nil ?_
          refine aq_then ?_
          refine aw_cond rfl (fun hb8 => ?_) (fun hb8 => ?_)
          · replace h := bif_t hb8 h
            refine aw_seq ?_
            refine aw_region ?_
            refine al_val (ov_build (cells := #[(Value.int .i64 (0 : Int)), (Value.slice none 0 0)]) (cs := [(Value.int .i64 (0 : Int)), (Value.slice none 0 0)]) rfl (fun w a hm hs => by simp only [List.map_toArray, List.map_cons, List.map_nil, List.toList_toArray]; kernel_rfl)) ?_
            refine al_store (i := 1) (vs := [(Value.int .i64 (0 : Int)), (Value.slice none 0 0)]) (cs' := [(Value.int .i64 (0 : Int)), (Value.slice none 0 0)]) rfl rfl rfl sz62 (cv_rfl rfl) rfl (co_val rfl (co_val rfl co_nil)) (by decide) rfl rfl ?_
            refine al_val (ov_assign rfl rfl) ?_
            refine al_nil ?_
            refine aq_then ?_
            refine aw_ret ?_
            refine aq_block_ret ?_
            refine aq_then_ret ?_
            refine aq_nilD tyStr ?_
            obtain rfl := Option.some.inj h
            exact fn_ret (Value.slice none 0 0) [] [0] rfl rfl rfl rfl (resC rfl (resB (i := 1) rfl rfl Try.underlying62 sz62 rfl rfl rfl (resT rfl (resN))) rfl) rfl rfl rfl (by decide)
          · replace h := bif_f hb8 h
            refine aw_skip ?_
            refine aq_block ?_
            refine aq_then ?_
            refine aw_seq ?_
            refine aw_region ?_
            refine al_val (ov_move rfl rfl) ?_
            refine al_val (ov_fieldAddr rfl Try.underlying62 rfl sz60 rfl rfl) ?_
            refine al_val (ov_load (i := 0) (v := v0_1) rfl rfl Try.underlying60 sz60 rfl rfl rfl rfl) ?_
            refine al_val (ov_move rfl rfl) ?_
            refine al_buildSlice (τ := tyStr) (e := 9) (k := 1) (sz := 0) (by_ := 0) (z := undef) (cs := [(str a2)]) (xs := [a2]) rfl (by decide) (fun w a hm hs => ⟨#[(str a2)], rfl, by simp only [List.map_toArray, List.map_cons, List.map_nil, hs.ev (x := .tmp 39) rfl]; exact run_bs [(str a2)] [(str a2)] Try.underlying60 to9 rfl rfl (bs_cons (l := [(str a2)]) (cs := []) (cv_rfl rfl) rfl bs_nil) hm⟩) (fun hm => ⟨_, _, rfl, (fun _ => rfl) hm, rfl⟩) rfl (fun v9 => ?_)
            refine al_freeze 0 rfl rfl ?_
            refine al_buildSlice (τ := (tyList tyStr)) (e := 60) (k := 2) (sz := 0) (by_ := 0) (z := undef) (cs := [v0_1, v9]) (xs := [a0.Texts, [a2]]) rfl (by decide) (fun w a hm hs => ⟨#[v0_1, v9], rfl, by simp only [List.map_toArray, List.map_cons, List.map_nil, hs.ev (x := .tmp 38) rfl, hs.ev (x := .tmp 40) rfl]; exact run_bs [v0_1, v9] [v0_1, v9] Try.underlying148 to60 rfl rfl (bs_cons (l := [v0_1]) (cs := [v9]) (cv_fz 1 rfl) rfl (bs_cons (l := [v9]) (cs := []) (cv_fz 0 rfl) rfl bs_nil)) hm⟩) (fun hm => ⟨_, _, rfl, (fun hm => fz_at (i := 1) hm rfl) hm, ⟨_, _, rfl, (fun hm => fz_at (i := 0) hm rfl) hm, rfl⟩⟩) rfl (fun v10 => ?_)
            obtain ⟨r12, hc11, h⟩ := opt_some h
            refine al_call (vs := [v10]) (f_slices_Concat___string_string__ok fu v10 ([a0.Texts, [a2]]) hc11) [0] [] [0, 1, 2] (pre_own 0 rfl rfl pre_nil) rfl (by simp) (by decide) (.inr (flat_res1 (fun _ => flat_row flat_enc))) rfl Try.func84 rfl rfl rfl (fun v13 => ?_)
            refine al_val (ov_build (cells := #[(Value.int .i64 a1), v13]) (cs := [(Value.int .i64 a1), v13]) rfl (fun w a hm hs => by simp only [List.map_toArray, List.map_cons, List.map_nil, List.toList_toArray, hs.ev (x := .tmp 36) rfl, hs.ev (x := .tmp 42) rfl]; obtain ⟨A0, l0, c0, e0⟩ := sl_own 0 rfl hm; rw [e0]; kernel_rfl)) ?_
            refine al_store (i := 3) (vs := [(Value.int .i64 a1), v13]) (cs' := [(Value.int .i64 a1), v13]) rfl rfl rfl sz62 (cv_rfl rfl) rfl (co_val rfl (co_own 0 rfl co_nil)) (by decide) rfl rfl ?_
            refine al_val (ov_assign rfl rfl) ?_
            refine al_nil ?_
            refine aq_then ?_
            refine aw_ret ?_
            refine aq_freeze 0 rfl rfl ?_
            obtain rfl := Option.some.inj h
            exact fn_ret v13 [] [0] rfl rfl rfl rfl (resC rfl (resB (i := 2) rfl rfl Try.underlying62 sz62 rfl rfl rfl (resT rfl (resN))) rfl) rfl rfl rfl (by decide)
  · clear hkk4
    refine aw_region ?_
    refine al_val (ov_fieldAddr rfl Try.underlying62 rfl sz3 rfl rfl) ?_
    refine al_val (ov_load (i := 1) (v := (Value.int .i64 a0.Seen)) rfl rfl Try.underlying3 sz3 rfl rfl rfl rfl) ?_
    obtain ⟨r15, hc14, h⟩ := opt_some h
    refine al_call (vs := [(Value.int .i64 a0.Seen)]) (f_lease_inRange_ok fu a0.Seen hc14) [] [] [0, 1] pre_nil rfl (by simp) (by decide) (.inl rfl) rfl Try.func83 rfl rfl rfl (fun _ => ?_)
    refine al_val (ov_not rfl rfl) ?_
    refine al_val (ov_move rfl rfl) ?_
    refine al_caseB 13 rfl (fun hb16 => ?_) (fun hb16 => ?_)
    · replace h := bif_t hb16 h
      refine al_skip ?_
      refine al_skip ?_
      refine al_skip ?_
      refine al_val (ov_pick_t rfl rfl rfl) ?_
      refine al_val (ov_assign rfl rfl) ?_
      refine al_nil ?_
      exact aq_join true h (fun w a hm hs => norm hm hs [1, 0] [0] [(1, (Value.int .i64 a1)), (2, (str a2)), (3, (ptr g1 0)), (6, (ptr g2 0)), (8, (Value.bool true))] (by decide) ⟨rfl, rfl, rfl, rfl, rfl, trivial⟩)
    · replace h := bif_f hb16 h
      refine al_val (ov_move rfl rfl) ?_
      obtain ⟨r18, hc17, h⟩ := opt_some h
      refine al_call (vs := [(Value.int .i64 a1)]) (f_lease_inRange_ok fu a1 hc17) [] [] [0, 1] pre_nil rfl (by simp) (by decide) (.inl rfl) rfl Try.func83 rfl rfl rfl (fun _ => ?_)
      refine al_val (ov_not rfl rfl) ?_
      refine al_val (ov_pick_f rfl rfl rfl) ?_
      refine al_val (ov_assign rfl rfl) ?_
      refine al_nil ?_
      exact aq_join (!r18) h (fun w a hm hs => norm hm hs [1, 0] [0] [(1, (Value.int .i64 a1)), (2, (str a2)), (3, (ptr g1 0)), (6, (ptr g2 0)), (8, (Value.bool (!r18)))] (by decide) ⟨rfl, rfl, rfl, rfl, rfl, trivial⟩)
def f_slices_Clone___string_string_ (fu : Nat) (a0 : (List (List UInt8))) : Option (List (List UInt8)) := (amb (a0.isEmpty) (some ([] : List (List UInt8))) (req (((([] : List (List UInt8)).length + a0.length) * 16 : Nat) ≤ 140737488355328 ∧ ([] : List (List UInt8)).length + a0.length ≤ 9223372036854775807) (some (([] : List (List UInt8)) ++ a0))))
set_option maxRecDepth 100000 in
theorem f_slices_Clone___string_string__ok (fu : Nat) (v0_0 : Value) (a0 : (List (List UInt8))) {r : (List (List UInt8))} (h : f_slices_Clone___string_string_ fu a0 = some r) : FnOk Try.prog 85 [v0_0] [(fDat (tyList tyStr) [v0_0] a0)] [] (fun (i : Value) => { val := i, own := [(oRow i 9 tyStr r)] }) := by
  unfold f_slices_Clone___string_string_ at h
  refine fn_enter Try.func85 rfl Try.ntmps85 rfl (fun w0 Z0 => ?_)
  refine aw_seq ?_
  refine aw_region ?_
  refine al_val (ov_assign rfl rfl) ?_
  refine al_nil ?_
  refine aq_then ?_
  refine aw_seq ?_
  refine aw_seq ?_
  refine aw_region ?_
  refine al_val (ov_move rfl rfl) ?_
  refine al_isNilD 0 rfl rfl rfl Try.underlying60 rfl (fun nb1 hn2 => ?_)
  refine al_nil ?_
  refine aq_then ?_
  refine aw_cond rfl (fun hb3 => ?_) (fun hb3 => ?_)
  · replace h := (amb_some h).2 (isEmpty_of (hn2 hb3))
    refine aw_seq ?_
    refine aw_region ?_
    refine al_val (ov_assign rfl rfl) ?_
    refine al_nil ?_
    refine aq_then ?_
    refine aw_ret ?_
    refine aq_then_ret ?_
    refine aq_nilR 9 tyStr ?_
    obtain rfl := Option.some.inj h
    exact fn_ret (Value.slice none 0 0) [0] [] rfl rfl rfl rfl (res1 rfl rfl) rfl rfl rfl (by decide)
  · replace h := (amb_some h).1
    refine aw_skip ?_
    refine aq_then ?_
    refine aw_seq ?_
    refine aw_region ?_
    refine al_buildSlice (τ := tyStr) (e := 9) (k := 0) (sz := 0) (by_ := 0) (z := undef) (cs := []) (xs := ([] : List (List UInt8))) rfl (by decide) (fun w a hm hs => ⟨#[], rfl, by simp only [List.map_toArray, List.map_cons, List.map_nil]; exact run_bs [] [] Try.underlying60 to9 rfl rfl bs_nil hm⟩) (fun hm => rfl) rfl (fun v4 => ?_)
    refine al_val (ov_move rfl rfl) ?_
    obtain ⟨hc5, h⟩ := req_some h
    refine al_append 0 hc5.1 hc5.2 rfl (src_dat (i := 0) 0 rfl) rfl rfl Try.underlying60 to9 rfl rfl rfl (fun v6 => ?_)
    refine al_val (ov_assign rfl rfl) ?_
    refine al_nil ?_
    refine aq_then ?_
    refine aw_ret ?_
    obtain rfl := Option.some.inj h
    exact fn_ret v6 [0] [] rfl rfl rfl rfl (res1 rfl rfl) rfl rfl rfl (by decide)
def f_lumref_Enter (fu : Nat) (a0 : S_api_Fence) (a1 : Int) (a2 : (List UInt8)) : Option (S_api_Fence × Int) := (lt (fun (j3b8 : Bool) => (bif j3b8 then (some ((S_api_Fence.mk (0 : Int) ([] : (List (List UInt8)))), (1 : Int))) else (bif (decide (a0.Seen > a1)) then (some ((S_api_Fence.mk (0 : Int) ([] : (List (List UInt8)))), (16 : Int))) else (bif (decide ((a2.length : Int) > (1024 : Int))) then (some ((S_api_Fence.mk (0 : Int) ([] : (List (List UInt8)))), (2 : Int))) else (bif (decide ((a0.Texts.length : Int) ≥ (100 : Int))) then (some ((S_api_Fence.mk (0 : Int) ([] : (List (List UInt8)))), (12 : Int))) else (opt (f_slices_Clone___string_string_ fu a0.Texts) fun (r10 : (List (List UInt8))) => (req (((r10.length + ([a2]).length) * 16 : Nat) ≤ 140737488355328 ∧ r10.length + ([a2]).length ≤ 9223372036854775807) (some ((S_api_Fence.mk a1 (r10 ++ ([a2]))), (0 : Int)))))))))) fun (kk4 : Bool → Option (S_api_Fence × Int)) => (bif (decide (a0.Seen < (0 : Int))) then (kk4 true) else (bif (decide (a0.Seen > (1099511627776 : Int))) then (kk4 true) else (bif (decide (a1 < (0 : Int))) then (kk4 true) else (kk4 (decide (a1 > (1099511627776 : Int))))))))
set_option maxRecDepth 100000 in
theorem f_lumref_Enter_ok (fu : Nat) (v0_1 : Value) (a0 : S_api_Fence) (a1 : Int) (a2 : (List UInt8)) {r : (S_api_Fence × Int)} (h : f_lumref_Enter fu a0 a1 a2 = some r) : FnOk Try.prog 39 [(ag [(Value.int .i64 a0.Seen), v0_1]), (Value.int .i64 a1), (str a2)] [(fDat (tyList tyStr) [v0_1] a0.Texts)] [] (fun (i : Value) => { val := (Value.tuple #[(ag [(Value.int .i64 r.1.Seen), i]), (Value.int .i64 r.2)]), fz := [(fDat (tyList tyStr) [i] r.1.Texts)] }) := by
  unfold f_lumref_Enter at h
  refine fn_enter Try.func39 rfl Try.ntmps39 rfl (fun w0 Z0 => ?_)
  refine aw_seq ?_
  refine aw_region ?_
  refine al_box (vs := [(Value.int .i64 a0.Seen), v0_1]) rfl (cv_rfl rfl) rfl (fun g1 => ?_)
  refine al_alloc (zs := [(Value.int .i64 (0 : Int)), (Value.slice none 0 0)]) (zeroOf_to to62) rfl rfl (fun g2 => ?_)
  refine al_val (ov_assign rfl rfl) ?_
  refine al_nil ?_
  refine aq_then ?_
  refine aw_seq ?_
  refine aw_block ?_
  obtain ⟨kk4, hkk4, h⟩ := lt_some h
  refine aw_seq_join (ι := Bool) (fun i => (memOf w0 Z0 [] [(oBox g1 62 [(Value.int .i64 a0.Seen), v0_1]), (oBox g2 62 [(Value.int .i64 (0 : Int)), (Value.slice none 0 0)])] [(fDat (tyList tyStr) [v0_1] a0.Texts)])) (fun i => (tab [(1, (Value.int .i64 a1)), (2, (str a2)), (3, (ptr g1 0)), (6, (ptr g2 0)), (8, (Value.bool i))])) (fun i => kk4 i = some r) ?_ ?_
  · rintro j3b8 h
    have h : kk4 j3b8 = some r := h
    rw [hkk4] at h
    dsimp only at h
    clear hkk4
    refine aw_show (m := (memOf w0 Z0 [] [(oBox g1 62 [(Value.int .i64 a0.Seen), v0_1]), (oBox g2 62 [(Value.int .i64 (0 : Int)), (Value.slice none 0 0)])] [(fDat (tyList tyStr) [v0_1] a0.Texts)])) (S := (tab [(1, (Value.int .i64 a1)), (2, (str a2)), (3, (ptr g1 0)), (6, (ptr g2 0)), (8, (Value.bool j3b8))])) ?_
    refine aw_cond rfl (fun hb5 => ?_) (fun hb5 => ?_)
    · replace h := bif_t hb5 h
      refine aw_seq ?_
      refine aw_region ?_
      refine al_val (ov_build (cells := #[(Value.int .i64 (0 : Int)), (Value.slice none 0 0)]) (cs := [(Value.int .i64 (0 : Int)), (Value.slice none 0 0)]) rfl (fun w a hm hs => by simp only [List.map_toArray, List.map_cons, List.map_nil, List.toList_toArray]; kernel_rfl)) ?_
      refine al_store (i := 1) (vs := [(Value.int .i64 (0 : Int)), (Value.slice none 0 0)]) (cs' := [(Value.int .i64 (0 : Int)), (Value.slice none 0 0)]) rfl rfl rfl sz62 (cv_rfl rfl) rfl (co_val rfl (co_val rfl co_nil)) (by decide) rfl rfl ?_
      refine al_val (ov_assign rfl rfl) ?_
      refine al_nil ?_
      refine aq_then ?_
      refine aw_ret ?_
      refine aq_block_ret ?_
      refine aq_then_ret ?_
      refine aq_nilD tyStr ?_
      obtain rfl := Option.some.inj h
      exact fn_ret (Value.slice none 0 0) [] [0] rfl rfl rfl rfl (resC rfl (resB (i := 1) rfl rfl Try.underlying62 sz62 rfl rfl rfl (resT rfl (resN))) rfl) rfl rfl rfl (by decide)
    · replace h := bif_f hb5 h
      refine aw_seq ?_
      refine aw_region ?_
      refine al_val (ov_fieldAddr rfl Try.underlying62 rfl sz3 rfl rfl) ?_
      refine al_val (ov_load (i := 0) (v := (Value.int .i64 a0.Seen)) rfl rfl Try.underlying3 sz3 rfl rfl rfl rfl) ?_
      refine al_val (ov_move rfl rfl) ?_
      refine al_val (ov_int rfl rfl rfl rfl) ?_
      refine al_val (ov_assign rfl rfl) ?_
      refine al_nil ?_
      refine aq_then ?_
      refine aw_cond rfl (fun hb6 => ?_) (fun hb6 => ?_)
      · replace h := bif_t hb6 h
        refine aw_seq ?_
        refine aw_region ?_
        refine al_val (ov_build (cells := #[(Value.int .i64 (0 : Int)), (Value.slice none 0 0)]) (cs := [(Value.int .i64 (0 : Int)), (Value.slice none 0 0)]) rfl (fun w a hm hs => by simp only [List.map_toArray, List.map_cons, List.map_nil, List.toList_toArray]; kernel_rfl)) ?_
        refine al_store (i := 1) (vs := [(Value.int .i64 (0 : Int)), (Value.slice none 0 0)]) (cs' := [(Value.int .i64 (0 : Int)), (Value.slice none 0 0)]) rfl rfl rfl sz62 (cv_rfl rfl) rfl (co_val rfl (co_val rfl co_nil)) (by decide) rfl rfl ?_
        refine al_val (ov_assign rfl rfl) ?_
        refine al_nil ?_
        refine aq_then ?_
        refine aw_ret ?_
        refine aq_block_ret ?_
        refine aq_then_ret ?_
        refine aq_nilD tyStr ?_
        obtain rfl := Option.some.inj h
        exact fn_ret (Value.slice none 0 0) [] [0] rfl rfl rfl rfl (resC rfl (resB (i := 1) rfl rfl Try.underlying62 sz62 rfl rfl rfl (resT rfl (resN))) rfl) rfl rfl rfl (by decide)
      · replace h := bif_f hb6 h
        refine aw_seq ?_
        refine aw_region ?_
        refine al_val (ov_move rfl rfl) ?_
        refine al_val (ov_strLen Try.underlying9 rfl rfl) ?_
        refine al_val (ov_int rfl rfl rfl rfl) ?_
        refine al_val (ov_assign rfl rfl) ?_
        refine al_nil ?_
        refine aq_then ?_
        refine aw_cond rfl (fun hb7 => ?_) (fun hb7 => ?_)
        · replace h := bif_t hb7 h
          refine aw_seq ?_
          refine aw_region ?_
          refine al_val (ov_build (cells := #[(Value.int .i64 (0 : Int)), (Value.slice none 0 0)]) (cs := [(Value.int .i64 (0 : Int)), (Value.slice none 0 0)]) rfl (fun w a hm hs => by simp only [List.map_toArray, List.map_cons, List.map_nil, List.toList_toArray]; kernel_rfl)) ?_
          refine al_store (i := 1) (vs := [(Value.int .i64 (0 : Int)), (Value.slice none 0 0)]) (cs' := [(Value.int .i64 (0 : Int)), (Value.slice none 0 0)]) rfl rfl rfl sz62 (cv_rfl rfl) rfl (co_val rfl (co_val rfl co_nil)) (by decide) rfl rfl ?_
          refine al_val (ov_assign rfl rfl) ?_
          refine al_nil ?_
          refine aq_then ?_
          refine aw_ret ?_
          refine aq_block_ret ?_
          refine aq_then_ret ?_
          refine aq_nilD tyStr ?_
          obtain rfl := Option.some.inj h
          exact fn_ret (Value.slice none 0 0) [] [0] rfl rfl rfl rfl (resC rfl (resB (i := 1) rfl rfl Try.underlying62 sz62 rfl rfl rfl (resT rfl (resN))) rfl) rfl rfl rfl (by decide)
        · replace h := bif_f hb7 h
          refine aw_seq ?_
          refine aw_region ?_
          refine al_val (ov_fieldAddr rfl Try.underlying62 rfl sz60 rfl rfl) ?_
          refine al_val (ov_load (i := 0) (v := v0_1) rfl rfl Try.underlying60 sz60 rfl rfl rfl rfl) ?_
          refine al_val (ov_lenD 0 rfl rfl Try.underlying60 rfl) ?_
          refine al_val (ov_int rfl rfl rfl rfl) ?_
          refine al_val (ov_assign rfl rfl) ?_
          refine al_nil ?_
          refine aq_then ?_
          refine aw_cond rfl (fun hb8 => ?_) (fun hb8 => ?_)
          · replace h := bif_t hb8 h
            refine aw_seq ?_
            refine aw_region ?_
            refine al_val (ov_build (cells := #[(Value.int .i64 (0 : Int)), (Value.slice none 0 0)]) (cs := [(Value.int .i64 (0 : Int)), (Value.slice none 0 0)]) rfl (fun w a hm hs => by simp only [List.map_toArray, List.map_cons, List.map_nil, List.toList_toArray]; kernel_rfl)) ?_
            refine al_store (i := 1) (vs := [(Value.int .i64 (0 : Int)), (Value.slice none 0 0)]) (cs' := [(Value.int .i64 (0 : Int)), (Value.slice none 0 0)]) rfl rfl rfl sz62 (cv_rfl rfl) rfl (co_val rfl (co_val rfl co_nil)) (by decide) rfl rfl ?_
            refine al_val (ov_assign rfl rfl) ?_
            refine al_nil ?_
            refine aq_then ?_
            refine aw_ret ?_
            refine aq_block_ret ?_
            refine aq_then_ret ?_
            refine aq_nilD tyStr ?_
            obtain rfl := Option.some.inj h
            exact fn_ret (Value.slice none 0 0) [] [0] rfl rfl rfl rfl (resC rfl (resB (i := 1) rfl rfl Try.underlying62 sz62 rfl rfl rfl (resT rfl (resN))) rfl) rfl rfl rfl (by decide)
          · replace h := bif_f hb8 h
            refine aw_skip ?_
            refine aq_block ?_
            refine aq_then ?_
            refine aw_seq ?_
            refine aw_region ?_
            refine al_val (ov_move rfl rfl) ?_
            refine al_val (ov_fieldAddr rfl Try.underlying62 rfl sz60 rfl rfl) ?_
            refine al_val (ov_load (i := 0) (v := v0_1) rfl rfl Try.underlying60 sz60 rfl rfl rfl rfl) ?_
            obtain ⟨r10, hc9, h⟩ := opt_some h
            refine al_call (vs := [v0_1]) (f_slices_Clone___string_string__ok fu v0_1 a0.Texts hc9) [] [] [0, 1] (pre_fz 0 rfl pre_nil) rfl (by simp) (by decide) (.inl rfl) rfl Try.func85 rfl rfl rfl (fun v11 => ?_)
            refine al_val (ov_move rfl rfl) ?_
            refine al_buildSlice (τ := tyStr) (e := 9) (k := 1) (sz := 0) (by_ := 0) (z := undef) (cs := [(str a2)]) (xs := [a2]) rfl (by decide) (fun w a hm hs => ⟨#[(str a2)], rfl, by simp only [List.map_toArray, List.map_cons, List.map_nil, hs.ev (x := .tmp 47) rfl]; exact run_bs [(str a2)] [(str a2)] Try.underlying60 to9 rfl rfl (bs_cons (l := [(str a2)]) (cs := []) (cv_rfl rfl) rfl bs_nil) hm⟩) (fun hm => ⟨_, _, rfl, (fun _ => rfl) hm, rfl⟩) rfl (fun v12 => ?_)
            obtain ⟨hc13, h⟩ := req_some h
            refine al_append 1 hc13.1 hc13.2 rfl (src_own (i := 1) 0 rfl) rfl rfl Try.underlying60 to9 rfl rfl rfl (fun v14 => ?_)
            refine al_val (ov_build (cells := #[(Value.int .i64 a1), v14]) (cs := [(Value.int .i64 a1), v14]) rfl (fun w a hm hs => by simp only [List.map_toArray, List.map_cons, List.map_nil, List.toList_toArray, hs.ev (x := .tmp 43) rfl, hs.ev (x := .tmp 49) rfl]; obtain ⟨A0, l0, c0, e0⟩ := sl_own 1 rfl hm; rw [e0]; kernel_rfl)) ?_
            refine al_store (i := 3) (vs := [(Value.int .i64 a1), v14]) (cs' := [(Value.int .i64 a1), v14]) rfl rfl rfl sz62 (cv_rfl rfl) rfl (co_val rfl (co_own 1 rfl co_nil)) (by decide) rfl rfl ?_
            refine al_val (ov_assign rfl rfl) ?_
            refine al_nil ?_
            refine aq_then ?_
            refine aw_ret ?_
            refine aq_freeze 1 rfl rfl ?_
            obtain rfl := Option.some.inj h
            exact fn_ret v14 [] [0] rfl rfl rfl rfl (resC rfl (resB (i := 2) rfl rfl Try.underlying62 sz62 rfl rfl rfl (resT rfl (resN))) rfl) rfl rfl rfl (by decide)
  · clear hkk4
    refine aw_region ?_
    refine al_val (ov_fieldAddr rfl Try.underlying62 rfl sz3 rfl rfl) ?_
    refine al_val (ov_load (i := 1) (v := (Value.int .i64 a0.Seen)) rfl rfl Try.underlying3 sz3 rfl rfl rfl rfl) ?_
    refine al_val (ov_int rfl rfl rfl rfl) ?_
    refine al_val (ov_move rfl rfl) ?_
    refine al_caseB 12 rfl (fun hb15 => ?_) (fun hb15 => ?_)
    · replace h := bif_t hb15 h
      refine al_skip ?_
      refine al_skip ?_
      refine al_skip ?_
      refine al_val (ov_pick_t rfl rfl rfl) ?_
      refine al_val (ov_move rfl rfl) ?_
      refine al_skip ?_
      refine al_skip ?_
      refine al_val (ov_pick_t rfl rfl rfl) ?_
      refine al_val (ov_move rfl rfl) ?_
      refine al_skip ?_
      refine al_skip ?_
      refine al_val (ov_pick_t rfl rfl rfl) ?_
      refine al_val (ov_assign rfl rfl) ?_
      refine al_nil ?_
      exact aq_join true h (fun w a hm hs => norm hm hs [1, 0] [0] [(1, (Value.int .i64 a1)), (2, (str a2)), (3, (ptr g1 0)), (6, (ptr g2 0)), (8, (Value.bool true))] (by decide) ⟨rfl, rfl, rfl, rfl, rfl, trivial⟩)
    · replace h := bif_f hb15 h
      refine al_val (ov_fieldAddr rfl Try.underlying62 rfl sz3 rfl rfl) ?_
      refine al_val (ov_load (i := 1) (v := (Value.int .i64 a0.Seen)) rfl rfl Try.underlying3 sz3 rfl rfl rfl rfl) ?_
      refine al_val (ov_int rfl rfl rfl rfl) ?_
      refine al_val (ov_pick_f rfl rfl rfl) ?_
      refine al_val (ov_move rfl rfl) ?_
      refine al_caseB 17 rfl (fun hb16 => ?_) (fun hb16 => ?_)
      · replace h := bif_t hb16 h
        refine al_skip ?_
        refine al_skip ?_
        refine al_val (ov_pick_t rfl rfl rfl) ?_
        refine al_val (ov_move rfl rfl) ?_
        refine al_skip ?_
        refine al_skip ?_
        refine al_val (ov_pick_t rfl rfl rfl) ?_
        refine al_val (ov_assign rfl rfl) ?_
        refine al_nil ?_
        exact aq_join true h (fun w a hm hs => norm hm hs [1, 0] [0] [(1, (Value.int .i64 a1)), (2, (str a2)), (3, (ptr g1 0)), (6, (ptr g2 0)), (8, (Value.bool true))] (by decide) ⟨rfl, rfl, rfl, rfl, rfl, trivial⟩)
      · replace h := bif_f hb16 h
        refine al_val (ov_move rfl rfl) ?_
        refine al_val (ov_int rfl rfl rfl rfl) ?_
        refine al_val (ov_pick_f rfl rfl rfl) ?_
        refine al_val (ov_move rfl rfl) ?_
        refine al_caseB 21 rfl (fun hb17 => ?_) (fun hb17 => ?_)
        · replace h := bif_t hb17 h
          refine al_skip ?_
          refine al_skip ?_
          refine al_val (ov_pick_t rfl rfl rfl) ?_
          refine al_val (ov_assign rfl rfl) ?_
          refine al_nil ?_
          exact aq_join true h (fun w a hm hs => norm hm hs [1, 0] [0] [(1, (Value.int .i64 a1)), (2, (str a2)), (3, (ptr g1 0)), (6, (ptr g2 0)), (8, (Value.bool true))] (by decide) ⟨rfl, rfl, rfl, rfl, rfl, trivial⟩)
        · replace h := bif_f hb17 h
          refine al_val (ov_move rfl rfl) ?_
          refine al_val (ov_int rfl rfl rfl rfl) ?_
          refine al_val (ov_pick_f rfl rfl rfl) ?_
          refine al_val (ov_assign rfl rfl) ?_
          refine al_nil ?_
          exact aq_join (decide (a1 > (1099511627776 : Int))) h (fun w a hm hs => norm hm hs [1, 0] [0] [(1, (Value.int .i64 a1)), (2, (str a2)), (3, (ptr g1 0)), (6, (ptr g2 0)), (8, (Value.bool (decide (a1 > (1099511627776 : Int)))))] (by decide) ⟨rfl, rfl, rfl, rfl, rfl, trivial⟩)
def f_slices_Equal___string_string__L6 (a0 : (List (List UInt8))) (a1 : (List (List UInt8))) (kk3 : (Unit → Option Bool)) : Nat → Int → Option Bool
  | 0, _ => none
  | k5 + 1, l4i13 => (bif (decide (l4i13 < (a0.length : Int))) then (opt (at? a0 l4i13) fun (u8 : (List UInt8)) => (opt (at? a1 l4i13) fun (u11 : (List UInt8)) => (bif (!(u8 == u11)) then (some false) else (f_slices_Equal___string_string__L6 a0 a1 kk3 k5 (IntKind.i64.wrap (l4i13 + (1 : Int))))))) else (kk3 ()))
def f_slices_Equal___string_string_ (fu : Nat) (a0 : (List (List UInt8))) (a1 : (List (List UInt8))) : Option Bool := (bif ((a0.length : Int) != (a1.length : Int)) then (some false) else (lt (fun (_ : Unit) => (some true)) fun (kk3 : Unit → Option Bool) => (f_slices_Equal___string_string__L6 a0 a1 kk3 fu (0 : Int))))
set_option maxRecDepth 100000 in
theorem f_slices_Equal___string_string__ok (fu : Nat) (v0_0 : Value) (a0 : (List (List UInt8))) (v1_0 : Value) (a1 : (List (List UInt8))) {r : Bool} (h : f_slices_Equal___string_string_ fu a0 a1 = some r) : FnOk Try.prog 40 [v0_0, v1_0] [(fDat (tyList tyStr) [v0_0] a0), (fDat (tyList tyStr) [v1_0] a1)] [] (fun (i : Unit) => { val := (Value.bool r) }) := by
  unfold f_slices_Equal___string_string_ at h
  refine fn_enter Try.func40 rfl Try.ntmps40 rfl (fun w0 Z0 => ?_)
  refine aw_seq ?_
  refine aw_region ?_
  refine al_val (ov_assign rfl rfl) ?_
  refine al_nil ?_
  refine aq_then ?_
  refine aw_seq ?_
  refine aw_seq ?_
  refine aw_region ?_
  refine al_val (ov_move rfl rfl) ?_
  refine al_val (ov_lenD 0 rfl rfl Try.underlying60 rfl) ?_
  refine al_val (ov_move rfl rfl) ?_
  refine al_val (ov_lenD 1 rfl rfl Try.underlying60 rfl) ?_
  refine al_val (ov_int rfl rfl rfl rfl) ?_
  refine al_nil ?_
  refine aq_then ?_
  refine aw_cond rfl (fun hb1 => ?_) (fun hb1 => ?_)
  · replace h := bif_t hb1 h
    refine aw_seq ?_
    refine aw_region ?_
    refine al_val (ov_assign rfl rfl) ?_
    refine al_nil ?_
    refine aq_then ?_
    refine aw_ret ?_
    refine aq_then_ret ?_
    obtain rfl := Option.some.inj h
    exact fn_ret () [] [] rfl rfl rfl rfl (res1 rfl rfl) rfl rfl rfl (by decide)
  · replace h := bif_f hb1 h
    refine aw_skip ?_
    refine aq_then ?_
    obtain ⟨kk3, hkk3, h⟩ := lt_some h
    refine aw_seq_join (ι := Unit) (fun i => (memOf w0 Z0 [] [] [(fDat (tyList tyStr) [v0_0] a0), (fDat (tyList tyStr) [v1_0] a1)])) (fun i => (tab [])) (fun i => kk3 () = some r) ?_ ?_
    · rintro _ h
      have h : kk3 () = some r := h
      rw [hkk3] at h
      dsimp only at h
      clear hkk3
      refine aw_show (m := (memOf w0 Z0 [] [] [(fDat (tyList tyStr) [v0_0] a0), (fDat (tyList tyStr) [v1_0] a1)])) (S := (tab [])) ?_
      refine aw_seq ?_
      refine aw_region ?_
      refine al_val (ov_assign rfl rfl) ?_
      refine al_nil ?_
      refine aq_then ?_
      refine aw_ret ?_
      obtain rfl := Option.some.inj h
      exact fn_ret () [] [] rfl rfl rfl rfl (res1 rfl rfl) rfl rfl rfl (by decide)
    · clear hkk3
      refine aw_seq ?_
      refine aw_region ?_
      refine al_val (ov_move rfl rfl) ?_
      refine al_val (ov_lenD 0 rfl rfl Try.underlying60 rfl) ?_
      refine al_val (ov_move rfl rfl) ?_
      refine al_nil ?_
      refine aq_then ?_
      refine aw_block ?_
      refine aw_state (aw_loop (ι := Int) (fun i => (memOf w0 Z0 [] [] [(fDat (tyList tyStr) [v0_0] a0), (fDat (tyList tyStr) [v1_0] a1)])) (fun i => (tab [(0, v0_0), (1, v1_0), (12, (Value.int .i64 (a0.length : Int))), (13, (Value.int .i64 i))])) (fun q i => f_slices_Equal___string_string__L6 a0 a1 kk3 q i = some r) ?_ fu (0 : Int) h) (fun w a hm hs => norm hm hs [] [0, 1] [(0, v0_0), (1, v1_0), (12, (Value.int .i64 (a0.length : Int))), (13, (Value.int .i64 (0 : Int)))] (by decide) ⟨rfl, rfl, rfl, rfl, trivial⟩)
      clear h
      rintro k5 l4i13 h
      have h : f_slices_Equal___string_string__L6 a0 a1 kk3 k5 l4i13 = some r := h
      obtain _ | k5 := k5
      · rw [f_slices_Equal___string_string__L6] at h; cases h
      rw [f_slices_Equal___string_string__L6] at h
      refine aw_show (m := (memOf w0 Z0 [] [] [(fDat (tyList tyStr) [v0_0] a0), (fDat (tyList tyStr) [v1_0] a1)])) (S := (tab [(0, v0_0), (1, v1_0), (12, (Value.int .i64 (a0.length : Int))), (13, (Value.int .i64 l4i13))])) ?_
      refine aw_seq ?_
      refine aw_region ?_
      refine al_val (ov_int rfl rfl rfl rfl) ?_
      refine al_nil ?_
      refine aq_then ?_
      refine aw_seq ?_
      refine aw_cond rfl (fun hb7 => ?_) (fun hb7 => ?_)
      · replace h := bif_t hb7 h
        refine aw_skip ?_
        refine aq_then ?_
        refine aw_seq ?_
        refine aw_block ?_
        refine aw_seq ?_
        refine aw_region ?_
        refine al_val (ov_move rfl rfl) ?_
        refine al_val (ov_assign rfl rfl) ?_
        refine al_nil ?_
        refine aq_then ?_
        refine aw_seq ?_
        obtain ⟨u8, hu9, h⟩ := opt_some h
        obtain ⟨u11, hu12, h⟩ := opt_some h
        refine aw_region_draw 8 [(16, (fun u => fEq u v0_0)), (17, (fun u => fEq u (Value.int .i64 l4i13))), (18, (fun p10 => (fPtr tyStr p10 u8))), (19, (fun u => fEq u (str u8))), (20, (fun u => fEq u v1_0)), (21, (fun u => fEq u (Value.int .i64 l4i13))), (22, (fun p13 => (fPtr tyStr p13 u11))), (23, (fun u => fEq u (str u11)))] (tab [(0, v0_0), (1, v1_0), (5, (Value.int .i64 l4i13)), (12, (Value.int .i64 (a0.length : Int))), (13, (Value.int .i64 l4i13))]) mixed (by kernel_rfl) rfl rfl rfl (fun a hs => hs.tab _ (allT_mem ⟨rfl, rfl, rfl, rfl, rfl, trivial⟩)) ⟨⟨rfl, ld_val (ov_move rfl rfl)⟩, ⟨rfl, ld_val (ov_move rfl rfl)⟩, ⟨rfl, ld_eq (j := 0) rfl rfl (ld_eq (j := 1) rfl rfl (ld_of (of_idxD 0 hu9 rfl rfl rfl Try.underlying60 sz9 rfl)))⟩, ⟨rfl, ld_fact (j := 2) rfl rfl (fun p10 => ld_val (ov_loadP (ds := [(str u8)]) 0 rfl (fun h => h) rfl Try.underlying9 sz9 rfl rfl rfl))⟩, ⟨rfl, ld_val (ov_move rfl rfl)⟩, ⟨rfl, ld_val (ov_move rfl rfl)⟩, ⟨rfl, ld_eq (j := 4) rfl rfl (ld_eq (j := 5) rfl rfl (ld_of (of_idxD 1 hu12 rfl rfl rfl Try.underlying60 sz9 rfl)))⟩, ⟨rfl, ld_fact (j := 6) rfl rfl (fun p13 => ld_val (ov_loadP (ds := [(str u11)]) 0 rfl (fun h => h) rfl Try.underlying9 sz9 rfl rfl rfl))⟩, trivial⟩ ?_
        refine tl_eq 3 rfl ?_
        refine tl_eq 7 rfl ?_
        refine tl_done ?_
        refine al_val (ov_strCmp rfl rfl rfl rfl) ?_
        refine al_nil ?_
        refine aq_then ?_
        refine aw_cond rfl (fun hb14 => ?_) (fun hb14 => ?_)
        · replace h := bif_t hb14 h
          refine aw_seq ?_
          refine aw_region ?_
          refine al_val (ov_assign rfl rfl) ?_
          refine al_nil ?_
          refine aq_then ?_
          refine aw_ret ?_
          refine aq_block_ret ?_
          refine aq_then_ret ?_
          refine aq_then_ret ?_
          refine aq_block_ret ?_
          refine aq_then_ret ?_
          obtain rfl := Option.some.inj h
          exact fn_ret () [] [] rfl rfl rfl rfl (res1 rfl rfl) rfl rfl rfl (by decide)
        · replace h := bif_f hb14 h
          refine aw_skip ?_
          refine aq_block ?_
          refine aq_then ?_
          refine aw_region ?_
          refine al_val (ov_int rfl rfl rfl rfl) ?_
          refine al_val (ov_move rfl rfl) ?_
          refine al_nil ?_
          exact aq_again k5 (IntKind.i64.wrap (l4i13 + (1 : Int))) (Nat.lt_succ_self _) h (fun w a hm hs => norm hm hs [] [0, 1] [(0, v0_0), (1, v1_0), (12, (Value.int .i64 (a0.length : Int))), (13, (Value.int .i64 (IntKind.i64.wrap (l4i13 + (1 : Int)))))] (by decide) ⟨rfl, rfl, rfl, rfl, trivial⟩)
      · replace h := bif_f hb7 h
        refine aw_exit ?_
        refine aq_then_exit ?_
        refine aq_then_exit ?_
        refine aq_block_exit ?_
        exact aq_join () h (fun w a hm hs => norm hm hs [] [0, 1] [] (by decide) trivial)
def f_lumlaw_LeaseEnters (fu : Nat) (a0 : S_api_Fence) (a1 : Int) (a2 : (List UInt8)) : Option Bool := (opt (f_lease_Enter fu a0 a1 a2) fun (r3 : (S_api_Fence × Int)) => (opt (f_lumref_Enter fu a0 a1 a2) fun (r7 : (S_api_Fence × Int)) => (lt (fun (j10b6 : Bool) => (some j10b6)) fun (kk11 : Bool → Option Bool) => (bif (r3.1.Seen == r7.1.Seen) then (opt (f_slices_Equal___string_string_ fu r3.1.Texts r7.1.Texts) fun (r14 : Bool) => (bif r14 then (kk11 (r3.2 == r7.2)) else (kk11 false))) else (kk11 false)))))
set_option maxRecDepth 100000 in
theorem f_lumlaw_LeaseEnters_ok (fu : Nat) (v0_1 : Value) (a0 : S_api_Fence) (a1 : Int) (a2 : (List UInt8)) {r : Bool} (h : f_lumlaw_LeaseEnters fu a0 a1 a2 = some r) : FnOk Try.prog 8 [(ag [(Value.int .i64 a0.Seen), v0_1]), (Value.int .i64 a1), (str a2)] [(fDat (tyList tyStr) [v0_1] a0.Texts)] [] (fun (i : Unit) => { val := (Value.bool r) }) := by
  unfold f_lumlaw_LeaseEnters at h
  refine fn_enter Try.func8 rfl Try.ntmps8 rfl (fun w0 Z0 => ?_)
  refine aw_seq ?_
  refine aw_region ?_
  refine al_box (vs := [(Value.int .i64 a0.Seen), v0_1]) rfl (cv_rfl rfl) rfl (fun g1 => ?_)
  refine al_val (ov_assign rfl rfl) ?_
  refine al_nil ?_
  refine aq_then ?_
  refine aw_seq ?_
  refine aw_region ?_
  refine al_val (ov_load (i := 0) (v := (ag [(Value.int .i64 a0.Seen), v0_1])) rfl rfl Try.underlying62 sz62 rfl rfl rfl rfl) ?_
  refine al_val (ov_move rfl rfl) ?_
  refine al_val (ov_move rfl rfl) ?_
  obtain ⟨r3, hc2, h⟩ := opt_some h
  refine al_call (vs := [(ag [(Value.int .i64 a0.Seen), v0_1]), (Value.int .i64 a1), (str a2)]) (f_lease_Enter_ok fu v0_1 a0 a1 a2 hc2) [] [] [0] (pre_fz 0 rfl pre_nil) rfl (by simp) (by decide) (.inl rfl) rfl Try.func38 rfl rfl rfl (fun v4 => ?_)
  refine al_val (ov_move rfl rfl) ?_
  refine al_val (ov_extract rfl rfl rfl) ?_
  refine al_val (ov_extract rfl rfl rfl) ?_
  refine al_alloc (zs := [(Value.int .i64 (0 : Int)), (Value.slice none 0 0)]) (zeroOf_to to62) rfl rfl (fun g5 => ?_)
  refine al_store (i := 0) (vs := [(Value.int .i64 r3.1.Seen), v4]) (cs' := [(Value.int .i64 r3.1.Seen), v4]) rfl rfl rfl sz62 (cv_rfl rfl) rfl (co_val rfl (co_fz 0 rfl co_nil)) (by decide) rfl rfl ?_
  refine al_val (ov_assign rfl rfl) ?_
  refine al_nil ?_
  refine aq_then ?_
  refine aw_seq ?_
  refine aw_region ?_
  refine al_val (ov_load (i := 1) (v := (ag [(Value.int .i64 a0.Seen), v0_1])) rfl rfl Try.underlying62 sz62 rfl rfl rfl rfl) ?_
  refine al_val (ov_move rfl rfl) ?_
  refine al_val (ov_move rfl rfl) ?_
  obtain ⟨r7, hc6, h⟩ := opt_some h
  refine al_call (vs := [(ag [(Value.int .i64 a0.Seen), v0_1]), (Value.int .i64 a1), (str a2)]) (f_lumref_Enter_ok fu v0_1 a0 a1 a2 hc6) [] [] [0, 1] (pre_fz 1 rfl pre_nil) rfl (by simp) (by decide) (.inl rfl) rfl Try.func39 rfl rfl rfl (fun v8 => ?_)
  refine al_val (ov_move rfl rfl) ?_
  refine al_val (ov_extract rfl rfl rfl) ?_
  refine al_val (ov_extract rfl rfl rfl) ?_
  refine al_alloc (zs := [(Value.int .i64 (0 : Int)), (Value.slice none 0 0)]) (zeroOf_to to62) rfl rfl (fun g9 => ?_)
  refine al_store (i := 0) (vs := [(Value.int .i64 r7.1.Seen), v8]) (cs' := [(Value.int .i64 r7.1.Seen), v8]) rfl rfl rfl sz62 (cv_rfl rfl) rfl (co_val rfl (co_fz 0 rfl co_nil)) (by decide) rfl rfl ?_
  refine al_val (ov_assign rfl rfl) ?_
  refine al_nil ?_
  refine aq_then ?_
  obtain ⟨kk11, hkk11, h⟩ := lt_some h
  refine aw_seq_join (ι := Bool) (fun i => (memOf w0 Z0 [] [] [(fDat (tyList tyStr) [v8] r7.1.Texts), (fDat (tyList tyStr) [v4] r3.1.Texts), (fDat (tyList tyStr) [v0_1] a0.Texts)])) (fun i => (tab [(6, (Value.bool i))])) (fun i => kk11 i = some r) ?_ ?_
  · rintro j10b6 h
    have h : kk11 j10b6 = some r := h
    rw [hkk11] at h
    dsimp only at h
    clear hkk11
    refine aw_show (m := (memOf w0 Z0 [] [] [(fDat (tyList tyStr) [v8] r7.1.Texts), (fDat (tyList tyStr) [v4] r3.1.Texts), (fDat (tyList tyStr) [v0_1] a0.Texts)])) (S := (tab [(6, (Value.bool j10b6))])) ?_
    refine aw_ret ?_
    obtain rfl := Option.some.inj h
    exact fn_ret () [] [] rfl rfl rfl rfl (res1 rfl rfl) rfl rfl rfl (by decide)
  · clear hkk11
    refine aw_region ?_
    refine al_val (ov_fieldAddr rfl Try.underlying62 rfl sz3 rfl rfl) ?_
    refine al_val (ov_load (i := 1) (v := (Value.int .i64 r3.1.Seen)) rfl rfl Try.underlying3 sz3 rfl rfl rfl rfl) ?_
    refine al_val (ov_fieldAddr rfl Try.underlying62 rfl sz3 rfl rfl) ?_
    refine al_val (ov_load (i := 0) (v := (Value.int .i64 r7.1.Seen)) rfl rfl Try.underlying3 sz3 rfl rfl rfl rfl) ?_
    refine al_val (ov_int rfl rfl rfl rfl) ?_
    refine al_val (ov_move rfl rfl) ?_
    refine al_caseB 30 rfl (fun hb12 => ?_) (fun hb12 => ?_)
    · replace h := bif_t hb12 h
      refine al_val (ov_fieldAddr rfl Try.underlying62 rfl sz60 rfl rfl) ?_
      refine al_val (ov_load (i := 1) (v := v4) rfl rfl Try.underlying60 sz60 rfl rfl rfl rfl) ?_
      refine al_val (ov_fieldAddr rfl Try.underlying62 rfl sz60 rfl rfl) ?_
      refine al_val (ov_load (i := 0) (v := v8) rfl rfl Try.underlying60 sz60 rfl rfl rfl rfl) ?_
      obtain ⟨r14, hc13, h⟩ := opt_some h
      refine al_call (vs := [v4, v8]) (f_slices_Equal___string_string__ok fu v4 r3.1.Texts v8 r7.1.Texts hc13) [] [] [0, 1, 2] (pre_fz 1 rfl (pre_fz 0 rfl pre_nil)) rfl (by simp) (by decide) (.inl rfl) rfl Try.func40 rfl rfl rfl (fun _ => ?_)
      refine al_val (ov_pick_t rfl rfl rfl) ?_
      refine al_val (ov_move rfl rfl) ?_
      refine al_caseB 37 rfl (fun hb15 => ?_) (fun hb15 => ?_)
      · replace h := bif_t hb15 h
        refine al_val (ov_move rfl rfl) ?_
        refine al_val (ov_move rfl rfl) ?_
        refine al_val (ov_int rfl rfl rfl rfl) ?_
        refine al_val (ov_pick_t rfl rfl rfl) ?_
        refine al_val (ov_assign rfl rfl) ?_
        refine al_nil ?_
        exact aq_join (r3.2 == r7.2) h (fun w a hm hs => norm hm hs [] [0, 1, 2] [(6, (Value.bool (r3.2 == r7.2)))] (by decide) ⟨rfl, trivial⟩)
      · replace h := bif_f hb15 h
        refine al_skip ?_
        refine al_skip ?_
        refine al_skip ?_
        refine al_val (ov_pick_f rfl rfl rfl) ?_
        refine al_val (ov_assign rfl rfl) ?_
        refine al_nil ?_
        exact aq_join false h (fun w a hm hs => norm hm hs [] [0, 1, 2] [(6, (Value.bool false))] (by decide) ⟨rfl, trivial⟩)
    · replace h := bif_f hb12 h
      refine al_skip ?_
      refine al_skip ?_
      refine al_skip ?_
      refine al_skip ?_
      refine al_skip ?_
      refine al_val (ov_pick_f rfl rfl rfl) ?_
      refine al_val (ov_move rfl rfl) ?_
      refine al_skip ?_
      refine al_skip ?_
      refine al_skip ?_
      refine al_val (ov_pick_f rfl rfl rfl) ?_
      refine al_val (ov_assign rfl rfl) ?_
      refine al_nil ?_
      exact aq_join false h (fun w a hm hs => norm hm hs [] [0, 1, 2] [(6, (Value.bool false))] (by decide) ⟨rfl, trivial⟩)
end Go.Proofs.Ythcmjcnilhglmaa
