/- What LineSays leans on, part 2. No condition. -/
import Derived.Test.YtpakblkldklbmaaQLineSaysa
import Derived.Test.YtpakblkldklbmaaChecked
namespace Go.Proofs.Ytpakblkldklbmaa
open Go.RowKit Ytpakblkldklbmaa.En
set_option linter.unusedVariables false
set_option linter.unusedSimpArgs false
open Go.Value (int bool)
structure S_api_Sender where
  Texts : (List (List UInt8))
  Had : (List Bool)
  Base : Int
  deriving DecidableEq
def tyS_api_Sender : Ty S_api_Sender := tyVia (fun x => (x.Texts, (x.Had, x.Base))) (tyPair (tyList tyStr) (tyPair (tyList tyBool) (tyInt .i64)))
theorem encnS_api_Sender {cs} {x : S_api_Sender} : ∀ Z w, (fDat tyS_api_Sender cs x).p Z w → ∃ j : Value × Value, cs = [j.1, j.2, (int .i64 x.Base)] ∧ ∀ g ∈ [(fDat (tyList tyStr) [j.1] x.Texts), (fDat (tyList tyBool) [j.2] x.Had)], g.p Z w := by
  intro Z w h
  obtain ⟨c0, d0, rfl, p0, q0⟩ := h
  obtain ⟨c1, d1, rfl, p1, q1⟩ := q0
  obtain ⟨v0, rfl⟩ := one_of p0
  obtain ⟨v1, rfl⟩ := one_of p1
  obtain rfl : d1 = [(int .i64 x.Base)] := q1
  exact ⟨(v0, v1), rfl, (fall_cons p0 (fall_cons p1 fall_nil))⟩
structure S_api_Packet where
  Kind : Int
  Seq : Int
  Text : (List UInt8)
  deriving DecidableEq
def tyS_api_Packet : Ty S_api_Packet := tyVia (fun x => (x.Kind, (x.Seq, x.Text))) (tyPair (tyInt .i64) (tyPair (tyInt .i64) tyStr))
theorem subS_api_Packet_1 : Sub tyS_api_Packet 1 (tyInt .i64) (fun x => x.Seq) := Sub.via (Sub.snd (Sub.fst (Sub.whole _)))
theorem subS_api_Packet_2 : Sub tyS_api_Packet 2 tyStr (fun x => x.Text) := Sub.via (Sub.snd (Sub.snd (Sub.whole _)))
theorem encS_api_Packet {Z w cs} {x : S_api_Packet} (h : tyS_api_Packet.rep Z w cs x) : cs = [(int .i64 x.Kind), (int .i64 x.Seq), (str x.Text)] := by
  obtain ⟨c0, d0, rfl, p0, q0⟩ := h
  obtain ⟨c1, d1, rfl, p1, q1⟩ := q0
  rw [show _ = _ from p0]
  rw [show _ = _ from p1]
  rw [show _ = _ from q1]
  rfl
theorem mkS_api_Packet {Z w cs} {x : S_api_Packet} (h : cs = [(int .i64 x.Kind), (int .i64 x.Seq), (str x.Text)]) : tyS_api_Packet.rep Z w cs x := by
  subst h
  exact ⟨_, _, (List.take_append_drop 1 _).symm, rfl, ⟨_, _, (List.take_append_drop 1 _).symm, rfl, rfl⟩⟩
structure S_api_Receiver where
  Got : (List (List UInt8))
  Held : (List S_api_Packet)
  deriving DecidableEq
def tyS_api_Receiver : Ty S_api_Receiver := tyVia (fun x => (x.Got, x.Held)) (tyPair (tyList tyStr) (tyList tyS_api_Packet))
theorem encnS_api_Receiver {cs} {x : S_api_Receiver} : ∀ Z w, (fDat tyS_api_Receiver cs x).p Z w → ∃ j : Value × Value, cs = [j.1, j.2] ∧ ∀ g ∈ [(fDat (tyList tyStr) [j.1] x.Got), (fDat (tyList tyS_api_Packet) [j.2] x.Held)], g.p Z w := by
  intro Z w h
  obtain ⟨c0, d0, rfl, p0, q0⟩ := h
  obtain ⟨v0, rfl⟩ := one_of p0
  obtain ⟨v1, rfl⟩ := one_of q0
  exact ⟨(v0, v1), rfl, (fall_cons p0 (fall_cons q0 fall_nil))⟩
theorem sz3 : szOf Try.prog 3 = some 1 := by kernel_rfl
theorem sz4 : szOf Try.prog 4 = some 1 := by kernel_rfl
theorem to4 : tyOf Try.prog 4 = some (1, 1, some (bool false)) := by kernel_rfl
theorem sz9 : szOf Try.prog 9 = some 1 := by kernel_rfl
theorem to9 : tyOf Try.prog 9 = some (1, 16, some (str ([] : List UInt8))) := by kernel_rfl
theorem sz23 : szOf Try.prog 23 = some 1 := by kernel_rfl
theorem sz56 : szOf Try.prog 56 = some 1 := by kernel_rfl
theorem sz58 : szOf Try.prog 58 = some 3 := by kernel_rfl
theorem to58 : tyOf Try.prog 58 = some (3, 56, some (ag [(Value.slice none 0 0), (Value.slice none 0 0), (int .i64 (0 : Int))])) := by kernel_rfl
theorem sz59 : szOf Try.prog 59 = some 1 := by kernel_rfl
theorem sz61 : szOf Try.prog 61 = some 2 := by kernel_rfl
theorem to61 : tyOf Try.prog 61 = some (2, 48, some (ag [(Value.slice none 0 0), (Value.slice none 0 0)])) := by kernel_rfl
theorem sz63 : szOf Try.prog 63 = some 3 := by kernel_rfl
theorem to63 : tyOf Try.prog 63 = some (3, 32, some (ag [(int .i64 (0 : Int)), (int .i64 (0 : Int)), (str ([] : List UInt8))])) := by kernel_rfl
theorem mixed : Try.prog.follows .mixedOrders = true := by kernel_rfl
theorem eg63 : Try.prog.eqGuardType Try.prog.depth 63 = false := by kernel_rfl
theorem kt63 : Try.prog.keyTypeAt 20 63 = true := by kernel_rfl
theorem lv63 : leaves Try.prog 20 63 = some [3, 3, 9] := by kernel_rfl
theorem injS_api_Packet {x y : S_api_Packet} : (x == y) = true ↔ [(int .i64 x.Kind), (int .i64 x.Seq), (str x.Text)] = [(int .i64 y.Kind), (int .i64 y.Seq), (str y.Text)] := by
  rw [beq_iff_eq]
  constructor
  · rintro rfl; rfl
  · intro h
    obtain ⟨⟩ := x
    obtain ⟨⟩ := y
    simp only [S_api_Packet.mk.injEq, str, List.cons_append, List.nil_append, List.cons.injEq, Value.int.injEq, Value.bool.injEq, Value.string.injEq, ByteArray.mk.injEq, Array.mk.injEq, Int.natCast_inj, UInt8.toNat_inj, true_and, and_true] at h ⊢
    first | exact h | simpa [and_assoc] using h
def okS_api_Sender (x : S_api_Sender) : Prop := (okL (fun y => y.length ≤ 9223372036854775807) x.Texts) ∧ (okL (fun y => True) x.Had) ∧ ((Lit.int .i64 x.Base).wf = true)
set_option maxRecDepth 100000 in
theorem opnS_api_Sender {H : Type} : Opn H Try.prog 58 tyS_api_Sender okS_api_Sender := opn_struct (fun x => (x.Texts, (x.Had, x.Base))) (fun y => S_api_Sender.mk y.1 y.2.1 y.2.2) (fun _ => rfl) Try.underlying58 sz58 (fields_cons sz23 (opn_list Try.underlying23 sz9 rfl (opn_str Try.underlying9)) (fields_cons sz56 (opn_list Try.underlying56 sz4 rfl (opn_bool Try.underlying4)) (fields_one sz3 (opn_int Try.underlying3))))
def okS_api_Packet (x : S_api_Packet) : Prop := ((Lit.int .i64 x.Kind).wf = true) ∧ ((Lit.int .i64 x.Seq).wf = true) ∧ (x.Text.length ≤ 9223372036854775807)
set_option maxRecDepth 100000 in
theorem opnS_api_Packet {H : Type} : Opn H Try.prog 63 tyS_api_Packet okS_api_Packet := opn_struct (fun x => (x.Kind, (x.Seq, x.Text))) (fun y => S_api_Packet.mk y.1 y.2.1 y.2.2) (fun _ => rfl) Try.underlying63 sz63 (fields_cons sz3 (opn_int Try.underlying3) (fields_cons sz3 (opn_int Try.underlying3) (fields_one sz9 (opn_str Try.underlying9))))
def okS_api_Receiver (x : S_api_Receiver) : Prop := (okL (fun y => y.length ≤ 9223372036854775807) x.Got) ∧ (okL (fun y => okS_api_Packet y) x.Held)
set_option maxRecDepth 100000 in
theorem opnS_api_Receiver {H : Type} : Opn H Try.prog 61 tyS_api_Receiver okS_api_Receiver := opn_struct (fun x => (x.Got, x.Held)) (fun y => S_api_Receiver.mk y.1 y.2) (fun _ => rfl) Try.underlying61 sz61 (fields_cons sz23 (opn_list Try.underlying23 sz9 rfl (opn_str Try.underlying9)) (fields_one sz59 (opn_list Try.underlying59 sz63 rfl opnS_api_Packet)))
def f_lumref_SenderErr_L9 (a0 : S_api_Sender) (kk6 : (Unit → Option Int)) : Nat → Int → Option Int
  | 0, _ => none
  | k8 + 1, l7i33 => (bif (decide (l7i33 < (a0.Texts.length : Int))) then (opt (at? a0.Texts l7i33) fun (u11 : (List UInt8)) => (bif (decide ((u11.length : Int) > (1024 : Int))) then (some (2 : Int)) else (lt (fun (j15b54 : Bool) => (bif j15b54 then (some (4 : Int)) else (f_lumref_SenderErr_L9 a0 kk6 k8 (IntKind.i64.wrap (l7i33 + (1 : Int)))))) fun (kk16 : Bool → Option Int) => (bif (decide (l7i33 < a0.Base)) then (opt (at? a0.Had l7i33) fun (u19 : Bool) => (kk16 (!u19))) else (kk16 false))))) else (kk6 ()))
def f_lumref_SenderErr (fu : Nat) (a0 : S_api_Sender) : Option Int := (lt (fun (j2b29 : Bool) => (bif j2b29 then (some (1 : Int)) else (lt (fun (_ : Unit) => (some (0 : Int))) fun (kk6 : Unit → Option Int) => (f_lumref_SenderErr_L9 a0 kk6 fu (0 : Int))))) fun (kk3 : Bool → Option Int) => (bif (decide ((a0.Texts.length : Int) > (2000 : Int))) then (kk3 true) else (bif ((a0.Had.length : Int) != (a0.Texts.length : Int)) then (kk3 true) else (bif (decide (a0.Base < (0 : Int))) then (kk3 true) else (kk3 (decide (a0.Base > (a0.Texts.length : Int))))))))
set_option maxRecDepth 100000 in
set_option maxHeartbeats 2000000 in
set_option maxHeartbeats 2000000 in
theorem f_lumref_SenderErr_ok (fu : Nat) (v0_0 : Value) (v0_1 : Value) (a0 : S_api_Sender) {r : Int} (h : f_lumref_SenderErr fu a0 = some r) : FnOk Try.prog 21 [(ag [v0_0, v0_1, (int .i64 a0.Base)])] [(fDat (tyList tyStr) [v0_0] a0.Texts), (fDat (tyList tyBool) [v0_1] a0.Had)] [] (fun (i : Unit) => { val := (int .i64 r) }) := by
 unfold f_lumref_SenderErr at h
 refine fn_enter Try.func21 rfl Try.ntmps21 rfl (fun w0 Z0 => ?_)
 refine aw_sr ?_
 refine al_box (vs := [v0_0, v0_1, (iq a0.Base)]) rfl (cv_rfl rfl) rfl (fun g1 => ?_)
 refine al_as rfl rfl ?_
 refine al_nt ?_
 refine aw_seq ?_
 obtain ⟨kk3, hkk3, h⟩ := lt_some h
 refine aw_seq_join (ι := Bool) (fun i => (memOf w0 Z0 [] [(oBox g1 58 [v0_0, v0_1, (iq a0.Base)])] [(fDat (tyList tyStr) [v0_0] a0.Texts), (fDat (tyList tyBool) [v0_1] a0.Had)])) (fun i => (tab [(1, (pq g1)), (29, (bool i))])) (fun i => kk3 i = some r) ?_ ?_
 ·rintro j2b29 h
  have h : kk3 j2b29 = some r := h
  rw [hkk3] at h
  dsimp only at h
  clear hkk3
  refine aw_show (m := (memOf w0 Z0 [] [(oBox g1 58 [v0_0, v0_1, (iq a0.Base)])] [(fDat (tyList tyStr) [v0_0] a0.Texts), (fDat (tyList tyBool) [v0_1] a0.Had)])) (S := (tab [(1, (pq g1)), (29, (bool j2b29))])) ?_
  refine aw_cond rfl (fun hb4 => ?_) (fun hb4 => ?_)
  ·replace h := bif_t hb4 h
   refine aw_sr ?_
   refine al_as rfl rfl ?_
   refine al_nt ?_
   refine aw_ret ?_
   refine aq_then_ret ?_
   obtain rfl := Option.some.inj h
   exact fn_ret () [] [] rfl rfl rfl rfl (res1 rfl rfl) rfl rfl rfl (by decide)
  ·replace h := bif_f hb4 h
   refine aw_skip ?_
   refine aq_then ?_
   obtain ⟨kk6, hkk6, h⟩ := lt_some h
   refine aw_seq_join (ι := Unit) (fun i => (memOf w0 Z0 [] [] [(fDat (tyList tyStr) [v0_0] a0.Texts), (fDat (tyList tyBool) [v0_1] a0.Had)])) (fun i => (tab [])) (fun i => kk6 () = some r) ?_ ?_
   ·rintro _ h
    have h : kk6 () = some r := h
    rw [hkk6] at h
    dsimp only at h
    clear hkk6
    refine aw_show (m := (memOf w0 Z0 [] [] [(fDat (tyList tyStr) [v0_0] a0.Texts), (fDat (tyList tyBool) [v0_1] a0.Had)])) (S := (tab [])) ?_
    refine aw_sr ?_
    refine al_as rfl rfl ?_
    refine al_nt ?_
    refine aw_ret ?_
    obtain rfl := Option.some.inj h
    exact fn_ret () [] [] rfl rfl rfl rfl (res1 rfl rfl) rfl rfl rfl (by decide)
   ·clear hkk6
    refine aw_sr ?_
    refine al_val (ov_fieldA (p := 0) rfl Try.underlying58 rfl sz23 rfl rfl rfl) ?_
    refine al_val (ov_load (i := 0) (v := v0_0) rfl rfl Try.underlying23 sz23 rfl rfl rfl rfl) ?_
    refine al_val (ov_lenD 0 rfl rfl Try.underlying23 rfl) ?_
    refine al_mv rfl rfl ?_
    refine al_nt ?_
    refine aw_block ?_
    refine aw_state (aw_loop (ι := Int) (fun i => (memOf w0 Z0 [] [(oBox g1 58 [v0_0, v0_1, (iq a0.Base)])] [(fDat (tyList tyStr) [v0_0] a0.Texts), (fDat (tyList tyBool) [v0_1] a0.Had)])) (fun i => (tab [(1, (pq g1)), (32, (iq (a0.Texts.length : Int))), (33, (iq i))])) (fun q i => f_lumref_SenderErr_L9 a0 kk6 q i = some r) ?_ fu (0 : Int) h) (fun w a hm hs => norm hm hs [0] [0, 1] [(1, (pq g1)), (32, (iq (a0.Texts.length : Int))), (33, (iq (0 : Int)))] (by decide) ⟨rfl, rfl, rfl, trivial⟩)
    clear h
    rintro k8 l7i33 h
    have h : f_lumref_SenderErr_L9 a0 kk6 k8 l7i33 = some r := h
    obtain _ | k8 := k8
    · rw [f_lumref_SenderErr_L9] at h; cases h
    rw [f_lumref_SenderErr_L9] at h
    refine aw_show (m := (memOf w0 Z0 [] [(oBox g1 58 [v0_0, v0_1, (iq a0.Base)])] [(fDat (tyList tyStr) [v0_0] a0.Texts), (fDat (tyList tyBool) [v0_1] a0.Had)])) (S := (tab [(1, (pq g1)), (32, (iq (a0.Texts.length : Int))), (33, (iq l7i33))])) ?_
    refine aw_sr ?_
    refine al_in rfl rfl rfl rfl ?_
    refine al_nt ?_
    refine aw_seq ?_
    refine aw_cond rfl (fun hb10 => ?_) (fun hb10 => ?_)
    ·replace h := bif_t hb10 h
     refine aw_skip ?_
     refine aq_then ?_
     refine aw_seq ?_
     refine aw_block ?_
     refine aw_sr ?_
     refine al_mv rfl rfl ?_
     refine al_as rfl rfl ?_
     refine al_nt ?_
     refine aw_seq ?_
     refine aw_sr ?_
     refine al_val (ov_fieldA (p := 0) rfl Try.underlying58 rfl sz23 rfl rfl rfl) ?_
     refine al_val (ov_load (i := 0) (v := v0_0) rfl rfl Try.underlying23 sz23 rfl rfl rfl rfl) ?_
     refine al_mv rfl rfl ?_
     obtain ⟨u11, hu12, h⟩ := opt_some h
     refine al_idxD 0 hu12 rfl rfl rfl Try.underlying23 sz9 rfl (fun p13 => ?_)
     refine al_val (ov_loadP (ds := [(str u11)]) 0 rfl (fun h => h) rfl Try.underlying9 sz9 rfl rfl rfl) ?_
     refine al_val (ov_strLen Try.underlying9 rfl rfl) ?_
     refine al_in rfl rfl rfl rfl ?_
     refine al_nt ?_
     refine aw_cond rfl (fun hb14 => ?_) (fun hb14 => ?_)
     ·replace h := bif_t hb14 h
      refine aw_sr ?_
      refine al_as rfl rfl ?_
      refine al_nt ?_
      refine aw_ret ?_
      refine aq_then_ret ?_
      refine aq_block_ret ?_
      refine aq_then_ret ?_
      refine aq_then_ret ?_
      refine aq_block_ret ?_
      refine aq_then_ret ?_
      obtain rfl := Option.some.inj h
      exact fn_ret () [] [] rfl rfl rfl rfl (res1 rfl rfl) rfl rfl rfl (by decide)
     ·replace h := bif_f hb14 h
      refine aw_skip ?_
      refine aq_then ?_
      obtain ⟨kk16, hkk16, h⟩ := lt_some h
      refine aw_seq_join (ι := Bool) (fun i => (memOf w0 Z0 [] [(oBox g1 58 [v0_0, v0_1, (iq a0.Base)])] [(fDat (tyList tyStr) [v0_0] a0.Texts), (fDat (tyList tyBool) [v0_1] a0.Had), (fPtr tyStr p13 u11)])) (fun i => (tab [(1, (pq g1)), (32, (iq (a0.Texts.length : Int))), (33, (iq l7i33)), (54, (bool i))])) (fun i => kk16 i = some r) ?_ ?_
      ·rintro j15b54 h
       have h : kk16 j15b54 = some r := h
       rw [hkk16] at h
       dsimp only at h
       clear hkk16
       refine aw_show (m := (memOf w0 Z0 [] [(oBox g1 58 [v0_0, v0_1, (iq a0.Base)])] [(fDat (tyList tyStr) [v0_0] a0.Texts), (fDat (tyList tyBool) [v0_1] a0.Had), (fPtr tyStr p13 u11)])) (S := (tab [(1, (pq g1)), (32, (iq (a0.Texts.length : Int))), (33, (iq l7i33)), (54, (bool j15b54))])) ?_
       refine aw_cond rfl (fun hb17 => ?_) (fun hb17 => ?_)
       ·replace h := bif_t hb17 h
        refine aw_sr ?_
        refine al_as rfl rfl ?_
        refine al_nt ?_
        refine aw_ret ?_
        refine aq_block_ret ?_
        refine aq_then_ret ?_
        refine aq_then_ret ?_
        refine aq_block_ret ?_
        refine aq_then_ret ?_
        obtain rfl := Option.some.inj h
        exact fn_ret () [] [] rfl rfl rfl rfl (res1 rfl rfl) rfl rfl rfl (by decide)
       ·replace h := bif_f hb17 h
        refine aw_skip ?_
        refine aq_block ?_
        refine aq_then ?_
        refine aw_region ?_
        refine al_in rfl rfl rfl rfl ?_
        refine al_mv rfl rfl ?_
        refine al_nil ?_
        exact aq_again k8 (wq (l7i33 + (1 : Int))) (Nat.lt_succ_self _) h (fun w a hm hs => norm hm hs [0] [0, 1] [(1, (pq g1)), (32, (iq (a0.Texts.length : Int))), (33, (iq (wq (l7i33 + (1 : Int)))))] (by decide) ⟨rfl, rfl, rfl, trivial⟩)
      ·clear hkk16
       refine aw_region ?_
       refine al_mv rfl rfl ?_
       refine al_val (ov_fieldA (p := 2) rfl Try.underlying58 rfl sz3 rfl rfl rfl) ?_
       refine al_val (ov_load (i := 0) (v := (iq a0.Base)) rfl rfl Try.underlying3 sz3 rfl rfl rfl rfl) ?_
       refine al_in rfl rfl rfl rfl ?_
       refine al_mv rfl rfl ?_
       refine al_caseB 47 rfl (fun hb18 => ?_) (fun hb18 => ?_)
       ·replace h := bif_t hb18 h
        refine al_val (ov_fieldA (p := 1) rfl Try.underlying58 rfl sz56 rfl rfl rfl) ?_
        refine al_val (ov_load (i := 0) (v := v0_1) rfl rfl Try.underlying56 sz56 rfl rfl rfl rfl) ?_
        refine al_mv rfl rfl ?_
        obtain ⟨u19, hu20, h⟩ := opt_some h
        refine al_idxD 2 hu20 rfl rfl rfl Try.underlying56 sz4 rfl (fun p21 => ?_)
        refine al_val (ov_loadP (ds := [(bool u19)]) 0 rfl (fun h => h) rfl Try.underlying4 sz4 rfl rfl rfl) ?_
        refine al_val (ov_not rfl rfl) ?_
        refine al_val (ov_pick_t rfl rfl rfl) ?_
        refine al_nil ?_
        exact aq_join (!u19) h (fun w a hm hs => norm hm hs [0] [2, 3, 1] [(1, (pq g1)), (32, (iq (a0.Texts.length : Int))), (33, (iq l7i33)), (54, (bool (!u19)))] (by decide) ⟨rfl, rfl, rfl, rfl, trivial⟩)
       ·replace h := bif_f hb18 h
        refine al_skip ?_
        refine al_skip ?_
        refine al_skip ?_
        refine al_skip ?_
        refine al_skip ?_
        refine al_skip ?_
        refine al_val (ov_pick_f rfl rfl rfl) ?_
        refine al_nil ?_
        exact aq_join false h (fun w a hm hs => norm hm hs [0] [1, 2, 0] [(1, (pq g1)), (32, (iq (a0.Texts.length : Int))), (33, (iq l7i33)), (54, (bool false))] (by decide) ⟨rfl, rfl, rfl, rfl, trivial⟩)
    ·replace h := bif_f hb10 h
     refine aw_exit ?_
     refine aq_then_exit ?_
     refine aq_then_exit ?_
     refine aq_block_exit ?_
     exact aq_join () h (fun w a hm hs => norm hm hs [] [0, 1] [] (by decide) trivial)
 ·clear hkk3
  refine aw_region ?_
  refine al_val (ov_fieldA (p := 0) rfl Try.underlying58 rfl sz23 rfl rfl rfl) ?_
  refine al_val (ov_load (i := 0) (v := v0_0) rfl rfl Try.underlying23 sz23 rfl rfl rfl rfl) ?_
  refine al_val (ov_lenD 0 rfl rfl Try.underlying23 rfl) ?_
  refine al_in rfl rfl rfl rfl ?_
  refine al_mv rfl rfl ?_
  refine al_caseB 8 rfl (fun hb22 => ?_) (fun hb22 => ?_)
  ·replace h := bif_t hb22 h
   refine al_skip ?_
   refine al_skip ?_
   refine al_skip ?_
   refine al_skip ?_
   refine al_skip ?_
   refine al_skip ?_
   refine al_skip ?_
   refine al_val (ov_pick_t rfl rfl rfl) ?_
   refine al_mv rfl rfl ?_
   refine al_skip ?_
   refine al_skip ?_
   refine al_skip ?_
   refine al_val (ov_pick_t rfl rfl rfl) ?_
   refine al_mv rfl rfl ?_
   refine al_skip ?_
   refine al_skip ?_
   refine al_skip ?_
   refine al_skip ?_
   refine al_skip ?_
   refine al_skip ?_
   refine al_val (ov_pick_t rfl rfl rfl) ?_
   refine al_nil ?_
   exact aq_join true h (fun w a hm hs => norm hm hs [0] [0, 1] [(1, (pq g1)), (29, (bool true))] (by decide) ⟨rfl, rfl, trivial⟩)
  ·replace h := bif_f hb22 h
   refine al_val (ov_fieldA (p := 1) rfl Try.underlying58 rfl sz56 rfl rfl rfl) ?_
   refine al_val (ov_load (i := 0) (v := v0_1) rfl rfl Try.underlying56 sz56 rfl rfl rfl rfl) ?_
   refine al_val (ov_lenD 1 rfl rfl Try.underlying56 rfl) ?_
   refine al_val (ov_fieldA (p := 0) rfl Try.underlying58 rfl sz23 rfl rfl rfl) ?_
   refine al_val (ov_load (i := 0) (v := v0_0) rfl rfl Try.underlying23 sz23 rfl rfl rfl rfl) ?_
   refine al_val (ov_lenD 0 rfl rfl Try.underlying23 rfl) ?_
   refine al_in rfl rfl rfl rfl ?_
   refine al_val (ov_pick_f rfl rfl rfl) ?_
   refine al_mv rfl rfl ?_
   refine al_caseB 17 rfl (fun hb23 => ?_) (fun hb23 => ?_)
   ·replace h := bif_t hb23 h
    refine al_skip ?_
    refine al_skip ?_
    refine al_skip ?_
    refine al_val (ov_pick_t rfl rfl rfl) ?_
    refine al_mv rfl rfl ?_
    refine al_skip ?_
    refine al_skip ?_
    refine al_skip ?_
    refine al_skip ?_
    refine al_skip ?_
    refine al_skip ?_
    refine al_val (ov_pick_t rfl rfl rfl) ?_
    refine al_nil ?_
    exact aq_join true h (fun w a hm hs => norm hm hs [0] [0, 1] [(1, (pq g1)), (29, (bool true))] (by decide) ⟨rfl, rfl, trivial⟩)
   ·replace h := bif_f hb23 h
    refine al_val (ov_fieldA (p := 2) rfl Try.underlying58 rfl sz3 rfl rfl rfl) ?_
    refine al_val (ov_load (i := 0) (v := (iq a0.Base)) rfl rfl Try.underlying3 sz3 rfl rfl rfl rfl) ?_
    refine al_in rfl rfl rfl rfl ?_
    refine al_val (ov_pick_f rfl rfl rfl) ?_
    refine al_mv rfl rfl ?_
    refine al_caseB 22 rfl (fun hb24 => ?_) (fun hb24 => ?_)
    ·replace h := bif_t hb24 h
     refine al_skip ?_
     refine al_skip ?_
     refine al_skip ?_
     refine al_skip ?_
     refine al_skip ?_
     refine al_skip ?_
     refine al_val (ov_pick_t rfl rfl rfl) ?_
     refine al_nil ?_
     exact aq_join true h (fun w a hm hs => norm hm hs [0] [0, 1] [(1, (pq g1)), (29, (bool true))] (by decide) ⟨rfl, rfl, trivial⟩)
    ·replace h := bif_f hb24 h
     refine al_val (ov_fieldA (p := 2) rfl Try.underlying58 rfl sz3 rfl rfl rfl) ?_
     refine al_val (ov_load (i := 0) (v := (iq a0.Base)) rfl rfl Try.underlying3 sz3 rfl rfl rfl rfl) ?_
     refine al_val (ov_fieldA (p := 0) rfl Try.underlying58 rfl sz23 rfl rfl rfl) ?_
     refine al_val (ov_load (i := 0) (v := v0_0) rfl rfl Try.underlying23 sz23 rfl rfl rfl rfl) ?_
     refine al_val (ov_lenD 0 rfl rfl Try.underlying23 rfl) ?_
     refine al_in rfl rfl rfl rfl ?_
     refine al_val (ov_pick_f rfl rfl rfl) ?_
     refine al_nil ?_
     exact aq_join (decide (a0.Base > (a0.Texts.length : Int))) h (fun w a hm hs => norm hm hs [0] [0, 1] [(1, (pq g1)), (29, (bool (decide (a0.Base > (a0.Texts.length : Int)))))] (by decide) ⟨rfl, rfl, trivial⟩)
def f_line_checkSender_L9 (a0 : S_api_Sender) (kk6 : (Unit → Option Int)) : Nat → Int → Option Int
  | 0, _ => none
  | k8 + 1, l7i34 => (bif (decide (l7i34 < (a0.Texts.length : Int))) then (opt (at? a0.Texts l7i34) fun (u11 : (List UInt8)) => (bif (decide ((u11.length : Int) > (1024 : Int))) then (some (2 : Int)) else (lt (fun (j15b53 : Bool) => (bif j15b53 then (some (4 : Int)) else (f_line_checkSender_L9 a0 kk6 k8 (IntKind.i64.wrap (l7i34 + (1 : Int)))))) fun (kk16 : Bool → Option Int) => (bif (decide (l7i34 < a0.Base)) then (opt (at? a0.Had l7i34) fun (u19 : Bool) => (kk16 (!u19))) else (kk16 false))))) else (kk6 ()))
def f_line_checkSender (fu : Nat) (a0 : S_api_Sender) : Option Int := (lt (fun (j2b30 : Bool) => (bif j2b30 then (some (1 : Int)) else (lt (fun (_ : Unit) => (some (0 : Int))) fun (kk6 : Unit → Option Int) => (f_line_checkSender_L9 a0 kk6 fu (0 : Int))))) fun (kk3 : Bool → Option Int) => (bif (decide ((a0.Texts.length : Int) > (2000 : Int))) then (kk3 true) else (bif ((a0.Had.length : Int) != (a0.Texts.length : Int)) then (kk3 true) else (bif (decide (a0.Base < (0 : Int))) then (kk3 true) else (kk3 (decide (a0.Base > (a0.Texts.length : Int))))))))
set_option maxRecDepth 100000 in
set_option maxHeartbeats 2000000 in
set_option maxHeartbeats 2000000 in
theorem f_line_checkSender_ok (fu : Nat) (v0_0 : Value) (v0_1 : Value) (a0 : S_api_Sender) {r : Int} (h : f_line_checkSender fu a0 = some r) : FnOk Try.prog 66 [(ag [v0_0, v0_1, (int .i64 a0.Base)])] [(fDat (tyList tyStr) [v0_0] a0.Texts), (fDat (tyList tyBool) [v0_1] a0.Had)] [] (fun (i : Unit) => { val := (int .i64 r) }) := by
 unfold f_line_checkSender at h
 refine fn_enter Try.func66 rfl Try.ntmps66 rfl (fun w0 Z0 => ?_)
 refine aw_sr ?_
 refine al_box (vs := [v0_0, v0_1, (iq a0.Base)]) rfl (cv_rfl rfl) rfl (fun g1 => ?_)
 refine al_as rfl rfl ?_
 refine al_nt ?_
 refine aw_seq ?_
 obtain ⟨kk3, hkk3, h⟩ := lt_some h
 refine aw_seq_join (ι := Bool) (fun i => (memOf w0 Z0 [] [(oBox g1 58 [v0_0, v0_1, (iq a0.Base)])] [(fDat (tyList tyStr) [v0_0] a0.Texts), (fDat (tyList tyBool) [v0_1] a0.Had)])) (fun i => (tab [(1, (pq g1)), (30, (bool i))])) (fun i => kk3 i = some r) ?_ ?_
 ·rintro j2b30 h
  have h : kk3 j2b30 = some r := h
  rw [hkk3] at h
  dsimp only at h
  clear hkk3
  refine aw_show (m := (memOf w0 Z0 [] [(oBox g1 58 [v0_0, v0_1, (iq a0.Base)])] [(fDat (tyList tyStr) [v0_0] a0.Texts), (fDat (tyList tyBool) [v0_1] a0.Had)])) (S := (tab [(1, (pq g1)), (30, (bool j2b30))])) ?_
  refine aw_cond rfl (fun hb4 => ?_) (fun hb4 => ?_)
  ·replace h := bif_t hb4 h
   refine aw_sr ?_
   refine al_as rfl rfl ?_
   refine al_nt ?_
   refine aw_ret ?_
   refine aq_then_ret ?_
   obtain rfl := Option.some.inj h
   exact fn_ret () [] [] rfl rfl rfl rfl (res1 rfl rfl) rfl rfl rfl (by decide)
  ·replace h := bif_f hb4 h
   refine aw_skip ?_
   refine aq_then ?_
   obtain ⟨kk6, hkk6, h⟩ := lt_some h
   refine aw_seq_join (ι := Unit) (fun i => (memOf w0 Z0 [] [] [(fDat (tyList tyStr) [v0_0] a0.Texts), (fDat (tyList tyBool) [v0_1] a0.Had)])) (fun i => (tab [])) (fun i => kk6 () = some r) ?_ ?_
   ·rintro _ h
    have h : kk6 () = some r := h
    rw [hkk6] at h
    dsimp only at h
    clear hkk6
    refine aw_show (m := (memOf w0 Z0 [] [] [(fDat (tyList tyStr) [v0_0] a0.Texts), (fDat (tyList tyBool) [v0_1] a0.Had)])) (S := (tab [])) ?_
    refine aw_sr ?_
    refine al_as rfl rfl ?_
    refine al_nt ?_
    refine aw_ret ?_
    obtain rfl := Option.some.inj h
    exact fn_ret () [] [] rfl rfl rfl rfl (res1 rfl rfl) rfl rfl rfl (by decide)
   ·clear hkk6
    refine aw_sr ?_
    refine al_val (ov_fieldA (p := 0) rfl Try.underlying58 rfl sz23 rfl rfl rfl) ?_
    refine al_val (ov_load (i := 0) (v := v0_0) rfl rfl Try.underlying23 sz23 rfl rfl rfl rfl) ?_
    refine al_val (ov_lenD 0 rfl rfl Try.underlying23 rfl) ?_
    refine al_mv rfl rfl ?_
    refine al_nt ?_
    refine aw_block ?_
    refine aw_state (aw_loop (ι := Int) (fun i => (memOf w0 Z0 [] [(oBox g1 58 [v0_0, v0_1, (iq a0.Base)])] [(fDat (tyList tyStr) [v0_0] a0.Texts), (fDat (tyList tyBool) [v0_1] a0.Had)])) (fun i => (tab [(1, (pq g1)), (32, v0_0), (33, (iq (a0.Texts.length : Int))), (34, (iq i))])) (fun q i => f_line_checkSender_L9 a0 kk6 q i = some r) ?_ fu (0 : Int) h) (fun w a hm hs => norm hm hs [0] [0, 1] [(1, (pq g1)), (32, v0_0), (33, (iq (a0.Texts.length : Int))), (34, (iq (0 : Int)))] (by decide) ⟨rfl, rfl, rfl, rfl, trivial⟩)
    clear h
    rintro k8 l7i34 h
    have h : f_line_checkSender_L9 a0 kk6 k8 l7i34 = some r := h
    obtain _ | k8 := k8
    · rw [f_line_checkSender_L9] at h; cases h
    rw [f_line_checkSender_L9] at h
    refine aw_show (m := (memOf w0 Z0 [] [(oBox g1 58 [v0_0, v0_1, (iq a0.Base)])] [(fDat (tyList tyStr) [v0_0] a0.Texts), (fDat (tyList tyBool) [v0_1] a0.Had)])) (S := (tab [(1, (pq g1)), (32, v0_0), (33, (iq (a0.Texts.length : Int))), (34, (iq l7i34))])) ?_
    refine aw_sr ?_
    refine al_in rfl rfl rfl rfl ?_
    refine al_nt ?_
    refine aw_seq ?_
    refine aw_cond rfl (fun hb10 => ?_) (fun hb10 => ?_)
    ·replace h := bif_t hb10 h
     refine aw_skip ?_
     refine aq_then ?_
     refine aw_seq ?_
     refine aw_block ?_
     refine aw_sr ?_
     refine al_mv rfl rfl ?_
     obtain ⟨u11, hu12, h⟩ := opt_some h
     refine al_idxD 0 hu12 rfl rfl rfl Try.underlying23 sz9 rfl (fun p13 => ?_)
     refine al_val (ov_loadP (ds := [(str u11)]) 0 rfl (fun h => h) rfl Try.underlying9 sz9 rfl rfl rfl) ?_
     refine al_as rfl rfl ?_
     refine al_as rfl rfl ?_
     refine al_nt ?_
     refine aw_seq ?_
     refine aw_sr ?_
     refine al_mv rfl rfl ?_
     refine al_val (ov_strLen Try.underlying9 rfl rfl) ?_
     refine al_in rfl rfl rfl rfl ?_
     refine al_nt ?_
     refine aw_cond rfl (fun hb14 => ?_) (fun hb14 => ?_)
     ·replace h := bif_t hb14 h
      refine aw_sr ?_
      refine al_as rfl rfl ?_
      refine al_nt ?_
      refine aw_ret ?_
      refine aq_then_ret ?_
      refine aq_block_ret ?_
      refine aq_then_ret ?_
      refine aq_then_ret ?_
      refine aq_block_ret ?_
      refine aq_then_ret ?_
      obtain rfl := Option.some.inj h
      exact fn_ret () [] [] rfl rfl rfl rfl (res1 rfl rfl) rfl rfl rfl (by decide)
     ·replace h := bif_f hb14 h
      refine aw_skip ?_
      refine aq_then ?_
      obtain ⟨kk16, hkk16, h⟩ := lt_some h
      refine aw_seq_join (ι := Bool) (fun i => (memOf w0 Z0 [] [(oBox g1 58 [v0_0, v0_1, (iq a0.Base)])] [(fDat (tyList tyStr) [v0_0] a0.Texts), (fDat (tyList tyBool) [v0_1] a0.Had), (fPtr tyStr p13 u11)])) (fun i => (tab [(1, (pq g1)), (32, v0_0), (33, (iq (a0.Texts.length : Int))), (34, (iq l7i34)), (53, (bool i))])) (fun i => kk16 i = some r) ?_ ?_
      ·rintro j15b53 h
       have h : kk16 j15b53 = some r := h
       rw [hkk16] at h
       dsimp only at h
       clear hkk16
       refine aw_show (m := (memOf w0 Z0 [] [(oBox g1 58 [v0_0, v0_1, (iq a0.Base)])] [(fDat (tyList tyStr) [v0_0] a0.Texts), (fDat (tyList tyBool) [v0_1] a0.Had), (fPtr tyStr p13 u11)])) (S := (tab [(1, (pq g1)), (32, v0_0), (33, (iq (a0.Texts.length : Int))), (34, (iq l7i34)), (53, (bool j15b53))])) ?_
       refine aw_cond rfl (fun hb17 => ?_) (fun hb17 => ?_)
       ·replace h := bif_t hb17 h
        refine aw_sr ?_
        refine al_as rfl rfl ?_
        refine al_nt ?_
        refine aw_ret ?_
        refine aq_block_ret ?_
        refine aq_then_ret ?_
        refine aq_then_ret ?_
        refine aq_block_ret ?_
        refine aq_then_ret ?_
        obtain rfl := Option.some.inj h
        exact fn_ret () [] [] rfl rfl rfl rfl (res1 rfl rfl) rfl rfl rfl (by decide)
       ·replace h := bif_f hb17 h
        refine aw_skip ?_
        refine aq_block ?_
        refine aq_then ?_
        refine aw_region ?_
        refine al_in rfl rfl rfl rfl ?_
        refine al_mv rfl rfl ?_
        refine al_nil ?_
        exact aq_again k8 (wq (l7i34 + (1 : Int))) (Nat.lt_succ_self _) h (fun w a hm hs => norm hm hs [0] [0, 1] [(1, (pq g1)), (32, v0_0), (33, (iq (a0.Texts.length : Int))), (34, (iq (wq (l7i34 + (1 : Int)))))] (by decide) ⟨rfl, rfl, rfl, rfl, trivial⟩)
      ·clear hkk16
       refine aw_region ?_
       refine al_mv rfl rfl ?_
       refine al_val (ov_fieldA (p := 2) rfl Try.underlying58 rfl sz3 rfl rfl rfl) ?_
       refine al_val (ov_load (i := 0) (v := (iq a0.Base)) rfl rfl Try.underlying3 sz3 rfl rfl rfl rfl) ?_
       refine al_in rfl rfl rfl rfl ?_
       refine al_mv rfl rfl ?_
       refine al_caseB 46 rfl (fun hb18 => ?_) (fun hb18 => ?_)
       ·replace h := bif_t hb18 h
        refine al_val (ov_fieldA (p := 1) rfl Try.underlying58 rfl sz56 rfl rfl rfl) ?_
        refine al_val (ov_load (i := 0) (v := v0_1) rfl rfl Try.underlying56 sz56 rfl rfl rfl rfl) ?_
        refine al_mv rfl rfl ?_
        obtain ⟨u19, hu20, h⟩ := opt_some h
        refine al_idxD 2 hu20 rfl rfl rfl Try.underlying56 sz4 rfl (fun p21 => ?_)
        refine al_val (ov_loadP (ds := [(bool u19)]) 0 rfl (fun h => h) rfl Try.underlying4 sz4 rfl rfl rfl) ?_
        refine al_val (ov_not rfl rfl) ?_
        refine al_val (ov_pick_t rfl rfl rfl) ?_
        refine al_nil ?_
        exact aq_join (!u19) h (fun w a hm hs => norm hm hs [0] [2, 3, 1] [(1, (pq g1)), (32, v0_0), (33, (iq (a0.Texts.length : Int))), (34, (iq l7i34)), (53, (bool (!u19)))] (by decide) ⟨rfl, rfl, rfl, rfl, rfl, trivial⟩)
       ·replace h := bif_f hb18 h
        refine al_skip ?_
        refine al_skip ?_
        refine al_skip ?_
        refine al_skip ?_
        refine al_skip ?_
        refine al_skip ?_
        refine al_val (ov_pick_f rfl rfl rfl) ?_
        refine al_nil ?_
        exact aq_join false h (fun w a hm hs => norm hm hs [0] [1, 2, 0] [(1, (pq g1)), (32, v0_0), (33, (iq (a0.Texts.length : Int))), (34, (iq l7i34)), (53, (bool false))] (by decide) ⟨rfl, rfl, rfl, rfl, rfl, trivial⟩)
    ·replace h := bif_f hb10 h
     refine aw_exit ?_
     refine aq_then_exit ?_
     refine aq_then_exit ?_
     refine aq_block_exit ?_
     exact aq_join () h (fun w a hm hs => norm hm hs [] [0, 1] [] (by decide) trivial)
 ·clear hkk3
  refine aw_region ?_
  refine al_val (ov_fieldA (p := 0) rfl Try.underlying58 rfl sz23 rfl rfl rfl) ?_
  refine al_val (ov_load (i := 0) (v := v0_0) rfl rfl Try.underlying23 sz23 rfl rfl rfl rfl) ?_
  refine al_val (ov_lenD 0 rfl rfl Try.underlying23 rfl) ?_
  refine al_in rfl rfl rfl rfl ?_
  refine al_mv rfl rfl ?_
  refine al_caseB 9 rfl (fun hb22 => ?_) (fun hb22 => ?_)
  ·replace h := bif_t hb22 h
   refine al_skip ?_
   refine al_skip ?_
   refine al_skip ?_
   refine al_skip ?_
   refine al_skip ?_
   refine al_skip ?_
   refine al_skip ?_
   refine al_val (ov_pick_t rfl rfl rfl) ?_
   refine al_mv rfl rfl ?_
   refine al_skip ?_
   refine al_skip ?_
   refine al_skip ?_
   refine al_val (ov_pick_t rfl rfl rfl) ?_
   refine al_mv rfl rfl ?_
   refine al_skip ?_
   refine al_skip ?_
   refine al_skip ?_
   refine al_skip ?_
   refine al_skip ?_
   refine al_skip ?_
   refine al_val (ov_pick_t rfl rfl rfl) ?_
   refine al_nil ?_
   exact aq_join true h (fun w a hm hs => norm hm hs [0] [0, 1] [(1, (pq g1)), (30, (bool true))] (by decide) ⟨rfl, rfl, trivial⟩)
  ·replace h := bif_f hb22 h
   refine al_val (ov_fieldA (p := 1) rfl Try.underlying58 rfl sz56 rfl rfl rfl) ?_
   refine al_val (ov_load (i := 0) (v := v0_1) rfl rfl Try.underlying56 sz56 rfl rfl rfl rfl) ?_
   refine al_val (ov_lenD 1 rfl rfl Try.underlying56 rfl) ?_
   refine al_val (ov_fieldA (p := 0) rfl Try.underlying58 rfl sz23 rfl rfl rfl) ?_
   refine al_val (ov_load (i := 0) (v := v0_0) rfl rfl Try.underlying23 sz23 rfl rfl rfl rfl) ?_
   refine al_val (ov_lenD 0 rfl rfl Try.underlying23 rfl) ?_
   refine al_in rfl rfl rfl rfl ?_
   refine al_val (ov_pick_f rfl rfl rfl) ?_
   refine al_mv rfl rfl ?_
   refine al_caseB 18 rfl (fun hb23 => ?_) (fun hb23 => ?_)
   ·replace h := bif_t hb23 h
    refine al_skip ?_
    refine al_skip ?_
    refine al_skip ?_
    refine al_val (ov_pick_t rfl rfl rfl) ?_
    refine al_mv rfl rfl ?_
    refine al_skip ?_
    refine al_skip ?_
    refine al_skip ?_
    refine al_skip ?_
    refine al_skip ?_
    refine al_skip ?_
    refine al_val (ov_pick_t rfl rfl rfl) ?_
    refine al_nil ?_
    exact aq_join true h (fun w a hm hs => norm hm hs [0] [0, 1] [(1, (pq g1)), (30, (bool true))] (by decide) ⟨rfl, rfl, trivial⟩)
   ·replace h := bif_f hb23 h
    refine al_val (ov_fieldA (p := 2) rfl Try.underlying58 rfl sz3 rfl rfl rfl) ?_
    refine al_val (ov_load (i := 0) (v := (iq a0.Base)) rfl rfl Try.underlying3 sz3 rfl rfl rfl rfl) ?_
    refine al_in rfl rfl rfl rfl ?_
    refine al_val (ov_pick_f rfl rfl rfl) ?_
    refine al_mv rfl rfl ?_
    refine al_caseB 23 rfl (fun hb24 => ?_) (fun hb24 => ?_)
    ·replace h := bif_t hb24 h
     refine al_skip ?_
     refine al_skip ?_
     refine al_skip ?_
     refine al_skip ?_
     refine al_skip ?_
     refine al_skip ?_
     refine al_val (ov_pick_t rfl rfl rfl) ?_
     refine al_nil ?_
     exact aq_join true h (fun w a hm hs => norm hm hs [0] [0, 1] [(1, (pq g1)), (30, (bool true))] (by decide) ⟨rfl, rfl, trivial⟩)
    ·replace h := bif_f hb24 h
     refine al_val (ov_fieldA (p := 2) rfl Try.underlying58 rfl sz3 rfl rfl rfl) ?_
     refine al_val (ov_load (i := 0) (v := (iq a0.Base)) rfl rfl Try.underlying3 sz3 rfl rfl rfl rfl) ?_
     refine al_val (ov_fieldA (p := 0) rfl Try.underlying58 rfl sz23 rfl rfl rfl) ?_
     refine al_val (ov_load (i := 0) (v := v0_0) rfl rfl Try.underlying23 sz23 rfl rfl rfl rfl) ?_
     refine al_val (ov_lenD 0 rfl rfl Try.underlying23 rfl) ?_
     refine al_in rfl rfl rfl rfl ?_
     refine al_val (ov_pick_f rfl rfl rfl) ?_
     refine al_nil ?_
     exact aq_join (decide (a0.Base > (a0.Texts.length : Int))) h (fun w a hm hs => norm hm hs [0] [0, 1] [(1, (pq g1)), (30, (bool (decide (a0.Base > (a0.Texts.length : Int)))))] (by decide) ⟨rfl, rfl, trivial⟩)
def f_line_Sends_L9 (a0 : S_api_Sender) (kk6 : ((List S_api_Packet) → Option ((List S_api_Packet) × Int))) : Nat → (List S_api_Packet) → Int → Option ((List S_api_Packet) × Int)
  | 0, _, _ => none
  | k8 + 1, l7x5, l7i6 => (bif (decide (l7i6 < (if (a0.Texts.length : Int) < (IntKind.i64.wrap (a0.Base + (8 : Int))) then (a0.Texts.length : Int) else (IntKind.i64.wrap (a0.Base + (8 : Int)))))) then (lt (fun (j11x5 : (List S_api_Packet)) => (f_line_Sends_L9 a0 kk6 k8 j11x5 (IntKind.i64.wrap (l7i6 + (1 : Int))))) fun (kk12 : (List S_api_Packet) → Option ((List S_api_Packet) × Int)) => (opt (at? a0.Had l7i6) fun (u13 : Bool) => (bif (!u13) then (opt (at? a0.Texts l7i6) fun (u17 : (List UInt8)) => (req (((l7x5.length + ([(S_api_Packet.mk (1 : Int) l7i6 u17)]).length) * 32 : Nat) ≤ 140737488355328 ∧ l7x5.length + ([(S_api_Packet.mk (1 : Int) l7i6 u17)]).length ≤ 9223372036854775807) (kk12 (l7x5 ++ ([(S_api_Packet.mk (1 : Int) l7i6 u17)]))))) else (kk12 l7x5)))) else (kk6 l7x5))
def f_line_Sends (fu : Nat) (a0 : S_api_Sender) : Option ((List S_api_Packet) × Int) := (opt (f_line_checkSender fu a0) fun (r3 : Int) => (bif (r3 != (0 : Int)) then (some (([] : List S_api_Packet), r3)) else (lt (fun (j5x5 : (List S_api_Packet)) => (some (j5x5, (0 : Int)))) fun (kk6 : (List S_api_Packet) → Option ((List S_api_Packet) × Int)) => (f_line_Sends_L9 a0 kk6 fu ([] : List S_api_Packet) a0.Base))))
set_option maxHeartbeats 2000000 in
set_option maxRecDepth 100000 in
theorem f_line_Sends_ok (fu : Nat) (v0_0 : Value) (v0_1 : Value) (a0 : S_api_Sender) {r : ((List S_api_Packet) × Int)} (h : f_line_Sends fu a0 = some r) : FnOk Try.prog 22 [(ag [v0_0, v0_1, (int .i64 a0.Base)])] [(fDat (tyList tyStr) [v0_0] a0.Texts), (fDat (tyList tyBool) [v0_1] a0.Had)] [] (fun (i : Value) => { val := (Value.tuple #[i, (int .i64 r.2)]), own := [(oRow i 63 tyS_api_Packet r.1)] }) := by
 unfold f_line_Sends at h
 refine fn_enter Try.func22 rfl Try.ntmps22 rfl (fun w0 Z0 => ?_)
 refine aw_sr ?_
 refine al_box (vs := [v0_0, v0_1, (iq a0.Base)]) rfl (cv_rfl rfl) rfl (fun g1 => ?_)
 refine al_as rfl rfl ?_
 refine al_as rfl rfl ?_
 refine al_nt ?_
 refine aw_seq ?_
 refine aw_sr ?_
 refine al_val (ov_load (i := 0) (v := (ag [v0_0, v0_1, (iq a0.Base)])) rfl rfl Try.underlying58 sz58 rfl rfl rfl rfl) ?_
 obtain ⟨r3, hc2, h⟩ := opt_some h
 refine al_call (vs := [(ag [v0_0, v0_1, (iq a0.Base)])]) (f_line_checkSender_ok fu v0_0 v0_1 a0 hc2) [] [] [0] (pre_fz 0 rfl (pre_fz 1 rfl pre_nil)) rfl (by simp) (by decide) (.inl rfl) rfl Try.func66 rfl rfl rfl (fun _ => ?_)
 refine al_as rfl rfl ?_
 refine al_nt ?_
 refine aw_sr ?_
 refine al_mv rfl rfl ?_
 refine al_in rfl rfl rfl rfl ?_
 refine al_nt ?_
 refine aw_cond rfl (fun hb4 => ?_) (fun hb4 => ?_)
 ·replace h := bif_t hb4 h
  refine aw_sr ?_
  refine al_mv rfl rfl ?_
  refine al_as rfl rfl ?_
  refine al_as rfl rfl ?_
  refine al_nt ?_
  refine aw_ret ?_
  refine aq_then_ret ?_
  refine aq_nilR 63 tyS_api_Packet ?_
  obtain rfl := Option.some.inj h
  exact fn_ret nS [0] [] rfl rfl rfl rfl (res2 rfl rfl rfl) rfl rfl rfl (by decide)
 ·replace h := bif_f hb4 h
  refine aw_skip ?_
  refine aq_tr ?_
  refine al_as rfl rfl ?_
  refine al_nt ?_
  obtain ⟨kk6, hkk6, h⟩ := lt_some h
  refine aw_seq_join (ι := Value × (List S_api_Packet)) (fun i => (memOf w0 Z0 [] [(oRow i.1 63 tyS_api_Packet i.2)] [(fDat (tyList tyStr) [v0_0] a0.Texts), (fDat (tyList tyBool) [v0_1] a0.Had)])) (fun i => (tab [(5, i.1)])) (fun i => kk6 i.2 = some r) ?_ ?_
  ·rintro ⟨j5v5, j5x5⟩ h
   have h : kk6 j5x5 = some r := h
   rw [hkk6] at h
   dsimp only at h
   clear hkk6
   refine aw_show (m := (memOf w0 Z0 [] [(oRow j5v5 63 tyS_api_Packet j5x5)] [(fDat (tyList tyStr) [v0_0] a0.Texts), (fDat (tyList tyBool) [v0_1] a0.Had)])) (S := (tab [(5, j5v5)])) ?_
   refine aw_sr ?_
   refine al_mv rfl rfl ?_
   refine al_as rfl rfl ?_
   refine al_as rfl rfl ?_
   refine al_nt ?_
   refine aw_ret ?_
   obtain rfl := Option.some.inj h
   exact fn_ret j5v5 [0] [] rfl rfl rfl rfl (res2 rfl rfl rfl) rfl rfl rfl (by decide)
  ·clear hkk6
   refine aw_sr ?_
   refine al_val (ov_fieldA (p := 2) rfl Try.underlying58 rfl sz3 rfl rfl rfl) ?_
   refine al_val (ov_load (i := 0) (v := (iq a0.Base)) rfl rfl Try.underlying3 sz3 rfl rfl rfl rfl) ?_
   refine al_as rfl rfl ?_
   refine al_nt ?_
   refine aw_block ?_
   refine aw_nilR 63 tyS_api_Packet ?_
   refine aw_state (aw_loop (ι := Value × (List S_api_Packet) × Int) (fun i => (memOf w0 Z0 [] [(oBox g1 58 [v0_0, v0_1, (iq a0.Base)]), (oRow i.1 63 tyS_api_Packet i.2.1)] [(fDat (tyList tyStr) [v0_0] a0.Texts), (fDat (tyList tyBool) [v0_1] a0.Had)])) (fun i => (tab [(1, (pq g1)), (5, i.1), (6, (iq i.2.2))])) (fun q i => f_line_Sends_L9 a0 kk6 q i.2.1 i.2.2 = some r) ?_ fu (nS, ([] : List S_api_Packet), a0.Base) h) (fun w a hm hs => norm hm hs [1, 0] [0, 1] [(1, (pq g1)), (5, nS), (6, (iq a0.Base))] (by decide) ⟨rfl, rfl, rfl, trivial⟩)
   clear h
   rintro k8 ⟨l7v5, l7x5, l7i6⟩ h
   have h : f_line_Sends_L9 a0 kk6 k8 l7x5 l7i6 = some r := h
   obtain _ | k8 := k8
   · rw [f_line_Sends_L9] at h; cases h
   rw [f_line_Sends_L9] at h
   refine aw_show (m := (memOf w0 Z0 [] [(oBox g1 58 [v0_0, v0_1, (iq a0.Base)]), (oRow l7v5 63 tyS_api_Packet l7x5)] [(fDat (tyList tyStr) [v0_0] a0.Texts), (fDat (tyList tyBool) [v0_1] a0.Had)])) (S := (tab [(1, (pq g1)), (5, l7v5), (6, (iq l7i6))])) ?_
   refine aw_seq ?_
   refine aw_sr ?_
   refine al_mv rfl rfl ?_
   refine al_val (ov_fieldA (p := 2) rfl Try.underlying58 rfl sz3 rfl rfl rfl) ?_
   refine al_val (ov_load (i := 0) (v := (iq a0.Base)) rfl rfl Try.underlying3 sz3 rfl rfl rfl rfl) ?_
   refine al_in rfl rfl rfl rfl ?_
   refine al_val (ov_fieldA (p := 0) rfl Try.underlying58 rfl sz23 rfl rfl rfl) ?_
   refine al_val (ov_load (i := 0) (v := v0_0) rfl rfl Try.underlying23 sz23 rfl rfl rfl rfl) ?_
   refine al_val (ov_lenD 0 rfl rfl Try.underlying23 rfl) ?_
   refine al_val (ov_min rfl rfl rfl) ?_
   refine al_in rfl rfl rfl rfl ?_
   refine al_nt ?_
   refine aw_cond rfl (fun hb10 => ?_) (fun hb10 => ?_)
   ·replace h := bif_t hb10 h
    refine aw_skip ?_
    refine aq_then ?_
    obtain ⟨kk12, hkk12, h⟩ := lt_some h
    refine aw_seq_join (ι := Value × (List S_api_Packet)) (fun i => (memOf w0 Z0 [] [(oBox g1 58 [v0_0, v0_1, (iq a0.Base)]), (oRow i.1 63 tyS_api_Packet i.2)] [(fDat (tyList tyStr) [v0_0] a0.Texts), (fDat (tyList tyBool) [v0_1] a0.Had)])) (fun i => (tab [(1, (pq g1)), (5, i.1), (6, (iq l7i6))])) (fun i => kk12 i.2 = some r) ?_ ?_
    ·rintro ⟨j11v5, j11x5⟩ h
     have h : kk12 j11x5 = some r := h
     rw [hkk12] at h
     dsimp only at h
     clear hkk12
     refine aw_show (m := (memOf w0 Z0 [] [(oBox g1 58 [v0_0, v0_1, (iq a0.Base)]), (oRow j11v5 63 tyS_api_Packet j11x5)] [(fDat (tyList tyStr) [v0_0] a0.Texts), (fDat (tyList tyBool) [v0_1] a0.Had)])) (S := (tab [(1, (pq g1)), (5, j11v5), (6, (iq l7i6))])) ?_
     refine aw_region ?_
     refine al_mv rfl rfl ?_
     refine al_in rfl rfl rfl rfl ?_
     refine al_as rfl rfl ?_
     refine al_nil ?_
     exact aq_again k8 (j11v5, j11x5, (wq (l7i6 + (1 : Int)))) (Nat.lt_succ_self _) h (fun w a hm hs => norm hm hs [0, 1] [0, 1] [(1, (pq g1)), (5, j11v5), (6, (iq (wq (l7i6 + (1 : Int)))))] (by decide) ⟨rfl, rfl, rfl, trivial⟩)
    ·clear hkk12
     refine aw_block ?_
     refine aw_sr ?_
     refine al_val (ov_fieldA (p := 1) rfl Try.underlying58 rfl sz56 rfl rfl rfl) ?_
     refine al_val (ov_load (i := 0) (v := v0_1) rfl rfl Try.underlying56 sz56 rfl rfl rfl rfl) ?_
     refine al_mv rfl rfl ?_
     obtain ⟨u13, hu14, h⟩ := opt_some h
     refine al_idxD 1 hu14 rfl rfl rfl Try.underlying56 sz4 rfl (fun p15 => ?_)
     refine al_val (ov_loadP (ds := [(bool u13)]) 0 rfl (fun h => h) rfl Try.underlying4 sz4 rfl rfl rfl) ?_
     refine al_val (ov_not rfl rfl) ?_
     refine al_nt ?_
     refine aw_cond rfl (fun hb16 => ?_) (fun hb16 => ?_)
     ·replace h := bif_t hb16 h
      refine aw_region ?_
      refine al_mv rfl rfl ?_
      refine al_mv rfl rfl ?_
      refine al_val (ov_fieldA (p := 0) rfl Try.underlying58 rfl sz23 rfl rfl rfl) ?_
      refine al_val (ov_load (i := 0) (v := v0_0) rfl rfl Try.underlying23 sz23 rfl rfl rfl rfl) ?_
      refine al_mv rfl rfl ?_
      obtain ⟨u17, hu18, h⟩ := opt_some h
      refine al_idxD 1 hu18 rfl rfl rfl Try.underlying23 sz9 rfl (fun p19 => ?_)
      refine al_val (ov_loadP (ds := [(str u17)]) 0 rfl (fun h => h) rfl Try.underlying9 sz9 rfl rfl rfl) ?_
      refine al_val (ov_build (cells := ([(iq (1 : Int)), (iq l7i6), (str u17)]).toArray) (cs := [(iq (1 : Int)), (iq l7i6), (str u17)]) rfl (fun w a hm hs => by simp only [List.map_toArray, List.map_cons, List.map_nil, List.toList_toArray, hs.ev (x := .const (iq (1 : Int))) rfl, hs.ev (x := .tmp 32) rfl, hs.ev (x := .tmp 37) rfl]; kernel_rfl)) ?_
      refine al_buildSlice (τ := tyS_api_Packet) (e := 63) (k := 1) (sz := 0) (by_ := 0) (z := undef) (cs := [(iq (1 : Int)), (iq l7i6), (str u17)]) (xs := [(S_api_Packet.mk (1 : Int) l7i6 u17)]) rfl (by decide) (fun w a hm hs => ⟨([(iq (1 : Int)), (iq l7i6), (str u17)]).toArray, rfl, by simp only [List.map_toArray, List.map_cons, List.map_nil, hs.ev (x := .tmp 38) rfl]; exact run_bs [(ag [(iq (1 : Int)), (iq l7i6), (str u17)])] [(iq (1 : Int)), (iq l7i6), (str u17)] Try.underlying59 to63 rfl rfl (bs_cons (l := [(iq (1 : Int)), (iq l7i6), (str u17)]) (cs := []) (cv_rfl rfl) rfl bs_nil) hm⟩) (fun hm => ⟨_, _, rfl, (fun _ => mkS_api_Packet rfl) hm, rfl⟩) rfl (fun v20 => ?_)
      obtain ⟨hc21, h⟩ := req_some h
      refine al_append 2 hc21.1 hc21.2 rfl (src_own (i := 2) 0 rfl) rfl rfl Try.underlying59 to63 rfl rfl rfl (fun v22 => ?_)
      refine al_as rfl rfl ?_
      refine al_nil ?_
      refine aq_block ?_
      exact aq_join (v22, (l7x5 ++ ([(S_api_Packet.mk (1 : Int) l7i6 u17)]))) h (fun w a hm hs => norm hm hs [1, 2] [2, 3] [(1, (pq g1)), (5, v22), (6, (iq l7i6))] (by decide) ⟨rfl, rfl, rfl, trivial⟩)
     ·replace h := bif_f hb16 h
      refine aw_skip ?_
      refine aq_block ?_
      exact aq_join (l7v5, l7x5) h (fun w a hm hs => norm hm hs [0, 1] [1, 2] [(1, (pq g1)), (5, l7v5), (6, (iq l7i6))] (by decide) ⟨rfl, rfl, rfl, trivial⟩)
   ·replace h := bif_f hb10 h
    refine aw_exit ?_
    refine aq_then_exit ?_
    refine aq_then_exit ?_
    refine aq_block_exit ?_
    exact aq_join (l7v5, l7x5) h (fun w a hm hs => norm hm hs [1] [0, 1] [(5, l7v5)] (by decide) ⟨rfl, trivial⟩)
def f_slices_Clone___string_string_ (fu : Nat) (a0 : (List (List UInt8))) : Option (List (List UInt8)) := (amb (a0.isEmpty) (some ([] : List (List UInt8))) (req (((([] : List (List UInt8)).length + a0.length) * 16 : Nat) ≤ 140737488355328 ∧ ([] : List (List UInt8)).length + a0.length ≤ 9223372036854775807) (some (([] : List (List UInt8)) ++ a0))))
set_option maxHeartbeats 2000000 in
set_option maxRecDepth 100000 in
theorem f_slices_Clone___string_string__ok (fu : Nat) (v0_0 : Value) (a0 : (List (List UInt8))) {r : (List (List UInt8))} (h : f_slices_Clone___string_string_ fu a0 = some r) : FnOk Try.prog 67 [v0_0] [(fDat (tyList tyStr) [v0_0] a0)] [] (fun (i : Value) => { val := i, own := [(oRow i 9 tyStr r)] }) := by
 unfold f_slices_Clone___string_string_ at h
 refine fn_enter Try.func67 rfl Try.ntmps67 rfl (fun w0 Z0 => ?_)
 refine aw_sr ?_
 refine al_as rfl rfl ?_
 refine al_nt ?_
 refine aw_seq ?_
 refine aw_sr ?_
 refine al_mv rfl rfl ?_
 refine al_isNilD 0 rfl rfl rfl Try.underlying23 rfl (fun nb1 hn2 => ?_)
 refine al_nt ?_
 refine aw_cond rfl (fun hb3 => ?_) (fun hb3 => ?_)
 ·replace h := (amb_some h).2 (isEmpty_of (hn2 hb3))
  refine aw_sr ?_
  refine al_as rfl rfl ?_
  refine al_nt ?_
  refine aw_ret ?_
  refine aq_then_ret ?_
  refine aq_nilR 9 tyStr ?_
  obtain rfl := Option.some.inj h
  exact fn_ret nS [0] [] rfl rfl rfl rfl (res1 rfl rfl) rfl rfl rfl (by decide)
 ·replace h := (amb_some h).1
  refine aw_skip ?_
  refine aq_tr ?_
  refine al_buildSlice (τ := tyStr) (e := 9) (k := 0) (sz := 0) (by_ := 0) (z := undef) (cs := []) (xs := ([] : List (List UInt8))) rfl (by decide) (fun w a hm hs => ⟨([]).toArray, rfl, by simp only [List.map_toArray, List.map_cons, List.map_nil]; exact run_bs [] [] Try.underlying23 to9 rfl rfl bs_nil hm⟩) (fun hm => rfl) rfl (fun v4 => ?_)
  refine al_mv rfl rfl ?_
  obtain ⟨hc5, h⟩ := req_some h
  refine al_append 0 hc5.1 hc5.2 rfl (src_dat (i := 0) 0 rfl) rfl rfl Try.underlying23 to9 rfl rfl rfl (fun v6 => ?_)
  refine al_as rfl rfl ?_
  refine al_nt ?_
  refine aw_ret ?_
  obtain rfl := Option.some.inj h
  exact fn_ret v6 [0] [] rfl rfl rfl rfl (res1 rfl rfl) rfl rfl rfl (by decide)
def f_slices_Clone___bool_bool_ (fu : Nat) (a0 : (List Bool)) : Option (List Bool) := (amb (a0.isEmpty) (some ([] : List Bool)) (req (((([] : List Bool).length + a0.length) * 1 : Nat) ≤ 140737488355328 ∧ ([] : List Bool).length + a0.length ≤ 9223372036854775807) (some (([] : List Bool) ++ a0))))
set_option maxHeartbeats 2000000 in
set_option maxRecDepth 100000 in
theorem f_slices_Clone___bool_bool__ok (fu : Nat) (v0_0 : Value) (a0 : (List Bool)) {r : (List Bool)} (h : f_slices_Clone___bool_bool_ fu a0 = some r) : FnOk Try.prog 68 [v0_0] [(fDat (tyList tyBool) [v0_0] a0)] [] (fun (i : Value) => { val := i, own := [(oRow i 4 tyBool r)] }) := by
 unfold f_slices_Clone___bool_bool_ at h
 refine fn_enter Try.func68 rfl Try.ntmps68 rfl (fun w0 Z0 => ?_)
 refine aw_sr ?_
 refine al_as rfl rfl ?_
 refine al_nt ?_
 refine aw_seq ?_
 refine aw_sr ?_
 refine al_mv rfl rfl ?_
 refine al_isNilD 0 rfl rfl rfl Try.underlying56 rfl (fun nb1 hn2 => ?_)
 refine al_nt ?_
 refine aw_cond rfl (fun hb3 => ?_) (fun hb3 => ?_)
 ·replace h := (amb_some h).2 (isEmpty_of (hn2 hb3))
  refine aw_sr ?_
  refine al_as rfl rfl ?_
  refine al_nt ?_
  refine aw_ret ?_
  refine aq_then_ret ?_
  refine aq_nilR 4 tyBool ?_
  obtain rfl := Option.some.inj h
  exact fn_ret nS [0] [] rfl rfl rfl rfl (res1 rfl rfl) rfl rfl rfl (by decide)
 ·replace h := (amb_some h).1
  refine aw_skip ?_
  refine aq_tr ?_
  refine al_buildSlice (τ := tyBool) (e := 4) (k := 0) (sz := 0) (by_ := 0) (z := undef) (cs := []) (xs := ([] : List Bool)) rfl (by decide) (fun w a hm hs => ⟨([]).toArray, rfl, by simp only [List.map_toArray, List.map_cons, List.map_nil]; exact run_bs [] [] Try.underlying56 to4 rfl rfl bs_nil hm⟩) (fun hm => rfl) rfl (fun v4 => ?_)
  refine al_mv rfl rfl ?_
  obtain ⟨hc5, h⟩ := req_some h
  refine al_append 0 hc5.1 hc5.2 rfl (src_dat (i := 0) 0 rfl) rfl rfl Try.underlying56 to4 rfl rfl rfl (fun v6 => ?_)
  refine al_as rfl rfl ?_
  refine al_nt ?_
  refine aw_ret ?_
  obtain rfl := Option.some.inj h
  exact fn_ret v6 [0] [] rfl rfl rfl rfl (res1 rfl rfl) rfl rfl rfl (by decide)
def f_line_Hears_L20 (j14x7_1 : (List Bool)) (kk17 : (Int → Option (S_api_Sender × Int))) : Nat → Int → Option (S_api_Sender × Int)
  | 0, _ => none
  | k19 + 1, l18i7_2 => (lt (fun (j21b57 : Bool) => (bif j21b57 then (f_line_Hears_L20 j14x7_1 kk17 k19 (IntKind.i64.wrap (l18i7_2 + (1 : Int)))) else (kk17 l18i7_2))) fun (kk22 : Bool → Option (S_api_Sender × Int)) => (bif (decide (l18i7_2 < (j14x7_1.length : Int))) then (opt (at? j14x7_1 l18i7_2) fun (u25 : Bool) => (kk22 u25)) else (kk22 false)))
def f_line_Hears (fu : Nat) (a0 : S_api_Sender) (a1 : S_api_Packet) : Option (S_api_Sender × Int) := (opt (f_line_checkSender fu a0) fun (r5 : Int) => (bif (r5 != (0 : Int)) then (some ((S_api_Sender.mk ([] : (List (List UInt8))) ([] : (List Bool)) (0 : Int)), r5)) else (opt (f_slices_Clone___string_string_ fu a0.Texts) fun (r9 : (List (List UInt8))) => (opt (f_slices_Clone___bool_bool_ fu a0.Had) fun (r12 : (List Bool)) => (lt (fun (j14x7_1 : (List Bool)) => (lt (fun (j16i7_2 : Int) => (some ((S_api_Sender.mk r9 j14x7_1 j16i7_2), (0 : Int)))) fun (kk17 : Int → Option (S_api_Sender × Int)) => (f_line_Hears_L20 j14x7_1 kk17 fu a0.Base))) fun (kk15 : (List Bool) → Option (S_api_Sender × Int)) => (lt (fun (j29b38 : Bool) => (bif j29b38 then (opt (at? r12 a1.Seq) fun (u32 : Bool) => (kk15 (r12.set (a1.Seq).toNat true))) else (kk15 r12))) fun (kk30 : Bool → Option (S_api_Sender × Int)) => (bif (a1.Kind == (2 : Int)) then (bif (decide (a1.Seq ≥ (0 : Int))) then (kk30 (decide (a1.Seq < (r12.length : Int)))) else (kk30 false)) else (kk30 false))))))))
set_option maxRecDepth 100000 in
set_option maxHeartbeats 2000000 in
set_option maxHeartbeats 2000000 in
theorem f_line_Hears_ok (fu : Nat) (v0_0 : Value) (v0_1 : Value) (a0 : S_api_Sender) (a1 : S_api_Packet) {r : (S_api_Sender × Int)} (h : f_line_Hears fu a0 a1 = some r) : FnOk Try.prog 23 [(ag [v0_0, v0_1, (int .i64 a0.Base)]), (ag [(int .i64 a1.Kind), (int .i64 a1.Seq), (str a1.Text)])] [(fDat (tyList tyStr) [v0_0] a0.Texts), (fDat (tyList tyBool) [v0_1] a0.Had)] [] (fun (i : Value × Value) => { val := (Value.tuple #[(ag [i.1, i.2, (int .i64 r.1.Base)]), (int .i64 r.2)]), fz := [(fDat (tyList tyStr) [i.1] r.1.Texts), (fDat (tyList tyBool) [i.2] r.1.Had)] }) := by
 unfold f_line_Hears at h
 refine fn_enter Try.func23 rfl Try.ntmps23 rfl (fun w0 Z0 => ?_)
 refine aw_sr ?_
 refine al_box (vs := [v0_0, v0_1, (iq a0.Base)]) rfl (cv_rfl rfl) rfl (fun g1 => ?_)
 refine al_box (vs := [(iq a1.Kind), (iq a1.Seq), (str a1.Text)]) rfl (cv_rfl rfl) rfl (fun g2 => ?_)
 refine al_alloc (zs := [nS, nS, (iq (0 : Int))]) (zeroOf_to to58) rfl rfl (fun g3 => ?_)
 refine al_as rfl rfl ?_
 refine al_nt ?_
 refine aw_seq ?_
 refine aw_sr ?_
 refine al_val (ov_load (i := 2) (v := (ag [v0_0, v0_1, (iq a0.Base)])) rfl rfl Try.underlying58 sz58 rfl rfl rfl rfl) ?_
 obtain ⟨r5, hc4, h⟩ := opt_some h
 refine al_call (vs := [(ag [v0_0, v0_1, (iq a0.Base)])]) (f_line_checkSender_ok fu v0_0 v0_1 a0 hc4) [] [] [0, 1, 2] (pre_fz 0 rfl (pre_fz 1 rfl pre_nil)) rfl (by simp) (by decide) (.inl rfl) rfl Try.func66 rfl rfl rfl (fun _ => ?_)
 refine al_as rfl rfl ?_
 refine al_nt ?_
 refine aw_sr ?_
 refine al_mv rfl rfl ?_
 refine al_in rfl rfl rfl rfl ?_
 refine al_nt ?_
 refine aw_cond rfl (fun hb6 => ?_) (fun hb6 => ?_)
 ·replace h := bif_t hb6 h
  refine aw_sr ?_
  refine al_val (ov_build (cells := ([nS, nS, (iq (0 : Int))]).toArray) (cs := [nS, nS, (iq (0 : Int))]) rfl (fun w a hm hs => by simp only [List.map_toArray, List.map_cons, List.map_nil, List.toList_toArray]; kernel_rfl)) ?_
  refine al_mv rfl rfl ?_
  refine al_store (i := 0) (vs := [nS, nS, (iq (0 : Int))]) (cs' := [nS, nS, (iq (0 : Int))]) rfl rfl rfl sz58 (cv_rfl rfl) rfl (co_val rfl (co_val rfl (co_val rfl co_nil))) (Nat.le_of_ble_eq_true rfl) rfl rfl ?_
  refine al_as rfl rfl ?_
  refine al_nt ?_
  refine aw_ret ?_
  refine aq_then_ret ?_
  refine aq_nilD tyStr ?_
  refine aq_nilD tyBool ?_
  obtain rfl := Option.some.inj h
  exact fn_ret (nS, nS) [] [1, 0] rfl rfl rfl rfl (resC rfl (resB (i := 0) rfl rfl Try.underlying58 sz58 rfl rfl rfl (resT rfl (resN))) rfl) rfl rfl rfl (by decide)
 ·replace h := bif_f hb6 h
  refine aw_skip ?_
  refine aq_then ?_
  refine aw_seq ?_
  refine aw_region_open [⟨0, 14, Unit, fun _ => { val := (pq g1) }⟩, ⟨1, 15, Unit, fun _ => { val := v0_0 }⟩, ⟨3, 17, Unit, fun _ => { val := (ptr g1 1) }⟩, ⟨4, 18, Unit, fun _ => { val := v0_1 }⟩, ⟨6, 20, Unit, fun _ => { val := (ptr g1 2) }⟩, ⟨7, 21, Unit, fun _ => { val := (iq a0.Base) }⟩, ⟨9, 7, Nat, fun (i : Nat) => { val := (pq i), own := [(oBox i 58 [nS, nS, (iq (0 : Int))])] }⟩] (tab [(2, (pq g1)), (3, (pq g2)), (4, (pq g3))]) mixed (fun a hs => hs.tab _ (allT_mem ⟨rfl, rfl, rfl, trivial⟩)) ?_
  refine ta_show (m := (memOf w0 Z0 [] [(oBox g3 58 [nS, nS, (iq (0 : Int))]), (oBox g2 63 [(iq a1.Kind), (iq a1.Seq), (str a1.Text)]), (oBox g1 58 [v0_0, v0_1, (iq a0.Base)])] [(fDat (tyList tyStr) [v0_0] a0.Texts), (fDat (tyList tyBool) [v0_1] a0.Had)])) (S := (tab [(2, (pq g1)), (3, (pq g2)), (4, (pq g3))])) ?_
  refine ta_step 2 _ [0, 1, 3, 4, 6, 7, 9] [14, 15, 17, 18, 20, 21, 7] [0, 1] [] [⟨0, 14, Unit, fun _ => { val := (pq g1) }⟩, ⟨1, 15, Unit, fun _ => { val := v0_0 }⟩] [⟨3, 17, Unit, fun _ => { val := (ptr g1 1) }⟩, ⟨4, 18, Unit, fun _ => { val := v0_1 }⟩, ⟨6, 20, Unit, fun _ => { val := (ptr g1 2) }⟩, ⟨7, 21, Unit, fun _ => { val := (iq a0.Base) }⟩, ⟨9, 7, Nat, fun (i : Nat) => { val := (pq i), own := [(oBox i 58 [nS, nS, (iq (0 : Int))])] }⟩] rfl rfl rfl (by kernel_rfl) rfl rfl rfl ⟨⟨_, rfl, [], rfl, by
 intro X_ Y_ F_ K_ hK_
 refine al_show (m := Mem.plus (memOf w0 Z0 [] [(oBox g3 58 [nS, nS, (iq (0 : Int))]), (oBox g2 63 [(iq a1.Kind), (iq a1.Seq), (str a1.Text)]), (oBox g1 58 [v0_0, v0_1, (iq a0.Base)])] [(fDat (tyList tyStr) [v0_0] a0.Texts), (fDat (tyList tyBool) [v0_1] a0.Had)]) X_ Y_) (S := over (tab [(2, (pq g1)), (3, (pq g2)), (4, (pq g3))]) F_) ?_
 refine al_val (ov_fieldA (p := 0) rfl Try.underlying58 rfl sz23 rfl rfl rfl) ?_
 refine al_nil ?_
 exact fr_fin hK_ ()⟩, ⟨_, rfl, [0], rfl, by
 intro _
 intro X_ Y_ F_ K_ hK_
 refine al_show (m := Mem.plus (memOf w0 Z0 [] [(oBox g3 58 [nS, nS, (iq (0 : Int))]), (oBox g2 63 [(iq a1.Kind), (iq a1.Seq), (str a1.Text)]), (oBox g1 58 [v0_0, v0_1, (iq a0.Base)])] [(fDat (tyList tyStr) [v0_0] a0.Texts), (fDat (tyList tyBool) [v0_1] a0.Had)]) X_ Y_) (S := over (put (tab [(2, (pq g1)), (3, (pq g2)), (4, (pq g3))]) 14 (pq g1)) F_) ?_
 refine al_val (ov_load (i := 2) (v := v0_0) rfl rfl Try.underlying23 sz23 rfl rfl rfl rfl) ?_
 refine al_nil ?_
 exact fr_fin hK_ ()⟩, ⟨_, rfl, [], rfl, by
 intro X_ Y_ F_ K_ hK_
 refine al_show (m := Mem.plus (memOf w0 Z0 [] [(oBox g3 58 [nS, nS, (iq (0 : Int))]), (oBox g2 63 [(iq a1.Kind), (iq a1.Seq), (str a1.Text)]), (oBox g1 58 [v0_0, v0_1, (iq a0.Base)])] [(fDat (tyList tyStr) [v0_0] a0.Texts), (fDat (tyList tyBool) [v0_1] a0.Had)]) X_ Y_) (S := over (tab [(2, (pq g1)), (3, (pq g2)), (4, (pq g3))]) F_) ?_
 refine al_val (ov_fieldA (p := 1) rfl Try.underlying58 rfl sz56 rfl rfl rfl) ?_
 refine al_nil ?_
 exact fr_fin hK_ ()⟩, ⟨_, rfl, [2], rfl, by
 intro _
 intro X_ Y_ F_ K_ hK_
 refine al_show (m := Mem.plus (memOf w0 Z0 [] [(oBox g3 58 [nS, nS, (iq (0 : Int))]), (oBox g2 63 [(iq a1.Kind), (iq a1.Seq), (str a1.Text)]), (oBox g1 58 [v0_0, v0_1, (iq a0.Base)])] [(fDat (tyList tyStr) [v0_0] a0.Texts), (fDat (tyList tyBool) [v0_1] a0.Had)]) X_ Y_) (S := over (put (tab [(2, (pq g1)), (3, (pq g2)), (4, (pq g3))]) 17 (ptr g1 1)) F_) ?_
 refine al_val (ov_load (i := 2) (v := v0_1) rfl rfl Try.underlying56 sz56 rfl rfl rfl rfl) ?_
 refine al_nil ?_
 exact fr_fin hK_ ()⟩, ⟨_, rfl, [], rfl, by
 intro X_ Y_ F_ K_ hK_
 refine al_show (m := Mem.plus (memOf w0 Z0 [] [(oBox g3 58 [nS, nS, (iq (0 : Int))]), (oBox g2 63 [(iq a1.Kind), (iq a1.Seq), (str a1.Text)]), (oBox g1 58 [v0_0, v0_1, (iq a0.Base)])] [(fDat (tyList tyStr) [v0_0] a0.Texts), (fDat (tyList tyBool) [v0_1] a0.Had)]) X_ Y_) (S := over (tab [(2, (pq g1)), (3, (pq g2)), (4, (pq g3))]) F_) ?_
 refine al_val (ov_fieldA (p := 2) rfl Try.underlying58 rfl sz3 rfl rfl rfl) ?_
 refine al_nil ?_
 exact fr_fin hK_ ()⟩, ⟨_, rfl, [4], rfl, by
 intro _
 intro X_ Y_ F_ K_ hK_
 refine al_show (m := Mem.plus (memOf w0 Z0 [] [(oBox g3 58 [nS, nS, (iq (0 : Int))]), (oBox g2 63 [(iq a1.Kind), (iq a1.Seq), (str a1.Text)]), (oBox g1 58 [v0_0, v0_1, (iq a0.Base)])] [(fDat (tyList tyStr) [v0_0] a0.Texts), (fDat (tyList tyBool) [v0_1] a0.Had)]) X_ Y_) (S := over (put (tab [(2, (pq g1)), (3, (pq g2)), (4, (pq g3))]) 20 (ptr g1 2)) F_) ?_
 refine al_val (ov_load (i := 2) (v := (iq a0.Base)) rfl rfl Try.underlying3 sz3 rfl rfl rfl rfl) ?_
 refine al_nil ?_
 exact fr_fin hK_ ()⟩, ⟨_, rfl, [], rfl, by
 intro X_ Y_ F_ K_ hK_
 refine al_show (m := Mem.plus (memOf w0 Z0 [] [(oBox g3 58 [nS, nS, (iq (0 : Int))]), (oBox g2 63 [(iq a1.Kind), (iq a1.Seq), (str a1.Text)]), (oBox g1 58 [v0_0, v0_1, (iq a0.Base)])] [(fDat (tyList tyStr) [v0_0] a0.Texts), (fDat (tyList tyBool) [v0_1] a0.Had)]) X_ Y_) (S := over (tab [(2, (pq g1)), (3, (pq g2)), (4, (pq g3))]) F_) ?_
 refine al_alloc (zs := [nS, nS, (iq (0 : Int))]) (zeroOf_to to58) rfl rfl (fun g7 => ?_)
 refine al_nil ?_
 exact fr_fin hK_ g7⟩, trivial⟩ ?_
  intro _
  intro _
  intro X_ Y_ F_ K_ hK_
  refine al_show (m := Mem.plus (memOf w0 Z0 [] [(oBox g3 58 [nS, nS, (iq (0 : Int))]), (oBox g2 63 [(iq a1.Kind), (iq a1.Seq), (str a1.Text)]), (oBox g1 58 [v0_0, v0_1, (iq a0.Base)])] [(fDat (tyList tyStr) [v0_0] a0.Texts), (fDat (tyList tyBool) [v0_1] a0.Had)]) X_ Y_) (S := over (put (put (tab [(2, (pq g1)), (3, (pq g2)), (4, (pq g3))]) 14 (pq g1)) 15 v0_0) F_) ?_
  obtain ⟨r9, hc8, h⟩ := opt_some h
  refine al_callX (vs := [v0_0]) (f_slices_Clone___string_string__ok fu v0_0 a0.Texts hc8) [] [] [0, 1, 2] (pre_fz 0 rfl pre_nil) rfl (by simp) (by decide) rfl (.inl rfl) rfl Try.func67 rfl rfl rfl (fun v10 => ?_)
  refine al_nil ?_
  refine aq_show (m := Mem.plus (memOf w0 Z0 [] [(oRow v10 9 tyStr r9), (oBox g3 58 [nS, nS, (iq (0 : Int))]), (oBox g2 63 [(iq a1.Kind), (iq a1.Seq), (str a1.Text)]), (oBox g1 58 [v0_0, v0_1, (iq a0.Base)])] [(fDat (tyList tyStr) [v0_0] a0.Texts), (fDat (tyList tyBool) [v0_1] a0.Had)]) X_ Y_) ?_
  refine aq_next hK_ [0, 1, 2, 3] [0, 1] [(2, (pq g1)), (3, (pq g2)), (4, (pq g3)), (16, v10)] [17, 18, 20, 21, 7] [] rfl rfl (by decide) rfl ⟨rfl, rfl, rfl, rfl, trivial⟩ ⟨rfl, rfl, rfl, rfl, rfl, trivial⟩ ?_
  clear hK_ K_ F_ X_ Y_
  refine ta_show (m := (memOf w0 Z0 [] [(oRow v10 9 tyStr r9), (oBox g3 58 [nS, nS, (iq (0 : Int))]), (oBox g2 63 [(iq a1.Kind), (iq a1.Seq), (str a1.Text)]), (oBox g1 58 [v0_0, v0_1, (iq a0.Base)])] [(fDat (tyList tyStr) [v0_0] a0.Texts), (fDat (tyList tyBool) [v0_1] a0.Had)])) (S := (tab [(2, (pq g1)), (3, (pq g2)), (4, (pq g3)), (16, v10)])) ?_
  refine ta_step 5 _ [3, 4, 6, 7, 9] [17, 18, 20, 21, 7] [3, 4] [8] [⟨3, 17, Unit, fun _ => { val := (ptr g1 1) }⟩, ⟨4, 18, Unit, fun _ => { val := v0_1 }⟩] [⟨6, 20, Unit, fun _ => { val := (ptr g1 2) }⟩, ⟨7, 21, Unit, fun _ => { val := (iq a0.Base) }⟩, ⟨9, 7, Nat, fun (i : Nat) => { val := (pq i), own := [(oBox i 58 [nS, nS, (iq (0 : Int))])] }⟩] rfl rfl rfl (by kernel_rfl) rfl rfl rfl ⟨⟨_, rfl, [], rfl, by
 intro X_ Y_ F_ K_ hK_
 refine al_show (m := Mem.plus (memOf w0 Z0 [] [(oRow v10 9 tyStr r9), (oBox g3 58 [nS, nS, (iq (0 : Int))]), (oBox g2 63 [(iq a1.Kind), (iq a1.Seq), (str a1.Text)]), (oBox g1 58 [v0_0, v0_1, (iq a0.Base)])] [(fDat (tyList tyStr) [v0_0] a0.Texts), (fDat (tyList tyBool) [v0_1] a0.Had)]) X_ Y_) (S := over (tab [(2, (pq g1)), (3, (pq g2)), (4, (pq g3)), (16, v10)]) F_) ?_
 refine al_val (ov_fieldA (p := 1) rfl Try.underlying58 rfl sz56 rfl rfl rfl) ?_
 refine al_nil ?_
 exact fr_fin hK_ ()⟩, ⟨_, rfl, [0], rfl, by
 intro _
 intro X_ Y_ F_ K_ hK_
 refine al_show (m := Mem.plus (memOf w0 Z0 [] [(oRow v10 9 tyStr r9), (oBox g3 58 [nS, nS, (iq (0 : Int))]), (oBox g2 63 [(iq a1.Kind), (iq a1.Seq), (str a1.Text)]), (oBox g1 58 [v0_0, v0_1, (iq a0.Base)])] [(fDat (tyList tyStr) [v0_0] a0.Texts), (fDat (tyList tyBool) [v0_1] a0.Had)]) X_ Y_) (S := over (put (tab [(2, (pq g1)), (3, (pq g2)), (4, (pq g3)), (16, v10)]) 17 (ptr g1 1)) F_) ?_
 refine al_val (ov_load (i := 3) (v := v0_1) rfl rfl Try.underlying56 sz56 rfl rfl rfl rfl) ?_
 refine al_nil ?_
 exact fr_fin hK_ ()⟩, ⟨_, rfl, [], rfl, by
 intro X_ Y_ F_ K_ hK_
 refine al_show (m := Mem.plus (memOf w0 Z0 [] [(oRow v10 9 tyStr r9), (oBox g3 58 [nS, nS, (iq (0 : Int))]), (oBox g2 63 [(iq a1.Kind), (iq a1.Seq), (str a1.Text)]), (oBox g1 58 [v0_0, v0_1, (iq a0.Base)])] [(fDat (tyList tyStr) [v0_0] a0.Texts), (fDat (tyList tyBool) [v0_1] a0.Had)]) X_ Y_) (S := over (tab [(2, (pq g1)), (3, (pq g2)), (4, (pq g3)), (16, v10)]) F_) ?_
 refine al_val (ov_fieldA (p := 2) rfl Try.underlying58 rfl sz3 rfl rfl rfl) ?_
 refine al_nil ?_
 exact fr_fin hK_ ()⟩, ⟨_, rfl, [2], rfl, by
 intro _
 intro X_ Y_ F_ K_ hK_
 refine al_show (m := Mem.plus (memOf w0 Z0 [] [(oRow v10 9 tyStr r9), (oBox g3 58 [nS, nS, (iq (0 : Int))]), (oBox g2 63 [(iq a1.Kind), (iq a1.Seq), (str a1.Text)]), (oBox g1 58 [v0_0, v0_1, (iq a0.Base)])] [(fDat (tyList tyStr) [v0_0] a0.Texts), (fDat (tyList tyBool) [v0_1] a0.Had)]) X_ Y_) (S := over (put (tab [(2, (pq g1)), (3, (pq g2)), (4, (pq g3)), (16, v10)]) 20 (ptr g1 2)) F_) ?_
 refine al_val (ov_load (i := 3) (v := (iq a0.Base)) rfl rfl Try.underlying3 sz3 rfl rfl rfl rfl) ?_
 refine al_nil ?_
 exact fr_fin hK_ ()⟩, ⟨_, rfl, [], rfl, by
 intro X_ Y_ F_ K_ hK_
 refine al_show (m := Mem.plus (memOf w0 Z0 [] [(oRow v10 9 tyStr r9), (oBox g3 58 [nS, nS, (iq (0 : Int))]), (oBox g2 63 [(iq a1.Kind), (iq a1.Seq), (str a1.Text)]), (oBox g1 58 [v0_0, v0_1, (iq a0.Base)])] [(fDat (tyList tyStr) [v0_0] a0.Texts), (fDat (tyList tyBool) [v0_1] a0.Had)]) X_ Y_) (S := over (tab [(2, (pq g1)), (3, (pq g2)), (4, (pq g3)), (16, v10)]) F_) ?_
 refine al_alloc (zs := [nS, nS, (iq (0 : Int))]) (zeroOf_to to58) rfl rfl (fun g7 => ?_)
 refine al_nil ?_
 exact fr_fin hK_ g7⟩, trivial⟩ ?_
  intro _
  intro _
  intro X_ Y_ F_ K_ hK_
  refine al_show (m := Mem.plus (memOf w0 Z0 [] [(oRow v10 9 tyStr r9), (oBox g3 58 [nS, nS, (iq (0 : Int))]), (oBox g2 63 [(iq a1.Kind), (iq a1.Seq), (str a1.Text)]), (oBox g1 58 [v0_0, v0_1, (iq a0.Base)])] [(fDat (tyList tyStr) [v0_0] a0.Texts), (fDat (tyList tyBool) [v0_1] a0.Had)]) X_ Y_) (S := over (put (put (tab [(2, (pq g1)), (3, (pq g2)), (4, (pq g3)), (16, v10)]) 17 (ptr g1 1)) 18 v0_1) F_) ?_
  obtain ⟨r12, hc11, h⟩ := opt_some h
  refine al_callX (vs := [v0_1]) (f_slices_Clone___bool_bool__ok fu v0_1 a0.Had hc11) [] [] [0, 1, 2, 3] (pre_fz 1 rfl pre_nil) rfl (by simp) (by decide) rfl (.inl rfl) rfl Try.func68 rfl rfl rfl (fun v13 => ?_)
  refine al_nil ?_
  refine aq_show (m := Mem.plus (memOf w0 Z0 [] [(oRow v13 4 tyBool r12), (oRow v10 9 tyStr r9), (oBox g3 58 [nS, nS, (iq (0 : Int))]), (oBox g2 63 [(iq a1.Kind), (iq a1.Seq), (str a1.Text)]), (oBox g1 58 [v0_0, v0_1, (iq a0.Base)])] [(fDat (tyList tyStr) [v0_0] a0.Texts), (fDat (tyList tyBool) [v0_1] a0.Had)]) X_ Y_) ?_
  refine aq_next hK_ [0, 1, 2, 3, 4] [0, 1] [(2, (pq g1)), (3, (pq g2)), (4, (pq g3)), (16, v10), (19, v13)] [20, 21, 7] [⟨8, 22, Unit, fun _ => { val := (ag [v10, v13, (iq a0.Base)]) }⟩] rfl rfl (by decide) rfl ⟨rfl, rfl, rfl, rfl, rfl, trivial⟩ ⟨rfl, rfl, rfl, trivial⟩ ?_
  clear hK_ K_ F_ X_ Y_
  refine ta_show (m := (memOf w0 Z0 [] [(oRow v13 4 tyBool r12), (oRow v10 9 tyStr r9), (oBox g3 58 [nS, nS, (iq (0 : Int))]), (oBox g2 63 [(iq a1.Kind), (iq a1.Seq), (str a1.Text)]), (oBox g1 58 [v0_0, v0_1, (iq a0.Base)])] [(fDat (tyList tyStr) [v0_0] a0.Texts), (fDat (tyList tyBool) [v0_1] a0.Had)])) (S := (tab [(2, (pq g1)), (3, (pq g2)), (4, (pq g3)), (16, v10), (19, v13)])) ?_
  refine ta_step 10 _ [6, 7, 9, 8] [20, 21, 7, 22] [6, 7, 9, 8] [] [⟨6, 20, Unit, fun _ => { val := (ptr g1 2) }⟩, ⟨7, 21, Unit, fun _ => { val := (iq a0.Base) }⟩, ⟨9, 7, Nat, fun (i : Nat) => { val := (pq i), own := [(oBox i 58 [nS, nS, (iq (0 : Int))])] }⟩, ⟨8, 22, Unit, fun _ => { val := (ag [v10, v13, (iq a0.Base)]) }⟩] [] rfl rfl rfl (by kernel_rfl) rfl rfl rfl ⟨⟨_, rfl, [], rfl, by
 intro X_ Y_ F_ K_ hK_
 refine al_show (m := Mem.plus (memOf w0 Z0 [] [(oRow v13 4 tyBool r12), (oRow v10 9 tyStr r9), (oBox g3 58 [nS, nS, (iq (0 : Int))]), (oBox g2 63 [(iq a1.Kind), (iq a1.Seq), (str a1.Text)]), (oBox g1 58 [v0_0, v0_1, (iq a0.Base)])] [(fDat (tyList tyStr) [v0_0] a0.Texts), (fDat (tyList tyBool) [v0_1] a0.Had)]) X_ Y_) (S := over (tab [(2, (pq g1)), (3, (pq g2)), (4, (pq g3)), (16, v10), (19, v13)]) F_) ?_
 refine al_val (ov_fieldA (p := 2) rfl Try.underlying58 rfl sz3 rfl rfl rfl) ?_
 refine al_nil ?_
 exact fr_fin hK_ ()⟩, ⟨_, rfl, [0], rfl, by
 intro _
 intro X_ Y_ F_ K_ hK_
 refine al_show (m := Mem.plus (memOf w0 Z0 [] [(oRow v13 4 tyBool r12), (oRow v10 9 tyStr r9), (oBox g3 58 [nS, nS, (iq (0 : Int))]), (oBox g2 63 [(iq a1.Kind), (iq a1.Seq), (str a1.Text)]), (oBox g1 58 [v0_0, v0_1, (iq a0.Base)])] [(fDat (tyList tyStr) [v0_0] a0.Texts), (fDat (tyList tyBool) [v0_1] a0.Had)]) X_ Y_) (S := over (put (tab [(2, (pq g1)), (3, (pq g2)), (4, (pq g3)), (16, v10), (19, v13)]) 20 (ptr g1 2)) F_) ?_
 refine al_val (ov_load (i := 4) (v := (iq a0.Base)) rfl rfl Try.underlying3 sz3 rfl rfl rfl rfl) ?_
 refine al_nil ?_
 exact fr_fin hK_ ()⟩, ⟨_, rfl, [], rfl, by
 intro X_ Y_ F_ K_ hK_
 refine al_show (m := Mem.plus (memOf w0 Z0 [] [(oRow v13 4 tyBool r12), (oRow v10 9 tyStr r9), (oBox g3 58 [nS, nS, (iq (0 : Int))]), (oBox g2 63 [(iq a1.Kind), (iq a1.Seq), (str a1.Text)]), (oBox g1 58 [v0_0, v0_1, (iq a0.Base)])] [(fDat (tyList tyStr) [v0_0] a0.Texts), (fDat (tyList tyBool) [v0_1] a0.Had)]) X_ Y_) (S := over (tab [(2, (pq g1)), (3, (pq g2)), (4, (pq g3)), (16, v10), (19, v13)]) F_) ?_
 refine al_alloc (zs := [nS, nS, (iq (0 : Int))]) (zeroOf_to to58) rfl rfl (fun g7 => ?_)
 refine al_nil ?_
 exact fr_fin hK_ g7⟩, ⟨_, rfl, [1], rfl, by
 intro _
 intro X_ Y_ F_ K_ hK_
 refine al_show (m := Mem.plus (memOf w0 Z0 [] [(oRow v13 4 tyBool r12), (oRow v10 9 tyStr r9), (oBox g3 58 [nS, nS, (iq (0 : Int))]), (oBox g2 63 [(iq a1.Kind), (iq a1.Seq), (str a1.Text)]), (oBox g1 58 [v0_0, v0_1, (iq a0.Base)])] [(fDat (tyList tyStr) [v0_0] a0.Texts), (fDat (tyList tyBool) [v0_1] a0.Had)]) X_ Y_) (S := over (put (tab [(2, (pq g1)), (3, (pq g2)), (4, (pq g3)), (16, v10), (19, v13)]) 21 (iq a0.Base)) F_) ?_
 refine al_val (ov_build (cells := ([v10, v13, (iq a0.Base)]).toArray) (cs := [v10, v13, (iq a0.Base)]) rfl (fun w a hm hs => by simp only [List.map_toArray, List.map_cons, List.map_nil, List.toList_toArray, hs.ev (x := .tmp 16) rfl, hs.ev (x := .tmp 19) rfl, hs.ev (x := .tmp 21) rfl]; obtain ⟨A0, l0, c0, e0⟩ := sl_own 1 rfl hm; rw [e0]; obtain ⟨A1, l1, c1, e1⟩ := sl_own 0 rfl hm; rw [e1]; kernel_rfl)) ?_
 refine al_nil ?_
 exact fr_fin hK_ ()⟩, trivial⟩ ?_
  intro _
  intro _
  intro g7
  intro _
  intro X_ Y_ F_ K_ hK_
  refine al_show (m := Mem.plus (memOf w0 Z0 [] [(oBox g7 58 [nS, nS, (iq (0 : Int))]), (oRow v13 4 tyBool r12), (oRow v10 9 tyStr r9), (oBox g3 58 [nS, nS, (iq (0 : Int))]), (oBox g2 63 [(iq a1.Kind), (iq a1.Seq), (str a1.Text)]), (oBox g1 58 [v0_0, v0_1, (iq a0.Base)])] [(fDat (tyList tyStr) [v0_0] a0.Texts), (fDat (tyList tyBool) [v0_1] a0.Had)]) X_ Y_) (S := over (put (put (put (put (tab [(2, (pq g1)), (3, (pq g2)), (4, (pq g3)), (16, v10), (19, v13)]) 20 (ptr g1 2)) 21 (iq a0.Base)) 7 (pq g7)) 22 (ag [v10, v13, (iq a0.Base)])) F_) ?_
  refine al_store (i := 0) (vs := [v10, v13, (iq a0.Base)]) (cs' := [v10, v13, (iq a0.Base)]) rfl rfl rfl sz58 (cv_rfl rfl) rfl (co_own 2 rfl (co_own 1 rfl (co_val rfl co_nil))) (Nat.le_of_ble_eq_true rfl) rfl rfl ?_
  refine al_nil ?_
  refine aq_show (m := Mem.plus (memOf w0 Z0 [] [(oBox g7 58 [v10, v13, (iq a0.Base)]), (oRow v13 4 tyBool r12), (oRow v10 9 tyStr r9), (oBox g3 58 [nS, nS, (iq (0 : Int))]), (oBox g2 63 [(iq a1.Kind), (iq a1.Seq), (str a1.Text)]), (oBox g1 58 [v0_0, v0_1, (iq a0.Base)])] [(fDat (tyList tyStr) [v0_0] a0.Texts), (fDat (tyList tyBool) [v0_1] a0.Had)]) X_ Y_) ?_
  refine aq_next hK_ [0, 1, 2, 3, 4, 5] [0, 1] [(3, (pq g2)), (4, (pq g3)), (7, (pq g7))] [] [] rfl rfl (by decide) rfl ⟨rfl, rfl, rfl, trivial⟩ trivial ?_
  clear hK_ K_ F_ X_ Y_
  refine ta_show (m := (memOf w0 Z0 [] [(oBox g7 58 [v10, v13, (iq a0.Base)]), (oRow v13 4 tyBool r12), (oRow v10 9 tyStr r9), (oBox g3 58 [nS, nS, (iq (0 : Int))]), (oBox g2 63 [(iq a1.Kind), (iq a1.Seq), (str a1.Text)]), (oBox g1 58 [v0_0, v0_1, (iq a0.Base)])] [(fDat (tyList tyStr) [v0_0] a0.Texts), (fDat (tyList tyBool) [v0_1] a0.Had)])) (S := (tab [(3, (pq g2)), (4, (pq g3)), (7, (pq g7))])) ?_
  refine ta_end [] [] rfl rfl (by kernel_rfl) rfl trivial ?_
  refine aq_show (m := (memOf w0 Z0 [] [(oBox g7 58 [v10, v13, (iq a0.Base)]), (oRow v13 4 tyBool r12), (oRow v10 9 tyStr r9), (oBox g3 58 [nS, nS, (iq (0 : Int))]), (oBox g2 63 [(iq a1.Kind), (iq a1.Seq), (str a1.Text)]), (oBox g1 58 [v0_0, v0_1, (iq a0.Base)])] [(fDat (tyList tyStr) [v0_0] a0.Texts), (fDat (tyList tyBool) [v0_1] a0.Had)])) (S := (tab [(3, (pq g2)), (4, (pq g3)), (7, (pq g7))])) ?_
  refine aq_then ?_
  obtain ⟨kk15, hkk15, h⟩ := lt_some h
  refine aw_seq_join (ι := (List Bool)) (fun i => (memOf w0 Z0 [] [(oBox g3 58 [nS, nS, (iq (0 : Int))]), (oRow v10 9 tyStr r9), (oRow v13 4 tyBool i), (oBox g7 58 [v10, v13, (iq a0.Base)])] [(fDat (tyList tyStr) [v0_0] a0.Texts), (fDat (tyList tyBool) [v0_1] a0.Had)])) (fun i => (tab [(4, (pq g3)), (7, (pq g7))])) (fun i => kk15 i = some r) ?_ ?_
  ·rintro j14x7_1 h
   have h : kk15 j14x7_1 = some r := h
   rw [hkk15] at h
   dsimp only at h
   clear hkk15
   refine aw_show (m := (memOf w0 Z0 [] [(oBox g3 58 [nS, nS, (iq (0 : Int))]), (oRow v10 9 tyStr r9), (oRow v13 4 tyBool j14x7_1), (oBox g7 58 [v10, v13, (iq a0.Base)])] [(fDat (tyList tyStr) [v0_0] a0.Texts), (fDat (tyList tyBool) [v0_1] a0.Had)])) (S := (tab [(4, (pq g3)), (7, (pq g7))])) ?_
   obtain ⟨kk17, hkk17, h⟩ := lt_some h
   refine aw_seq_join (ι := Int) (fun i => (memOf w0 Z0 [] [(oBox g3 58 [nS, nS, (iq (0 : Int))]), (oRow v10 9 tyStr r9), (oRow v13 4 tyBool j14x7_1), (oBox g7 58 [v10, v13, (iq i)])] [(fDat (tyList tyStr) [v0_0] a0.Texts), (fDat (tyList tyBool) [v0_1] a0.Had)])) (fun i => (tab [(4, (pq g3)), (7, (pq g7))])) (fun i => kk17 i = some r) ?_ ?_
   ·rintro j16i7_2 h
    have h : kk17 j16i7_2 = some r := h
    rw [hkk17] at h
    dsimp only at h
    clear hkk17
    refine aw_show (m := (memOf w0 Z0 [] [(oBox g3 58 [nS, nS, (iq (0 : Int))]), (oRow v10 9 tyStr r9), (oRow v13 4 tyBool j14x7_1), (oBox g7 58 [v10, v13, (iq j16i7_2)])] [(fDat (tyList tyStr) [v0_0] a0.Texts), (fDat (tyList tyBool) [v0_1] a0.Had)])) (S := (tab [(4, (pq g3)), (7, (pq g7))])) ?_
    refine aw_sr ?_
    refine al_val (ov_load (i := 3) (v := (ag [v10, v13, (iq j16i7_2)])) rfl rfl Try.underlying58 sz58 rfl rfl rfl rfl) ?_
    refine al_store (i := 0) (vs := [v10, v13, (iq j16i7_2)]) (cs' := [v10, v13, (iq j16i7_2)]) rfl rfl rfl sz58 (cv_rfl rfl) rfl (co_own 1 rfl (co_own 2 rfl (co_val rfl co_nil))) (Nat.le_of_ble_eq_true rfl) rfl rfl ?_
    refine al_as rfl rfl ?_
    refine al_nt ?_
    refine aw_ret ?_
    refine aq_freeze 1 rfl rfl ?_
    refine aq_freeze 1 rfl rfl ?_
    obtain rfl := Option.some.inj h
    exact fn_ret (v10, v13) [] [1, 0] rfl rfl rfl rfl (resC rfl (resB (i := 0) rfl rfl Try.underlying58 sz58 rfl rfl rfl (resT rfl (resN))) rfl) rfl rfl rfl (by decide)
   ·clear hkk17
    refine aw_block ?_
    refine aw_state (aw_loop (ι := Int) (fun i => (memOf w0 Z0 [] [(oBox g3 58 [nS, nS, (iq (0 : Int))]), (oRow v10 9 tyStr r9), (oRow v13 4 tyBool j14x7_1), (oBox g7 58 [v10, v13, (iq i)])] [(fDat (tyList tyStr) [v0_0] a0.Texts), (fDat (tyList tyBool) [v0_1] a0.Had)])) (fun i => (tab [(4, (pq g3)), (7, (pq g7))])) (fun q i => f_line_Hears_L20 j14x7_1 kk17 q i = some r) ?_ fu a0.Base h) (fun w a hm hs => norm hm hs [0, 1, 2, 3] [0, 1] [(4, (pq g3)), (7, (pq g7))] (by decide) ⟨rfl, rfl, trivial⟩)
    clear h
    rintro k19 l18i7_2 h
    have h : f_line_Hears_L20 j14x7_1 kk17 k19 l18i7_2 = some r := h
    obtain _ | k19 := k19
    · rw [f_line_Hears_L20] at h; cases h
    rw [f_line_Hears_L20] at h
    refine aw_show (m := (memOf w0 Z0 [] [(oBox g3 58 [nS, nS, (iq (0 : Int))]), (oRow v10 9 tyStr r9), (oRow v13 4 tyBool j14x7_1), (oBox g7 58 [v10, v13, (iq l18i7_2)])] [(fDat (tyList tyStr) [v0_0] a0.Texts), (fDat (tyList tyBool) [v0_1] a0.Had)])) (S := (tab [(4, (pq g3)), (7, (pq g7))])) ?_
    refine aw_seq ?_
    obtain ⟨kk22, hkk22, h⟩ := lt_some h
    refine aw_seq_join (ι := Bool) (fun i => (memOf w0 Z0 [] [(oBox g3 58 [nS, nS, (iq (0 : Int))]), (oRow v10 9 tyStr r9), (oRow v13 4 tyBool j14x7_1), (oBox g7 58 [v10, v13, (iq l18i7_2)])] [(fDat (tyList tyStr) [v0_0] a0.Texts), (fDat (tyList tyBool) [v0_1] a0.Had)])) (fun i => (tab [(4, (pq g3)), (7, (pq g7)), (57, (bool i))])) (fun i => kk22 i = some r) ?_ ?_
    ·rintro j21b57 h
     have h : kk22 j21b57 = some r := h
     rw [hkk22] at h
     dsimp only at h
     clear hkk22
     refine aw_show (m := (memOf w0 Z0 [] [(oBox g3 58 [nS, nS, (iq (0 : Int))]), (oRow v10 9 tyStr r9), (oRow v13 4 tyBool j14x7_1), (oBox g7 58 [v10, v13, (iq l18i7_2)])] [(fDat (tyList tyStr) [v0_0] a0.Texts), (fDat (tyList tyBool) [v0_1] a0.Had)])) (S := (tab [(4, (pq g3)), (7, (pq g7)), (57, (bool j21b57))])) ?_
     refine aw_cond rfl (fun hb23 => ?_) (fun hb23 => ?_)
     ·replace h := bif_t hb23 h
      refine aw_skip ?_
      refine aq_then ?_
      refine aw_block ?_
      refine aw_region ?_
      refine al_val (ov_fieldA (p := 2) rfl Try.underlying58 rfl sz3 rfl rfl rfl) ?_
      refine al_val (ov_load (i := 3) (v := (iq l18i7_2)) rfl rfl Try.underlying3 sz3 rfl rfl rfl rfl) ?_
      refine al_in rfl rfl rfl rfl ?_
      refine al_val (ov_fieldA (p := 2) rfl Try.underlying58 rfl sz3 rfl rfl rfl) ?_
      refine al_store (i := 3) (vs := [(iq (wq (l18i7_2 + (1 : Int))))]) (cs' := [v10, v13, (iq (wq (l18i7_2 + (1 : Int))))]) rfl rfl rfl sz3 (cv_rfl rfl) rfl (co_val rfl co_nil) (Nat.le_of_ble_eq_true rfl) rfl rfl ?_
      refine al_nil ?_
      refine aq_block ?_
      exact aq_again k19 (wq (l18i7_2 + (1 : Int))) (Nat.lt_succ_self _) h (fun w a hm hs => norm hm hs [0, 1, 2, 3] [0, 1] [(4, (pq g3)), (7, (pq g7))] (by decide) ⟨rfl, rfl, trivial⟩)
     ·replace h := bif_f hb23 h
      refine aw_exit ?_
      refine aq_then_exit ?_
      refine aq_then_exit ?_
      refine aq_block_exit ?_
      exact aq_join l18i7_2 h (fun w a hm hs => norm hm hs [0, 1, 2, 3] [0, 1] [(4, (pq g3)), (7, (pq g7))] (by decide) ⟨rfl, rfl, trivial⟩)
    ·clear hkk22
     refine aw_region ?_
     refine al_val (ov_fieldA (p := 2) rfl Try.underlying58 rfl sz3 rfl rfl rfl) ?_
     refine al_val (ov_load (i := 3) (v := (iq l18i7_2)) rfl rfl Try.underlying3 sz3 rfl rfl rfl rfl) ?_
     refine al_val (ov_fieldA (p := 1) rfl Try.underlying58 rfl sz56 rfl rfl rfl) ?_
     refine al_val (ov_load (i := 3) (v := v13) rfl rfl Try.underlying56 sz56 rfl rfl rfl rfl) ?_
     refine al_val (ov_lenR 2 rfl rfl Try.underlying56 rfl) ?_
     refine al_in rfl rfl rfl rfl ?_
     refine al_mv rfl rfl ?_
     refine al_caseB 50 rfl (fun hb24 => ?_) (fun hb24 => ?_)
     ·replace h := bif_t hb24 h
      refine al_val (ov_fieldA (p := 1) rfl Try.underlying58 rfl sz56 rfl rfl rfl) ?_
      refine al_val (ov_load (i := 3) (v := v13) rfl rfl Try.underlying56 sz56 rfl rfl rfl rfl) ?_
      refine al_val (ov_fieldA (p := 2) rfl Try.underlying58 rfl sz3 rfl rfl rfl) ?_
      refine al_val (ov_load (i := 3) (v := (iq l18i7_2)) rfl rfl Try.underlying3 sz3 rfl rfl rfl rfl) ?_
      obtain ⟨u25, hu26, h⟩ := opt_some h
      refine al_idxR 2 (at_some hu26).1 (at_some hu26).2.1 rfl rfl rfl Try.underlying56 sz4 rfl (fun p27 hp28 => ?_)
      refine al_val (ov_loadR (ds := [(bool u25)]) 2 rfl hp28 (at_some hu26).2.2 (fun h => h) rfl Try.underlying4 sz4 rfl rfl rfl) ?_
      refine al_val (ov_pick_t rfl rfl rfl) ?_
      refine al_nil ?_
      exact aq_join u25 h (fun w a hm hs => norm hm hs [0, 1, 2, 3] [0, 1] [(4, (pq g3)), (7, (pq g7)), (57, (bool u25))] (by decide) ⟨rfl, rfl, rfl, trivial⟩)
     ·replace h := bif_f hb24 h
      refine al_skip ?_
      refine al_skip ?_
      refine al_skip ?_
      refine al_skip ?_
      refine al_skip ?_
      refine al_skip ?_
      refine al_val (ov_pick_f rfl rfl rfl) ?_
      refine al_nil ?_
      exact aq_join false h (fun w a hm hs => norm hm hs [0, 1, 2, 3] [0, 1] [(4, (pq g3)), (7, (pq g7)), (57, (bool false))] (by decide) ⟨rfl, rfl, rfl, trivial⟩)
  ·clear hkk15
   obtain ⟨kk30, hkk30, h⟩ := lt_some h
   refine aw_seq_join (ι := Bool) (fun i => (memOf w0 Z0 [] [(oBox g2 63 [(iq a1.Kind), (iq a1.Seq), (str a1.Text)]), (oBox g3 58 [nS, nS, (iq (0 : Int))]), (oRow v10 9 tyStr r9), (oRow v13 4 tyBool r12), (oBox g7 58 [v10, v13, (iq a0.Base)])] [(fDat (tyList tyStr) [v0_0] a0.Texts), (fDat (tyList tyBool) [v0_1] a0.Had)])) (fun i => (tab [(3, (pq g2)), (4, (pq g3)), (7, (pq g7)), (38, (bool i))])) (fun i => kk30 i = some r) ?_ ?_
   ·rintro j29b38 h
    have h : kk30 j29b38 = some r := h
    rw [hkk30] at h
    dsimp only at h
    clear hkk30
    refine aw_show (m := (memOf w0 Z0 [] [(oBox g2 63 [(iq a1.Kind), (iq a1.Seq), (str a1.Text)]), (oBox g3 58 [nS, nS, (iq (0 : Int))]), (oRow v10 9 tyStr r9), (oRow v13 4 tyBool r12), (oBox g7 58 [v10, v13, (iq a0.Base)])] [(fDat (tyList tyStr) [v0_0] a0.Texts), (fDat (tyList tyBool) [v0_1] a0.Had)])) (S := (tab [(3, (pq g2)), (4, (pq g3)), (7, (pq g7)), (38, (bool j29b38))])) ?_
    refine aw_cond rfl (fun hb31 => ?_) (fun hb31 => ?_)
    ·replace h := bif_t hb31 h
     refine aw_region ?_
     refine al_val (ov_fieldA (p := 1) rfl Try.underlying58 rfl sz56 rfl rfl rfl) ?_
     refine al_val (ov_load (i := 4) (v := v13) rfl rfl Try.underlying56 sz56 rfl rfl rfl rfl) ?_
     refine al_val (ov_fieldA (p := 1) rfl Try.underlying63 rfl sz3 rfl rfl rfl) ?_
     refine al_val (ov_load (i := 0) (v := (iq a1.Seq)) rfl rfl Try.underlying3 sz3 rfl rfl rfl rfl) ?_
     obtain ⟨u32, hu33, h⟩ := opt_some h
     refine al_idxR 3 (at_some hu33).1 (at_some hu33).2.1 rfl rfl rfl Try.underlying56 sz4 rfl (fun p34 hp35 => ?_)
     refine al_storeR (k := (a1.Seq).toNat) (x := true) (vs := [(bool true)]) 3 rfl hp35 (idx_lt hu33) rfl rfl (cv_rfl rfl) (fun _ => rfl) sz4 rfl ?_
     refine al_nil ?_
     exact aq_join (r12.set (a1.Seq).toNat true) h (fun w a hm hs => norm hm hs [1, 2, 3, 4] [0, 1] [(4, (pq g3)), (7, (pq g7))] (by decide) ⟨rfl, rfl, trivial⟩)
    ·replace h := bif_f hb31 h
     refine aw_skip ?_
     exact aq_join r12 h (fun w a hm hs => norm hm hs [1, 2, 3, 4] [0, 1] [(4, (pq g3)), (7, (pq g7))] (by decide) ⟨rfl, rfl, trivial⟩)
   ·clear hkk30
    refine aw_region ?_
    refine al_val (ov_fieldA (p := 0) rfl Try.underlying63 rfl sz3 rfl rfl rfl) ?_
    refine al_val (ov_load (i := 4) (v := (iq a1.Kind)) rfl rfl Try.underlying3 sz3 rfl rfl rfl rfl) ?_
    refine al_in rfl rfl rfl rfl ?_
    refine al_mv rfl rfl ?_
    refine al_caseB 26 rfl (fun hb36 => ?_) (fun hb36 => ?_)
    ·replace h := bif_t hb36 h
     refine al_val (ov_fieldA (p := 1) rfl Try.underlying63 rfl sz3 rfl rfl rfl) ?_
     refine al_val (ov_load (i := 4) (v := (iq a1.Seq)) rfl rfl Try.underlying3 sz3 rfl rfl rfl rfl) ?_
     refine al_in rfl rfl rfl rfl ?_
     refine al_val (ov_pick_t rfl rfl rfl) ?_
     refine al_mv rfl rfl ?_
     refine al_caseB 31 rfl (fun hb37 => ?_) (fun hb37 => ?_)
     ·replace h := bif_t hb37 h
      refine al_val (ov_fieldA (p := 1) rfl Try.underlying63 rfl sz3 rfl rfl rfl) ?_
      refine al_val (ov_load (i := 4) (v := (iq a1.Seq)) rfl rfl Try.underlying3 sz3 rfl rfl rfl rfl) ?_
      refine al_val (ov_fieldA (p := 1) rfl Try.underlying58 rfl sz56 rfl rfl rfl) ?_
      refine al_val (ov_load (i := 0) (v := v13) rfl rfl Try.underlying56 sz56 rfl rfl rfl rfl) ?_
      refine al_val (ov_lenR 1 rfl rfl Try.underlying56 rfl) ?_
      refine al_in rfl rfl rfl rfl ?_
      refine al_val (ov_pick_t rfl rfl rfl) ?_
      refine al_nil ?_
      exact aq_join (decide (a1.Seq < (r12.length : Int))) h (fun w a hm hs => norm hm hs [4, 3, 2, 1, 0] [0, 1] [(3, (pq g2)), (4, (pq g3)), (7, (pq g7)), (38, (bool (decide (a1.Seq < (r12.length : Int)))))] (by decide) ⟨rfl, rfl, rfl, rfl, trivial⟩)
     ·replace h := bif_f hb37 h
      refine al_skip ?_
      refine al_skip ?_
      refine al_skip ?_
      refine al_skip ?_
      refine al_skip ?_
      refine al_skip ?_
      refine al_val (ov_pick_f rfl rfl rfl) ?_
      refine al_nil ?_
      exact aq_join false h (fun w a hm hs => norm hm hs [4, 3, 2, 1, 0] [0, 1] [(3, (pq g2)), (4, (pq g3)), (7, (pq g7)), (38, (bool false))] (by decide) ⟨rfl, rfl, rfl, rfl, trivial⟩)
    ·replace h := bif_f hb36 h
     refine al_skip ?_
     refine al_skip ?_
     refine al_skip ?_
     refine al_val (ov_pick_f rfl rfl rfl) ?_
     refine al_mv rfl rfl ?_
     refine al_skip ?_
     refine al_skip ?_
     refine al_skip ?_
     refine al_skip ?_
     refine al_skip ?_
     refine al_skip ?_
     refine al_val (ov_pick_f rfl rfl rfl) ?_
     refine al_nil ?_
     exact aq_join false h (fun w a hm hs => norm hm hs [4, 3, 2, 1, 0] [0, 1] [(3, (pq g2)), (4, (pq g3)), (7, (pq g7)), (38, (bool false))] (by decide) ⟨rfl, rfl, rfl, rfl, trivial⟩)
def f_line_checkReceiver_L9 (a0 : S_api_Receiver) (kk6 : (Unit → Option Int)) : Nat → Int → Int → Option Int
  | 0, _, _ => none
  | k8 + 1, l7i3, l7i22 => (bif (decide (l7i22 < (a0.Held.length : Int))) then (opt (at? a0.Held l7i22) fun (u11 : S_api_Packet) => (bif (decide (u11.Seq ≤ l7i3)) then (some (4 : Int)) else (f_line_checkReceiver_L9 a0 kk6 k8 u11.Seq (IntKind.i64.wrap (l7i22 + (1 : Int)))))) else (kk6 ()))
def f_line_checkReceiver (fu : Nat) (a0 : S_api_Receiver) : Option Int := (lt (fun (j2b15 : Bool) => (bif j2b15 then (some (2 : Int)) else (lt (fun (_ : Unit) => (some (0 : Int))) fun (kk6 : Unit → Option Int) => (f_line_checkReceiver_L9 a0 kk6 fu (a0.Got.length : Int) (0 : Int))))) fun (kk3 : Bool → Option Int) => (bif (decide ((a0.Got.length : Int) > (2000 : Int))) then (kk3 true) else (kk3 (decide ((a0.Held.length : Int) > (8 : Int))))))
set_option maxHeartbeats 2000000 in
set_option maxRecDepth 100000 in
theorem f_line_checkReceiver_ok (fu : Nat) (v0_0 : Value) (v0_1 : Value) (a0 : S_api_Receiver) {r : Int} (h : f_line_checkReceiver fu a0 = some r) : FnOk Try.prog 69 [(ag [v0_0, v0_1])] [(fDat (tyList tyStr) [v0_0] a0.Got), (fDat (tyList tyS_api_Packet) [v0_1] a0.Held)] [] (fun (i : Unit) => { val := (int .i64 r) }) := by
 unfold f_line_checkReceiver at h
 refine fn_enter Try.func69 rfl Try.ntmps69 rfl (fun w0 Z0 => ?_)
 refine aw_sr ?_
 refine al_box (vs := [v0_0, v0_1]) rfl (cv_rfl rfl) rfl (fun g1 => ?_)
 refine al_as rfl rfl ?_
 refine al_nt ?_
 refine aw_seq ?_
 obtain ⟨kk3, hkk3, h⟩ := lt_some h
 refine aw_seq_join (ι := Bool) (fun i => (memOf w0 Z0 [] [(oBox g1 61 [v0_0, v0_1])] [(fDat (tyList tyStr) [v0_0] a0.Got), (fDat (tyList tyS_api_Packet) [v0_1] a0.Held)])) (fun i => (tab [(1, (pq g1)), (15, (bool i))])) (fun i => kk3 i = some r) ?_ ?_
 ·rintro j2b15 h
  have h : kk3 j2b15 = some r := h
  rw [hkk3] at h
  dsimp only at h
  clear hkk3
  refine aw_show (m := (memOf w0 Z0 [] [(oBox g1 61 [v0_0, v0_1])] [(fDat (tyList tyStr) [v0_0] a0.Got), (fDat (tyList tyS_api_Packet) [v0_1] a0.Held)])) (S := (tab [(1, (pq g1)), (15, (bool j2b15))])) ?_
  refine aw_cond rfl (fun hb4 => ?_) (fun hb4 => ?_)
  ·replace h := bif_t hb4 h
   refine aw_sr ?_
   refine al_as rfl rfl ?_
   refine al_nt ?_
   refine aw_ret ?_
   refine aq_then_ret ?_
   obtain rfl := Option.some.inj h
   exact fn_ret () [] [] rfl rfl rfl rfl (res1 rfl rfl) rfl rfl rfl (by decide)
  ·replace h := bif_f hb4 h
   refine aw_skip ?_
   refine aq_tr ?_
   refine al_val (ov_fieldA (p := 0) rfl Try.underlying61 rfl sz23 rfl rfl rfl) ?_
   refine al_val (ov_load (i := 0) (v := v0_0) rfl rfl Try.underlying23 sz23 rfl rfl rfl rfl) ?_
   refine al_val (ov_lenD 0 rfl rfl Try.underlying23 rfl) ?_
   refine al_as rfl rfl ?_
   refine al_nt ?_
   obtain ⟨kk6, hkk6, h⟩ := lt_some h
   refine aw_seq_join (ι := Unit) (fun i => (memOf w0 Z0 [] [] [(fDat (tyList tyStr) [v0_0] a0.Got), (fDat (tyList tyS_api_Packet) [v0_1] a0.Held)])) (fun i => (tab [])) (fun i => kk6 () = some r) ?_ ?_
   ·rintro _ h
    have h : kk6 () = some r := h
    rw [hkk6] at h
    dsimp only at h
    clear hkk6
    refine aw_show (m := (memOf w0 Z0 [] [] [(fDat (tyList tyStr) [v0_0] a0.Got), (fDat (tyList tyS_api_Packet) [v0_1] a0.Held)])) (S := (tab [])) ?_
    refine aw_sr ?_
    refine al_as rfl rfl ?_
    refine al_nt ?_
    refine aw_ret ?_
    obtain rfl := Option.some.inj h
    exact fn_ret () [] [] rfl rfl rfl rfl (res1 rfl rfl) rfl rfl rfl (by decide)
   ·clear hkk6
    refine aw_sr ?_
    refine al_val (ov_fieldA (p := 1) rfl Try.underlying61 rfl sz59 rfl rfl rfl) ?_
    refine al_val (ov_load (i := 0) (v := v0_1) rfl rfl Try.underlying59 sz59 rfl rfl rfl rfl) ?_
    refine al_val (ov_lenD 1 rfl rfl Try.underlying59 rfl) ?_
    refine al_mv rfl rfl ?_
    refine al_nt ?_
    refine aw_block ?_
    refine aw_state (aw_loop (ι := Int × Int) (fun i => (memOf w0 Z0 [] [] [(fDat (tyList tyS_api_Packet) [v0_1] a0.Held), (fDat (tyList tyStr) [v0_0] a0.Got)])) (fun i => (tab [(3, (iq i.1)), (20, v0_1), (21, (iq (a0.Held.length : Int))), (22, (iq i.2))])) (fun q i => f_line_checkReceiver_L9 a0 kk6 q i.1 i.2 = some r) ?_ fu ((a0.Got.length : Int), (0 : Int)) h) (fun w a hm hs => norm hm hs [] [1, 0] [(3, (iq (a0.Got.length : Int))), (20, v0_1), (21, (iq (a0.Held.length : Int))), (22, (iq (0 : Int)))] (by decide) ⟨rfl, rfl, rfl, rfl, trivial⟩)
    clear h
    rintro k8 ⟨l7i3, l7i22⟩ h
    have h : f_line_checkReceiver_L9 a0 kk6 k8 l7i3 l7i22 = some r := h
    obtain _ | k8 := k8
    · rw [f_line_checkReceiver_L9] at h; cases h
    rw [f_line_checkReceiver_L9] at h
    refine aw_show (m := (memOf w0 Z0 [] [] [(fDat (tyList tyS_api_Packet) [v0_1] a0.Held), (fDat (tyList tyStr) [v0_0] a0.Got)])) (S := (tab [(3, (iq l7i3)), (20, v0_1), (21, (iq (a0.Held.length : Int))), (22, (iq l7i22))])) ?_
    refine aw_sr ?_
    refine al_in rfl rfl rfl rfl ?_
    refine al_nt ?_
    refine aw_seq ?_
    refine aw_cond rfl (fun hb10 => ?_) (fun hb10 => ?_)
    ·replace h := bif_t hb10 h
     refine aw_skip ?_
     refine aq_then ?_
     refine aw_seq ?_
     refine aw_block ?_
     refine aw_sr ?_
     obtain ⟨u11, hu12, h⟩ := opt_some h
     refine al_idxD 0 hu12 rfl rfl rfl Try.underlying59 sz63 rfl (fun p13 => ?_)
     refine al_val (ov_loadP (ds := [(iq u11.Kind), (iq u11.Seq), (str u11.Text)]) 0 rfl encS_api_Packet rfl Try.underlying63 sz63 rfl rfl rfl) ?_
     refine al_alloc (zs := [(iq (0 : Int)), (iq (0 : Int)), (str ([] : List UInt8))]) (zeroOf_to to63) rfl rfl (fun g14 => ?_)
     refine al_store (i := 0) (vs := [(iq u11.Kind), (iq u11.Seq), (str u11.Text)]) (cs' := [(iq u11.Kind), (iq u11.Seq), (str u11.Text)]) rfl rfl rfl sz63 (cv_rfl rfl) rfl (co_val rfl (co_val rfl (co_val rfl co_nil))) (Nat.le_of_ble_eq_true rfl) rfl rfl ?_
     refine al_nt ?_
     refine aw_seq ?_
     refine aw_sr ?_
     refine al_val (ov_fieldA (p := 1) rfl Try.underlying63 rfl sz3 rfl rfl rfl) ?_
     refine al_val (ov_load (i := 0) (v := (iq u11.Seq)) rfl rfl Try.underlying3 sz3 rfl rfl rfl rfl) ?_
     refine al_mv rfl rfl ?_
     refine al_in rfl rfl rfl rfl ?_
     refine al_nt ?_
     refine aw_cond rfl (fun hb15 => ?_) (fun hb15 => ?_)
     ·replace h := bif_t hb15 h
      refine aw_sr ?_
      refine al_as rfl rfl ?_
      refine al_nt ?_
      refine aw_ret ?_
      refine aq_then_ret ?_
      refine aq_block_ret ?_
      refine aq_then_ret ?_
      refine aq_then_ret ?_
      refine aq_block_ret ?_
      refine aq_then_ret ?_
      obtain rfl := Option.some.inj h
      exact fn_ret () [] [] rfl rfl rfl rfl (res1 rfl rfl) rfl rfl rfl (by decide)
     ·replace h := bif_f hb15 h
      refine aw_skip ?_
      refine aq_then ?_
      refine aw_region ?_
      refine al_val (ov_fieldA (p := 1) rfl Try.underlying63 rfl sz3 rfl rfl rfl) ?_
      refine al_val (ov_load (i := 0) (v := (iq u11.Seq)) rfl rfl Try.underlying3 sz3 rfl rfl rfl rfl) ?_
      refine al_as rfl rfl ?_
      refine al_nil ?_
      refine aq_block ?_
      refine aq_then ?_
      refine aw_region ?_
      refine al_in rfl rfl rfl rfl ?_
      refine al_mv rfl rfl ?_
      refine al_nil ?_
      exact aq_again k8 (u11.Seq, (wq (l7i22 + (1 : Int)))) (Nat.lt_succ_self _) h (fun w a hm hs => norm hm hs [] [1, 2] [(3, (iq u11.Seq)), (20, v0_1), (21, (iq (a0.Held.length : Int))), (22, (iq (wq (l7i22 + (1 : Int)))))] (by decide) ⟨rfl, rfl, rfl, rfl, trivial⟩)
    ·replace h := bif_f hb10 h
     refine aw_exit ?_
     refine aq_then_exit ?_
     refine aq_then_exit ?_
     refine aq_block_exit ?_
     exact aq_join () h (fun w a hm hs => norm hm hs [] [1, 0] [] (by decide) trivial)
 ·clear hkk3
  refine aw_region ?_
  refine al_val (ov_fieldA (p := 0) rfl Try.underlying61 rfl sz23 rfl rfl rfl) ?_
  refine al_val (ov_load (i := 0) (v := v0_0) rfl rfl Try.underlying23 sz23 rfl rfl rfl rfl) ?_
  refine al_val (ov_lenD 0 rfl rfl Try.underlying23 rfl) ?_
  refine al_in rfl rfl rfl rfl ?_
  refine al_mv rfl rfl ?_
  refine al_caseB 10 rfl (fun hb16 => ?_) (fun hb16 => ?_)
  ·replace h := bif_t hb16 h
   refine al_skip ?_
   refine al_skip ?_
   refine al_skip ?_
   refine al_skip ?_
   refine al_val (ov_pick_t rfl rfl rfl) ?_
   refine al_nil ?_
   exact aq_join true h (fun w a hm hs => norm hm hs [0] [0, 1] [(1, (pq g1)), (15, (bool true))] (by decide) ⟨rfl, rfl, trivial⟩)
  ·replace h := bif_f hb16 h
   refine al_val (ov_fieldA (p := 1) rfl Try.underlying61 rfl sz59 rfl rfl rfl) ?_
   refine al_val (ov_load (i := 0) (v := v0_1) rfl rfl Try.underlying59 sz59 rfl rfl rfl rfl) ?_
   refine al_val (ov_lenD 1 rfl rfl Try.underlying59 rfl) ?_
   refine al_in rfl rfl rfl rfl ?_
   refine al_val (ov_pick_f rfl rfl rfl) ?_
   refine al_nil ?_
   exact aq_join (decide ((a0.Held.length : Int) > (8 : Int))) h (fun w a hm hs => norm hm hs [0] [0, 1] [(1, (pq g1)), (15, (bool (decide ((a0.Held.length : Int) > (8 : Int)))))] (by decide) ⟨rfl, rfl, trivial⟩)
def f_slices_Clone___api_Packet_api_Packet_ (fu : Nat) (a0 : (List S_api_Packet)) : Option (List S_api_Packet) := (amb (a0.isEmpty) (some ([] : List S_api_Packet)) (req (((([] : List S_api_Packet).length + a0.length) * 32 : Nat) ≤ 140737488355328 ∧ ([] : List S_api_Packet).length + a0.length ≤ 9223372036854775807) (some (([] : List S_api_Packet) ++ a0))))
set_option maxHeartbeats 2000000 in
set_option maxRecDepth 100000 in
theorem f_slices_Clone___api_Packet_api_Packet__ok (fu : Nat) (v0_0 : Value) (a0 : (List S_api_Packet)) {r : (List S_api_Packet)} (h : f_slices_Clone___api_Packet_api_Packet_ fu a0 = some r) : FnOk Try.prog 70 [v0_0] [(fDat (tyList tyS_api_Packet) [v0_0] a0)] [] (fun (i : Value) => { val := i, own := [(oRow i 63 tyS_api_Packet r)] }) := by
 unfold f_slices_Clone___api_Packet_api_Packet_ at h
 refine fn_enter Try.func70 rfl Try.ntmps70 rfl (fun w0 Z0 => ?_)
 refine aw_sr ?_
 refine al_as rfl rfl ?_
 refine al_nt ?_
 refine aw_seq ?_
 refine aw_sr ?_
 refine al_mv rfl rfl ?_
 refine al_isNilD 0 rfl rfl rfl Try.underlying59 rfl (fun nb1 hn2 => ?_)
 refine al_nt ?_
 refine aw_cond rfl (fun hb3 => ?_) (fun hb3 => ?_)
 ·replace h := (amb_some h).2 (isEmpty_of (hn2 hb3))
  refine aw_sr ?_
  refine al_as rfl rfl ?_
  refine al_nt ?_
  refine aw_ret ?_
  refine aq_then_ret ?_
  refine aq_nilR 63 tyS_api_Packet ?_
  obtain rfl := Option.some.inj h
  exact fn_ret nS [0] [] rfl rfl rfl rfl (res1 rfl rfl) rfl rfl rfl (by decide)
 ·replace h := (amb_some h).1
  refine aw_skip ?_
  refine aq_tr ?_
  refine al_buildSlice (τ := tyS_api_Packet) (e := 63) (k := 0) (sz := 0) (by_ := 0) (z := undef) (cs := []) (xs := ([] : List S_api_Packet)) rfl (by decide) (fun w a hm hs => ⟨([]).toArray, rfl, by simp only [List.map_toArray, List.map_cons, List.map_nil]; exact run_bs [] [] Try.underlying59 to63 rfl rfl bs_nil hm⟩) (fun hm => rfl) rfl (fun v4 => ?_)
  refine al_mv rfl rfl ?_
  obtain ⟨hc5, h⟩ := req_some h
  refine al_append 0 hc5.1 hc5.2 rfl (src_dat (i := 0) 0 rfl) rfl rfl Try.underlying59 to63 rfl rfl rfl (fun v6 => ?_)
  refine al_as rfl rfl ?_
  refine al_nt ?_
  refine aw_ret ?_
  obtain rfl := Option.some.inj h
  exact fn_ret v6 [0] [] rfl rfl rfl rfl (res1 rfl rfl) rfl rfl rfl (by decide)
-- STUCK slices.BinarySearchFunc[[]lumberroom/api.Packet,lumberroom/api.Packet,int]: lty ['func', [63, 3], [3], False]
def f_cmp_isNaN_int_ (fu : Nat) (a0 : Int) : Option Bool := (some (a0 != a0))
set_option maxRecDepth 100000 in
theorem f_cmp_isNaN_int__ok (fu : Nat) (a0 : Int) {r : Bool} (h : f_cmp_isNaN_int_ fu a0 = some r) : FnOk Try.prog 110 [(int .i64 a0)] [] [] (fun (i : Unit) => { val := (bool r) }) := by
 unfold f_cmp_isNaN_int_ at h
 refine fn_enter Try.func110 rfl Try.ntmps110 rfl (fun w0 Z0 => ?_)
 refine aw_sr ?_
 refine al_as rfl rfl ?_
 refine al_nt ?_
 refine aw_sr ?_
 refine al_mv rfl rfl ?_
 refine al_mv rfl rfl ?_
 refine al_in rfl rfl rfl rfl ?_
 refine al_as rfl rfl ?_
 refine al_nt ?_
 refine aw_ret ?_
 obtain rfl := Option.some.inj h
 exact fn_ret () [] [] rfl rfl rfl rfl (res1 rfl rfl) rfl rfl rfl (by decide)
def f_cmp_Compare_int_ (fu : Nat) (a0 : Int) (a1 : Int) : Option Int := (opt (f_cmp_isNaN_int_ fu a0) fun (r2 : Bool) => (opt (f_cmp_isNaN_int_ fu a1) fun (r4 : Bool) => (bif r2 then (bif r4 then (some (0 : Int)) else (some (-1 : Int))) else (bif r4 then (some (1 : Int)) else (bif (decide (a0 < a1)) then (some (-1 : Int)) else (bif (decide (a0 > a1)) then (some (1 : Int)) else (some (0 : Int))))))))
set_option maxHeartbeats 2000000 in
set_option maxRecDepth 100000 in
theorem f_cmp_Compare_int__ok (fu : Nat) (a0 : Int) (a1 : Int) {r : Int} (h : f_cmp_Compare_int_ fu a0 a1 = some r) : FnOk Try.prog 73 [(int .i64 a0), (int .i64 a1)] [] [] (fun (i : Unit) => { val := (int .i64 r) }) := by
 unfold f_cmp_Compare_int_ at h
 refine fn_enter Try.func73 rfl Try.ntmps73 rfl (fun w0 Z0 => ?_)
 refine aw_sr ?_
 refine al_as rfl rfl ?_
 refine al_nt ?_
 refine aw_sr ?_
 refine al_mv rfl rfl ?_
 obtain ⟨r2, hc1, h⟩ := opt_some h
 refine al_call (vs := [(iq a0)]) (f_cmp_isNaN_int__ok fu a0 hc1) [] [] [] pre_nil rfl (by simp) (by decide) (.inl rfl) rfl Try.func110 rfl rfl rfl (fun _ => ?_)
 refine al_as rfl rfl ?_
 refine al_nt ?_
 refine aw_sr ?_
 refine al_mv rfl rfl ?_
 obtain ⟨r4, hc3, h⟩ := opt_some h
 refine al_call (vs := [(iq a1)]) (f_cmp_isNaN_int__ok fu a1 hc3) [] [] [] pre_nil rfl (by simp) (by decide) (.inl rfl) rfl Try.func110 rfl rfl rfl (fun _ => ?_)
 refine al_as rfl rfl ?_
 refine al_nt ?_
 refine aw_seq ?_
 refine aw_sr ?_
 refine al_mv rfl rfl ?_
 refine al_nt ?_
 refine aw_cond rfl (fun hb5 => ?_) (fun hb5 => ?_)
 ·replace h := bif_t hb5 h
  refine aw_seq ?_
  refine aw_sr ?_
  refine al_mv rfl rfl ?_
  refine al_nt ?_
  refine aw_cond rfl (fun hb6 => ?_) (fun hb6 => ?_)
  ·replace h := bif_t hb6 h
   refine aw_sr ?_
   refine al_as rfl rfl ?_
   refine al_nt ?_
   refine aw_ret ?_
   refine aq_then_ret ?_
   refine aq_then_ret ?_
   obtain rfl := Option.some.inj h
   exact fn_ret () [] [] rfl rfl rfl rfl (res1 rfl rfl) rfl rfl rfl (by decide)
  ·replace h := bif_f hb6 h
   refine aw_skip ?_
   refine aq_tr ?_
   refine al_as rfl rfl ?_
   refine al_nt ?_
   refine aw_ret ?_
   refine aq_then_ret ?_
   obtain rfl := Option.some.inj h
   exact fn_ret () [] [] rfl rfl rfl rfl (res1 rfl rfl) rfl rfl rfl (by decide)
 ·replace h := bif_f hb5 h
  refine aw_skip ?_
  refine aq_then ?_
  refine aw_seq ?_
  refine aw_sr ?_
  refine al_mv rfl rfl ?_
  refine al_nt ?_
  refine aw_cond rfl (fun hb7 => ?_) (fun hb7 => ?_)
  ·replace h := bif_t hb7 h
   refine aw_sr ?_
   refine al_as rfl rfl ?_
   refine al_nt ?_
   refine aw_ret ?_
   refine aq_then_ret ?_
   obtain rfl := Option.some.inj h
   exact fn_ret () [] [] rfl rfl rfl rfl (res1 rfl rfl) rfl rfl rfl (by decide)
  ·replace h := bif_f hb7 h
   refine aw_skip ?_
   refine aq_then ?_
   refine aw_seq ?_
   refine aw_sr ?_
   refine al_mv rfl rfl ?_
   refine al_mv rfl rfl ?_
   refine al_in rfl rfl rfl rfl ?_
   refine al_nt ?_
   refine aw_cond rfl (fun hb8 => ?_) (fun hb8 => ?_)
   ·replace h := bif_t hb8 h
    refine aw_sr ?_
    refine al_as rfl rfl ?_
    refine al_nt ?_
    refine aw_ret ?_
    refine aq_then_ret ?_
    obtain rfl := Option.some.inj h
    exact fn_ret () [] [] rfl rfl rfl rfl (res1 rfl rfl) rfl rfl rfl (by decide)
   ·replace h := bif_f hb8 h
    refine aw_skip ?_
    refine aq_then ?_
    refine aw_seq ?_
    refine aw_sr ?_
    refine al_mv rfl rfl ?_
    refine al_mv rfl rfl ?_
    refine al_in rfl rfl rfl rfl ?_
    refine al_nt ?_
    refine aw_cond rfl (fun hb9 => ?_) (fun hb9 => ?_)
    ·replace h := bif_t hb9 h
     refine aw_sr ?_
     refine al_as rfl rfl ?_
     refine al_nt ?_
     refine aw_ret ?_
     refine aq_then_ret ?_
     obtain rfl := Option.some.inj h
     exact fn_ret () [] [] rfl rfl rfl rfl (res1 rfl rfl) rfl rfl rfl (by decide)
    ·replace h := bif_f hb9 h
     refine aw_skip ?_
     refine aq_tr ?_
     refine al_as rfl rfl ?_
     refine al_nt ?_
     refine aw_ret ?_
     obtain rfl := Option.some.inj h
     exact fn_ret () [] [] rfl rfl rfl rfl (res1 rfl rfl) rfl rfl rfl (by decide)
def f_line_Takes_1 (fu : Nat) (a0 : S_api_Packet) (a1 : Int) : Option Int := (opt (f_cmp_Compare_int_ fu a0.Seq a1) fun (r3 : Int) => (some r3))
set_option maxRecDepth 100000 in
theorem f_line_Takes_1_ok (fu : Nat) (a0 : S_api_Packet) (a1 : Int) {r : Int} (h : f_line_Takes_1 fu a0 a1 = some r) : FnOk Try.prog 72 [(ag [(int .i64 a0.Kind), (int .i64 a0.Seq), (str a0.Text)]), (int .i64 a1)] [] [] (fun (i : Unit) => { val := (int .i64 r) }) := by
 unfold f_line_Takes_1 at h
 refine fn_enter Try.func72 rfl Try.ntmps72 rfl (fun w0 Z0 => ?_)
 refine aw_sr ?_
 refine al_box (vs := [(iq a0.Kind), (iq a0.Seq), (str a0.Text)]) rfl (cv_rfl rfl) rfl (fun g1 => ?_)
 refine al_as rfl rfl ?_
 refine al_nt ?_
 refine aw_sr ?_
 refine al_val (ov_fieldA (p := 1) rfl Try.underlying63 rfl sz3 rfl rfl rfl) ?_
 refine al_val (ov_load (i := 0) (v := (iq a0.Seq)) rfl rfl Try.underlying3 sz3 rfl rfl rfl rfl) ?_
 refine al_mv rfl rfl ?_
 obtain ⟨r3, hc2, h⟩ := opt_some h
 refine al_call (vs := [(iq a0.Seq), (iq a1)]) (f_cmp_Compare_int__ok fu a0.Seq a1 hc2) [] [] [0] pre_nil rfl (by simp) (by decide) (.inl rfl) rfl Try.func73 rfl rfl rfl (fun _ => ?_)
 refine al_as rfl rfl ?_
 refine al_nt ?_
 refine aw_ret ?_
 obtain rfl := Option.some.inj h
 exact fn_ret () [] [] rfl rfl rfl rfl (res1 rfl rfl) rfl rfl rfl (by decide)
-- STUCK slices.Reverse[[]lumberroom/api.Packet,lumberroom/api.Packet]: IndexError string index out of range at par:747
-- STUCK slices.rotateLeft[lumberroom/api.Packet]: IndexError string index out of range at par:747
-- STUCK slices.rotateRight[lumberroom/api.Packet]: IndexError string index out of range at par:747
-- STUCK slices.Insert[[]lumberroom/api.Packet,lumberroom/api.Packet]: slices.go:145: call: append to data
def f_slices_BinarySearchFunc___api_Packet_api_Packet_int__F72_L13 (a0 : (List S_api_Packet)) (a1 : Int) (kk2 : (Int → Option (Int × Bool))) (fu : Nat) : Nat → Int → Int → Option (Int × Bool)
  | 0, _, _ => none
  | k12 + 1, l11i9, l11i10 => (bif (decide (l11i9 < l11i10)) then (opt (at? a0 (IntKind.i64.wrap (((IntKind.u64.wrap (IntKind.i64.wrap (l11i9 + l11i10)))).fdiv (2 ^ min ((1 : Int)).toNat (IntKind.bits .u64))))) fun (u15 : S_api_Packet) => (opt (f_line_Takes_1 fu u15 a1) fun (r19 : Int) => (bif (decide (r19 < (0 : Int))) then (f_slices_BinarySearchFunc___api_Packet_api_Packet_int__F72_L13 a0 a1 kk2 fu k12 (IntKind.i64.wrap ((IntKind.i64.wrap (((IntKind.u64.wrap (IntKind.i64.wrap (l11i9 + l11i10)))).fdiv (2 ^ min ((1 : Int)).toNat (IntKind.bits .u64)))) + (1 : Int))) l11i10) else (f_slices_BinarySearchFunc___api_Packet_api_Packet_int__F72_L13 a0 a1 kk2 fu k12 l11i9 (IntKind.i64.wrap (((IntKind.u64.wrap (IntKind.i64.wrap (l11i9 + l11i10)))).fdiv (2 ^ min ((1 : Int)).toNat (IntKind.bits .u64)))))))) else (kk2 l11i9))
def f_slices_BinarySearchFunc___api_Packet_api_Packet_int__F72 (fu : Nat) (a0 : (List S_api_Packet)) (a1 : Int) : Option (Int × Bool) := (lt (fun (j1i9 : Int) => (lt (fun (j3b7 : Bool) => (some (j1i9, j3b7))) fun (kk4 : Bool → Option (Int × Bool)) => (bif (decide (j1i9 < (a0.length : Int))) then (opt (at? a0 j1i9) fun (u6 : S_api_Packet) => (opt (f_line_Takes_1 fu u6 a1) fun (r10 : Int) => (kk4 (r10 == (0 : Int))))) else (kk4 false)))) fun (kk2 : Int → Option (Int × Bool)) => (f_slices_BinarySearchFunc___api_Packet_api_Packet_int__F72_L13 a0 a1 kk2 fu fu (0 : Int) (a0.length : Int)))
set_option maxHeartbeats 2000000 in
set_option maxRecDepth 100000 in
theorem f_slices_BinarySearchFunc___api_Packet_api_Packet_int__F72_ok (fu : Nat) (v0_0 : Value) (a0 : (List S_api_Packet)) (a1 : Int) {r : (Int × Bool)} (h : f_slices_BinarySearchFunc___api_Packet_api_Packet_int__F72 fu a0 a1 = some r) : FnOk Try.prog 71 [v0_0, (int .i64 a1), (Value.func (.func 72) #[] #[])] [(fDat (tyList tyS_api_Packet) [v0_0] a0)] [] (fun (i : Unit) => { val := (Value.tuple #[(int .i64 r.1), (bool r.2)]) }) := by
 unfold f_slices_BinarySearchFunc___api_Packet_api_Packet_int__F72 at h
 refine fn_enter Try.func71 rfl Try.ntmps71 rfl (fun w0 Z0 => ?_)
 refine aw_sr ?_
 refine al_as rfl rfl ?_
 refine al_as rfl rfl ?_
 refine al_nt ?_
 refine aw_sr ?_
 refine al_mv rfl rfl ?_
 refine al_val (ov_lenD 0 rfl rfl Try.underlying59 rfl) ?_
 refine al_as rfl rfl ?_
 refine al_nt ?_
 refine aw_sr ?_
 refine al_mv rfl rfl ?_
 refine al_as rfl rfl ?_
 refine al_as rfl rfl ?_
 refine al_nt ?_
 obtain ⟨kk2, hkk2, h⟩ := lt_some h
 refine aw_seq_join (ι := Int) (fun i => (memOf w0 Z0 [] [] [(fDat (tyList tyS_api_Packet) [v0_0] a0)])) (fun i => (tab [(0, v0_0), (1, (iq a1)), (2, (fq 72)), (8, (iq (a0.length : Int))), (9, (iq i))])) (fun i => kk2 i = some r) ?_ ?_
 ·rintro j1i9 h
  have h : kk2 j1i9 = some r := h
  rw [hkk2] at h
  dsimp only at h
  clear hkk2
  refine aw_show (m := (memOf w0 Z0 [] [] [(fDat (tyList tyS_api_Packet) [v0_0] a0)])) (S := (tab [(0, v0_0), (1, (iq a1)), (2, (fq 72)), (8, (iq (a0.length : Int))), (9, (iq j1i9))])) ?_
  obtain ⟨kk4, hkk4, h⟩ := lt_some h
  refine aw_seq_join (ι := Bool) (fun i => (memOf w0 Z0 [] [] [(fDat (tyList tyS_api_Packet) [v0_0] a0)])) (fun i => (tab [(6, (iq j1i9)), (7, (bool i))])) (fun i => kk4 i = some r) ?_ ?_
  ·rintro j3b7 h
   have h : kk4 j3b7 = some r := h
   rw [hkk4] at h
   dsimp only at h
   clear hkk4
   refine aw_show (m := (memOf w0 Z0 [] [] [(fDat (tyList tyS_api_Packet) [v0_0] a0)])) (S := (tab [(6, (iq j1i9)), (7, (bool j3b7))])) ?_
   refine aw_ret ?_
   obtain rfl := Option.some.inj h
   exact fn_ret () [] [] rfl rfl rfl rfl (res2 rfl rfl rfl) rfl rfl rfl (by decide)
  ·clear hkk4
   refine aw_region ?_
   refine al_mv rfl rfl ?_
   refine al_mv rfl rfl ?_
   refine al_mv rfl rfl ?_
   refine al_in rfl rfl rfl rfl ?_
   refine al_mv rfl rfl ?_
   refine al_caseB 39 rfl (fun hb5 => ?_) (fun hb5 => ?_)
   ·replace h := bif_t hb5 h
    refine al_mv rfl rfl ?_
    refine al_mv rfl rfl ?_
    refine al_mv rfl rfl ?_
    obtain ⟨u6, hu7, h⟩ := opt_some h
    refine al_idxD 0 hu7 rfl rfl rfl Try.underlying59 sz63 rfl (fun p8 => ?_)
    refine al_val (ov_loadP (ds := [(iq u6.Kind), (iq u6.Seq), (str u6.Text)]) 0 rfl encS_api_Packet rfl Try.underlying63 sz63 rfl rfl rfl) ?_
    refine al_mv rfl rfl ?_
    obtain ⟨r10, hc9, h⟩ := opt_some h
    refine al_callF (vs := [(ag [(iq u6.Kind), (iq u6.Seq), (str u6.Text)]), (iq a1)]) (caps := []) (f_line_Takes_1_ok fu u6 a1 hc9) rfl [] [] [] pre_nil rfl (by simp) (by decide) (.inl rfl) rfl rfl Try.func72 rfl rfl rfl (fun _ => ?_)
    refine al_in rfl rfl rfl rfl ?_
    refine al_val (ov_pick_t rfl rfl rfl) ?_
    refine al_as rfl rfl ?_
    refine al_as rfl rfl ?_
    refine al_nil ?_
    exact aq_join (r10 == (0 : Int)) h (fun w a hm hs => norm hm hs [] [1] [(6, (iq j1i9)), (7, (bool (r10 == (0 : Int))))] (by decide) ⟨rfl, rfl, trivial⟩)
   ·replace h := bif_f hb5 h
    refine al_skip ?_
    refine al_skip ?_
    refine al_skip ?_
    refine al_skip ?_
    refine al_skip ?_
    refine al_skip ?_
    refine al_skip ?_
    refine al_skip ?_
    refine al_val (ov_pick_f rfl rfl rfl) ?_
    refine al_as rfl rfl ?_
    refine al_as rfl rfl ?_
    refine al_nil ?_
    exact aq_join false h (fun w a hm hs => norm hm hs [] [0] [(6, (iq j1i9)), (7, (bool false))] (by decide) ⟨rfl, rfl, trivial⟩)
 ·clear hkk2
  refine aw_block ?_
  refine aw_state (aw_loop (ι := Int × Int) (fun i => (memOf w0 Z0 [] [] [(fDat (tyList tyS_api_Packet) [v0_0] a0)])) (fun i => (tab [(0, v0_0), (1, (iq a1)), (2, (fq 72)), (8, (iq (a0.length : Int))), (9, (iq i.1)), (10, (iq i.2))])) (fun q i => f_slices_BinarySearchFunc___api_Packet_api_Packet_int__F72_L13 a0 a1 kk2 fu q i.1 i.2 = some r) ?_ fu ((0 : Int), (a0.length : Int)) h) (fun w a hm hs => norm hm hs [] [0] [(0, v0_0), (1, (iq a1)), (2, (fq 72)), (8, (iq (a0.length : Int))), (9, (iq (0 : Int))), (10, (iq (a0.length : Int)))] (by decide) ⟨rfl, rfl, rfl, rfl, rfl, rfl, trivial⟩)
  clear h
  rintro k12 ⟨l11i9, l11i10⟩ h
  have h : f_slices_BinarySearchFunc___api_Packet_api_Packet_int__F72_L13 a0 a1 kk2 fu k12 l11i9 l11i10 = some r := h
  obtain _ | k12 := k12
  · rw [f_slices_BinarySearchFunc___api_Packet_api_Packet_int__F72_L13] at h; cases h
  rw [f_slices_BinarySearchFunc___api_Packet_api_Packet_int__F72_L13] at h
  refine aw_show (m := (memOf w0 Z0 [] [] [(fDat (tyList tyS_api_Packet) [v0_0] a0)])) (S := (tab [(0, v0_0), (1, (iq a1)), (2, (fq 72)), (8, (iq (a0.length : Int))), (9, (iq l11i9)), (10, (iq l11i10))])) ?_
  refine aw_seq ?_
  refine aw_sr ?_
  refine al_mv rfl rfl ?_
  refine al_mv rfl rfl ?_
  refine al_in rfl rfl rfl rfl ?_
  refine al_nt ?_
  refine aw_cond rfl (fun hb14 => ?_) (fun hb14 => ?_)
  ·replace h := bif_t hb14 h
   refine aw_skip ?_
   refine aq_then ?_
   refine aw_block ?_
   refine aw_sr ?_
   refine al_mv rfl rfl ?_
   refine al_mv rfl rfl ?_
   refine al_in rfl rfl rfl rfl ?_
   refine al_val (ov_convInt (by rw [Try.underlying3]; rfl) Try.underlying181 rfl rfl) ?_
   refine al_val (ov_shr (by decide) rfl rfl rfl) ?_
   refine al_val (ov_convInt (by rw [Try.underlying181]; rfl) Try.underlying3 rfl rfl) ?_
   refine al_as rfl rfl ?_
   refine al_nt ?_
   refine aw_sr ?_
   refine al_mv rfl rfl ?_
   refine al_mv rfl rfl ?_
   refine al_mv rfl rfl ?_
   obtain ⟨u15, hu16, h⟩ := opt_some h
   refine al_idxD 0 hu16 rfl rfl rfl Try.underlying59 sz63 rfl (fun p17 => ?_)
   refine al_val (ov_loadP (ds := [(iq u15.Kind), (iq u15.Seq), (str u15.Text)]) 0 rfl encS_api_Packet rfl Try.underlying63 sz63 rfl rfl rfl) ?_
   refine al_mv rfl rfl ?_
   obtain ⟨r19, hc18, h⟩ := opt_some h
   refine al_callF (vs := [(ag [(iq u15.Kind), (iq u15.Seq), (str u15.Text)]), (iq a1)]) (caps := []) (f_line_Takes_1_ok fu u15 a1 hc18) rfl [] [] [] pre_nil rfl (by simp) (by decide) (.inl rfl) rfl rfl Try.func72 rfl rfl rfl (fun _ => ?_)
   refine al_in rfl rfl rfl rfl ?_
   refine al_nt ?_
   refine aw_cond rfl (fun hb20 => ?_) (fun hb20 => ?_)
   ·replace h := bif_t hb20 h
    refine aw_region ?_
    refine al_mv rfl rfl ?_
    refine al_in rfl rfl rfl rfl ?_
    refine al_as rfl rfl ?_
    refine al_nil ?_
    refine aq_block ?_
    exact aq_again k12 ((wq ((wq (((wu (wq (l11i9 + l11i10)))).fdiv (2 ^ min ((1 : Int)).toNat (IntKind.bits .u64)))) + (1 : Int))), l11i10) (Nat.lt_succ_self _) h (fun w a hm hs => norm hm hs [] [1] [(0, v0_0), (1, (iq a1)), (2, (fq 72)), (8, (iq (a0.length : Int))), (9, (iq (wq ((wq (((wu (wq (l11i9 + l11i10)))).fdiv (2 ^ min ((1 : Int)).toNat (IntKind.bits .u64)))) + (1 : Int))))), (10, (iq l11i10))] (by decide) ⟨rfl, rfl, rfl, rfl, rfl, rfl, trivial⟩)
   ·replace h := bif_f hb20 h
    refine aw_region ?_
    refine al_mv rfl rfl ?_
    refine al_as rfl rfl ?_
    refine al_nil ?_
    refine aq_block ?_
    exact aq_again k12 (l11i9, (wq (((wu (wq (l11i9 + l11i10)))).fdiv (2 ^ min ((1 : Int)).toNat (IntKind.bits .u64))))) (Nat.lt_succ_self _) h (fun w a hm hs => norm hm hs [] [1] [(0, v0_0), (1, (iq a1)), (2, (fq 72)), (8, (iq (a0.length : Int))), (9, (iq l11i9)), (10, (iq (wq (((wu (wq (l11i9 + l11i10)))).fdiv (2 ^ min ((1 : Int)).toNat (IntKind.bits .u64))))))] (by decide) ⟨rfl, rfl, rfl, rfl, rfl, rfl, trivial⟩)
  ·replace h := bif_f hb14 h
   refine aw_exit ?_
   refine aq_then_exit ?_
   refine aq_then_exit ?_
   refine aq_block_exit ?_
   exact aq_join l11i9 h (fun w a hm hs => norm hm hs [] [0] [(0, v0_0), (1, (iq a1)), (2, (fq 72)), (8, (iq (a0.length : Int))), (9, (iq l11i9))] (by decide) ⟨rfl, rfl, rfl, rfl, rfl, trivial⟩)
def f_slices_Insert___api_Packet_api_Packet__own_own (fu : Nat) (a0 : (List S_api_Packet)) (a1 : Int) (a2 : (List S_api_Packet)) : Option (List S_api_Packet) := (req (0 ≤ a1 ∧ a1 ≤ (a0.length : Int)) (bif ((a2.length : Int) == (0 : Int)) then (some a0) else (bif (a1 == (a0.length : Int)) then (req (((a0.length + a2.length) * 32 : Nat) ≤ 140737488355328 ∧ a0.length + a2.length ≤ 9223372036854775807) (some (a0 ++ a2))) else (both (req (0 ≤ a1 ∧ a1 ≤ (a0.length : Int)) (req ((a1).toNat ≤ a0.length ∧ 0 < (IntKind.i64.wrap ((IntKind.i64.wrap ((a0.length : Int) + (a2.length : Int))) - a1)) ∧ (((a1).toNat : Nat) : Int) + (IntKind.i64.wrap ((IntKind.i64.wrap ((a0.length : Int) + (a2.length : Int))) - a1)) = (IntKind.i64.wrap ((a0.length : Int) + (a2.length : Int))) ∧ (IntKind.i64.wrap ((a0.length : Int) + (a2.length : Int))) * 32 ≤ 140737488355328 ∧ (IntKind.i64.wrap ((a0.length : Int) + (a2.length : Int))) ≤ 9223372036854775807) (req (0 ≤ a1 ∧ a1 ≤ ((a0.take (a1).toNat ++ List.replicate ((IntKind.i64.wrap ((IntKind.i64.wrap ((a0.length : Int) + (a2.length : Int))) - a1))).toNat (S_api_Packet.mk (0 : Int) (0 : Int) ([] : (List UInt8)))).length : Int)) (req ((a1).toNat < (a0.take (a1).toNat ++ List.replicate ((IntKind.i64.wrap ((IntKind.i64.wrap ((a0.length : Int) + (a2.length : Int))) - a1))).toNat (S_api_Packet.mk (0 : Int) (0 : Int) ([] : (List UInt8)))).length ∧ 0 < a2.length) (req (0 ≤ (IntKind.i64.wrap (a1 + (a2.length : Int))) ∧ (IntKind.i64.wrap (a1 + (a2.length : Int))) ≤ (((a0.take (a1).toNat ++ List.replicate ((IntKind.i64.wrap ((IntKind.i64.wrap ((a0.length : Int) + (a2.length : Int))) - a1))).toNat (S_api_Packet.mk (0 : Int) (0 : Int) ([] : (List UInt8)))).take ((a1).toNat) ++ (a2.take ((a0.take (a1).toNat ++ List.replicate ((IntKind.i64.wrap ((IntKind.i64.wrap ((a0.length : Int) + (a2.length : Int))) - a1))).toNat (S_api_Packet.mk (0 : Int) (0 : Int) ([] : (List UInt8)))).length - ((a1).toNat)) ++ (a0.take (a1).toNat ++ List.replicate ((IntKind.i64.wrap ((IntKind.i64.wrap ((a0.length : Int) + (a2.length : Int))) - a1))).toNat (S_api_Packet.mk (0 : Int) (0 : Int) ([] : (List UInt8)))).drop (((a1).toNat) + a2.length))).length : Int)) (req (0 ≤ a1 ∧ a1 ≤ (a0.length : Int)) (req (((IntKind.i64.wrap (a1 + (a2.length : Int)))).toNat < ((a0.take (a1).toNat ++ List.replicate ((IntKind.i64.wrap ((IntKind.i64.wrap ((a0.length : Int) + (a2.length : Int))) - a1))).toNat (S_api_Packet.mk (0 : Int) (0 : Int) ([] : (List UInt8)))).take ((a1).toNat) ++ (a2.take ((a0.take (a1).toNat ++ List.replicate ((IntKind.i64.wrap ((IntKind.i64.wrap ((a0.length : Int) + (a2.length : Int))) - a1))).toNat (S_api_Packet.mk (0 : Int) (0 : Int) ([] : (List UInt8)))).length - ((a1).toNat)) ++ (a0.take (a1).toNat ++ List.replicate ((IntKind.i64.wrap ((IntKind.i64.wrap ((a0.length : Int) + (a2.length : Int))) - a1))).toNat (S_api_Packet.mk (0 : Int) (0 : Int) ([] : (List UInt8)))).drop (((a1).toNat) + a2.length))).length ∧ 0 < (a0.drop ((a1).toNat)).length) (some (((a0.take (a1).toNat ++ List.replicate ((IntKind.i64.wrap ((IntKind.i64.wrap ((a0.length : Int) + (a2.length : Int))) - a1))).toNat (S_api_Packet.mk (0 : Int) (0 : Int) ([] : (List UInt8)))).take ((a1).toNat) ++ (a2.take ((a0.take (a1).toNat ++ List.replicate ((IntKind.i64.wrap ((IntKind.i64.wrap ((a0.length : Int) + (a2.length : Int))) - a1))).toNat (S_api_Packet.mk (0 : Int) (0 : Int) ([] : (List UInt8)))).length - ((a1).toNat)) ++ (a0.take (a1).toNat ++ List.replicate ((IntKind.i64.wrap ((IntKind.i64.wrap ((a0.length : Int) + (a2.length : Int))) - a1))).toNat (S_api_Packet.mk (0 : Int) (0 : Int) ([] : (List UInt8)))).drop (((a1).toNat) + a2.length))).take (((IntKind.i64.wrap (a1 + (a2.length : Int)))).toNat) ++ ((a0.drop ((a1).toNat)).take (((a0.take (a1).toNat ++ List.replicate ((IntKind.i64.wrap ((IntKind.i64.wrap ((a0.length : Int) + (a2.length : Int))) - a1))).toNat (S_api_Packet.mk (0 : Int) (0 : Int) ([] : (List UInt8)))).take ((a1).toNat) ++ (a2.take ((a0.take (a1).toNat ++ List.replicate ((IntKind.i64.wrap ((IntKind.i64.wrap ((a0.length : Int) + (a2.length : Int))) - a1))).toNat (S_api_Packet.mk (0 : Int) (0 : Int) ([] : (List UInt8)))).length - ((a1).toNat)) ++ (a0.take (a1).toNat ++ List.replicate ((IntKind.i64.wrap ((IntKind.i64.wrap ((a0.length : Int) + (a2.length : Int))) - a1))).toNat (S_api_Packet.mk (0 : Int) (0 : Int) ([] : (List UInt8)))).drop (((a1).toNat) + a2.length))).length - (((IntKind.i64.wrap (a1 + (a2.length : Int)))).toNat)) ++ ((a0.take (a1).toNat ++ List.replicate ((IntKind.i64.wrap ((IntKind.i64.wrap ((a0.length : Int) + (a2.length : Int))) - a1))).toNat (S_api_Packet.mk (0 : Int) (0 : Int) ([] : (List UInt8)))).take ((a1).toNat) ++ (a2.take ((a0.take (a1).toNat ++ List.replicate ((IntKind.i64.wrap ((IntKind.i64.wrap ((a0.length : Int) + (a2.length : Int))) - a1))).toNat (S_api_Packet.mk (0 : Int) (0 : Int) ([] : (List UInt8)))).length - ((a1).toNat)) ++ (a0.take (a1).toNat ++ List.replicate ((IntKind.i64.wrap ((IntKind.i64.wrap ((a0.length : Int) + (a2.length : Int))) - a1))).toNat (S_api_Packet.mk (0 : Int) (0 : Int) ([] : (List UInt8)))).drop (((a1).toNat) + a2.length))).drop ((((IntKind.i64.wrap (a1 + (a2.length : Int)))).toNat) + (a0.drop ((a1).toNat)).length))))))))))) (req (0 ≤ (IntKind.i64.wrap ((a0.length : Int) + (a2.length : Int)))) (req (0 ≤ (IntKind.i64.wrap (a1 + (a2.length : Int))) ∧ (IntKind.i64.wrap (a1 + (a2.length : Int))) ≤ ((((IntKind.i64.wrap ((a0.length : Int) + (a2.length : Int)))).toNat : Nat) : Int)) (req (0 < a2.length ∧ 0 < a0.length) (req (0 ≤ (IntKind.i64.wrap (a1 + (a2.length : Int))) ∧ (IntKind.i64.wrap (a1 + (a2.length : Int))) ≤ ((((IntKind.i64.wrap ((a0.length : Int) + (a2.length : Int)))).toNat : Nat) : Int)) (req (0 ≤ a1 ∧ a1 ≤ ((((IntKind.i64.wrap ((a0.length : Int) + (a2.length : Int)))).toNat : Nat) : Int)) (req (((a1).toNat) < a0.length ∧ (((IntKind.i64.wrap (a1 + (a2.length : Int)))).toNat) ≤ a0.length ∧ ((a1).toNat) ≤ (((IntKind.i64.wrap (a1 + (a2.length : Int)))).toNat) ∧ (((IntKind.i64.wrap (a1 + (a2.length : Int)))).toNat) + (a0.length - ((a1).toNat)) = (((IntKind.i64.wrap ((a0.length : Int) + (a2.length : Int)))).toNat)) (req (0 ≤ a1 ∧ a1 ≤ ((a0.take (((IntKind.i64.wrap (a1 + (a2.length : Int)))).toNat) ++ a0.drop ((a1).toNat)).length : Int)) (req ((a1).toNat < (a0.take (((IntKind.i64.wrap (a1 + (a2.length : Int)))).toNat) ++ a0.drop ((a1).toNat)).length ∧ 0 < a2.length) (some ((a0.take (((IntKind.i64.wrap (a1 + (a2.length : Int)))).toNat) ++ a0.drop ((a1).toNat)).take ((a1).toNat) ++ (a2.take ((a0.take (((IntKind.i64.wrap (a1 + (a2.length : Int)))).toNat) ++ a0.drop ((a1).toNat)).length - ((a1).toNat)) ++ (a0.take (((IntKind.i64.wrap (a1 + (a2.length : Int)))).toNat) ++ a0.drop ((a1).toNat)).drop (((a1).toNat) + a2.length))))))))))))))))
set_option maxHeartbeats 2000000 in
set_option maxRecDepth 100000 in
theorem f_slices_Insert___api_Packet_api_Packet__own_own_ok (fu : Nat) (v0_0 : Value) (a0 : (List S_api_Packet)) (a1 : Int) (v2_0 : Value) (a2 : (List S_api_Packet)) {r : (List S_api_Packet)} (h : f_slices_Insert___api_Packet_api_Packet__own_own fu a0 a1 a2 = some r) : FnOk Try.prog 74 [v0_0, (int .i64 a1), v2_0] [] [(oRow v0_0 63 tyS_api_Packet a0), (oRow v2_0 63 tyS_api_Packet a2)] (fun (i : Value) => { val := i, own := [(oRow i 63 tyS_api_Packet r)] }) := by
 unfold f_slices_Insert___api_Packet_api_Packet__own_own at h
 refine fn_enter Try.func74 rfl Try.ntmps74 rfl (fun w0 Z0 => ?_)
 refine aw_sr ?_
 refine al_as rfl rfl ?_
 refine al_nt ?_
 refine aw_sr ?_
 refine al_mv rfl rfl ?_
 refine al_mv rfl rfl ?_
 obtain ⟨hc1, h⟩ := req_some h
 refine al_winR 0 hc1.1 hc1.2 rfl rfl rfl Try.underlying59 sz63 rfl (fun s2 hw3 => ?_)
 refine al_nt ?_
 refine aw_sr ?_
 refine al_mv rfl rfl ?_
 refine al_val (ov_lenR 1 rfl rfl Try.underlying59 rfl) ?_
 refine al_as rfl rfl ?_
 refine al_nt ?_
 refine aw_seq ?_
 refine aw_sr ?_
 refine al_mv rfl rfl ?_
 refine al_in rfl rfl rfl rfl ?_
 refine al_nt ?_
 refine aw_cond rfl (fun hb4 => ?_) (fun hb4 => ?_)
 ·replace h := bif_t hb4 h
  refine aw_sr ?_
  refine al_mv rfl rfl ?_
  refine al_as rfl rfl ?_
  refine al_nt ?_
  refine aw_ret ?_
  refine aq_then_ret ?_
  obtain rfl := Option.some.inj h
  exact fn_ret v0_0 [0] [] rfl rfl rfl rfl (res1 rfl rfl) rfl rfl rfl (by decide)
 ·replace h := bif_f hb4 h
  refine aw_skip ?_
  refine aq_tr ?_
  refine al_mv rfl rfl ?_
  refine al_val (ov_lenR 0 rfl rfl Try.underlying59 rfl) ?_
  refine al_as rfl rfl ?_
  refine al_nt ?_
  refine aw_seq ?_
  refine aw_sr ?_
  refine al_mv rfl rfl ?_
  refine al_mv rfl rfl ?_
  refine al_in rfl rfl rfl rfl ?_
  refine al_nt ?_
  refine aw_cond rfl (fun hb5 => ?_) (fun hb5 => ?_)
  ·replace h := bif_t hb5 h
   refine aw_sr ?_
   refine al_mv rfl rfl ?_
   refine al_mv rfl rfl ?_
   obtain ⟨hc6, h⟩ := req_some h
   refine al_append 0 hc6.1 hc6.2 rfl (src_own (i := 0) 1 rfl) rfl rfl Try.underlying59 to63 rfl rfl rfl (fun v7 => ?_)
   refine al_as rfl rfl ?_
   refine al_nt ?_
   refine aw_ret ?_
   refine aq_then_ret ?_
   obtain rfl := Option.some.inj h
   exact fn_ret v7 [0] [] rfl rfl rfl rfl (res1 rfl rfl) rfl rfl rfl (by decide)
  ·replace h := bif_f hb5 h
   refine aw_skip ?_
   refine aq_then ?_
   refine aw_seq ?_
   refine aw_sr ?_
   refine al_mv rfl rfl ?_
   refine al_mv rfl rfl ?_
   refine al_in rfl rfl rfl rfl ?_
   refine al_mv rfl rfl ?_
   refine al_capR 0 rfl rfl Try.underlying59 rfl (fun cp8 hcp9 => ?_)
   refine al_in rfl rfl rfl rfl ?_
   refine al_nt ?_
   refine aw_cond rfl (fun hb10 => ?_) (fun hb10 => ?_)
   ·replace h := (both_some h).1
    refine aw_sr ?_
    refine al_mv rfl rfl ?_
    refine al_mv rfl rfl ?_
    obtain ⟨hc13, h⟩ := req_some h
    refine al_cutK 0 hcp9 hc13.1 (Int.le_trans hc13.2 hcp9.le) rfl rfl rfl Try.underlying59 sz63 rfl (fun s11 hct12 => ?_)
    refine al_mv rfl rfl ?_
    refine al_mv rfl rfl ?_
    refine al_in rfl rfl rfl rfl ?_
    refine al_mv rfl rfl ?_
    refine al_in rfl rfl rfl rfl ?_
    obtain ⟨hc14, h⟩ := req_some h
    refine al_appendZK (τ := tyS_api_Packet) (x0 := (S_api_Packet.mk (0 : Int) (0 : Int) ([] : (List UInt8)))) (T := (wq ((a0.length : Int) + (a2.length : Int)))) 0 hcp9 hct12 hc14.1 hc14.2.1 hc14.2.2.1 (of_decide_eq_true hb10) hc14.2.2.2.1 hc14.2.2.2.2 rfl rfl rfl Try.underlying59 Try.underlying3 to63 (fun _ _ => mkS_api_Packet rfl) rfl rfl (fun v15 => ?_)
    refine al_as rfl rfl ?_
    refine al_nt ?_
    refine aw_sr ?_
    refine al_mv rfl rfl ?_
    refine al_mv rfl rfl ?_
    obtain ⟨hc16, h⟩ := req_some h
    refine al_winR 0 hc16.1 hc16.2 rfl rfl rfl Try.underlying59 sz63 rfl (fun s17 hw18 => ?_)
    refine al_mv rfl rfl ?_
    obtain ⟨hc19, h⟩ := req_some h
    refine al_copyW 0 hc19.1 hc19.2 rfl hw18 (src_own (i := 0) 2 rfl) rfl rfl Try.underlying59 sz63 rfl (fun q20 => ?_)
    refine al_nt ?_
    refine aw_seq ?_
    obtain ⟨hc21, h⟩ := req_some h
    obtain ⟨hc24, h⟩ := req_some h
    refine aw_region_draw 8 [(46, (fun u => fEq u v15)), (47, (fun u => fEq u (iq a1))), (48, (fun u => fEq u (iq (a2.length : Int)))), (49, (fun u => fEq u (iq (wq (a1 + (a2.length : Int)))))), (50, (fun s => fWin v15 s (((wq (a1 + (a2.length : Int)))).toNat) (Ty.size tyS_api_Packet))), (51, (fun u => fEq u v0_0)), (52, (fun u => fEq u (iq a1))), (53, (fun s => fWin v0_0 s ((a1).toNat) (Ty.size tyS_api_Packet)))] (tab [(0, v0_0), (1, (iq a1)), (7, (iq (a2.length : Int))), (9, v15)]) mixed (by kernel_rfl) rfl rfl rfl (fun a hs => hs.tab _ (allT_mem ⟨rfl, rfl, rfl, rfl, trivial⟩)) ⟨⟨rfl, ld_val (ov_move rfl rfl)⟩, ⟨rfl, ld_val (ov_move rfl rfl)⟩, ⟨rfl, ld_val (ov_move rfl rfl)⟩, ⟨rfl, ld_eq (j := 1) rfl rfl (ld_eq (j := 2) rfl rfl (ld_val (ov_int rfl rfl rfl rfl)))⟩, ⟨rfl, ld_eq (j := 0) rfl rfl (ld_eq (j := 3) rfl rfl (ld_of (of_winR 0 hc21.1 hc21.2 rfl rfl rfl Try.underlying59 sz63 rfl)))⟩, ⟨rfl, ld_val (ov_move rfl rfl)⟩, ⟨rfl, ld_val (ov_move rfl rfl)⟩, ⟨rfl, ld_eq (j := 5) rfl rfl (ld_eq (j := 6) rfl rfl (ld_of (of_winR 1 hc24.1 hc24.2 rfl rfl rfl Try.underlying59 sz63 rfl)))⟩, trivial⟩ ?_
    refine tl_win 4 rfl (fun s22 hw23 => ?_)
    refine tl_win 7 rfl (fun s25 hw26 => ?_)
    refine tl_done ?_
    obtain ⟨hc27, h⟩ := req_some h
    refine al_copyW 0 hc27.1 hc27.2 rfl hw23 (src_win (i := 0) 1 rfl hw26) rfl rfl Try.underlying59 sz63 rfl (fun q28 => ?_)
    refine al_nt ?_
    refine aw_sr ?_
    refine al_mv rfl rfl ?_
    refine al_as rfl rfl ?_
    refine al_nt ?_
    refine aw_ret ?_
    refine aq_then_ret ?_
    obtain rfl := Option.some.inj h
    exact fn_ret v15 [0] [] rfl rfl rfl rfl (res1 rfl rfl) rfl rfl rfl (by decide)
   ·replace h := (both_some h).2
    refine aw_skip ?_
    refine aq_tr ?_
    refine al_mv rfl rfl ?_
    refine al_mv rfl rfl ?_
    refine al_mv rfl rfl ?_
    refine al_in rfl rfl rfl rfl ?_
    obtain ⟨hc31, h⟩ := req_some h
    refine al_cutK 0 hcp9 hc31 (Int.not_lt.1 (of_decide_eq_false hb10)) rfl rfl rfl Try.underlying59 sz63 rfl (fun s29 hct30 => ?_)
    refine al_as rfl rfl ?_
    refine al_nt ?_
    refine aw_seq ?_
    refine aw_sr ?_
    refine al_mv rfl rfl ?_
    refine al_mv rfl rfl ?_
    refine al_mv rfl rfl ?_
    refine al_mv rfl rfl ?_
    refine al_in rfl rfl rfl rfl ?_
    obtain ⟨hc34, h⟩ := req_some h
    refine al_winC (sz := Ty.size tyS_api_Packet) hct30 hc34.1 hc34.2 rfl rfl Try.underlying59 sz63 rfl (fun s32 hw33 => ?_)
    obtain ⟨hc35, h⟩ := req_some h
    refine al_val (v := bool false) (ov_overlapsF (tS := 59) (tR := 4) 0 1 rfl hc35.1 hc35.2 rfl rfl hw33 rfl rfl Try.underlying59 sz63 rfl Try.func111 rfl rfl rfl (by kernel_rfl) rfl) ?_
    refine al_val (ov_not rfl rfl) ?_
    refine al_nt ?_
    refine aw_cond_t rfl ?_
    refine aw_seq ?_
    obtain ⟨hc38, h⟩ := req_some h
    obtain ⟨hc41, h⟩ := req_some h
    refine aw_region_draw 8 [(69, (fun u => fEq u s29)), (70, (fun u => fEq u (iq a1))), (71, (fun u => fEq u (iq (a2.length : Int)))), (72, (fun u => fEq u (iq (wq (a1 + (a2.length : Int)))))), (73, (fun s => fPure (CutWin v0_0 s (((wq (a1 + (a2.length : Int)))).toNat) (((wq ((a0.length : Int) + (a2.length : Int)))).toNat) (Ty.size tyS_api_Packet)))), (74, (fun u => fEq u s29)), (75, (fun u => fEq u (iq a1))), (76, (fun s => fPure (CutWin v0_0 s ((a1).toNat) (((wq ((a0.length : Int) + (a2.length : Int)))).toNat) (Ty.size tyS_api_Packet))))] (tab [(0, s29), (1, (iq a1)), (2, v2_0), (7, (iq (a2.length : Int)))]) mixed (by kernel_rfl) rfl rfl rfl (fun a hs => hs.tab _ (allT_mem ⟨rfl, rfl, rfl, rfl, trivial⟩)) ⟨⟨rfl, ld_val (ov_move rfl rfl)⟩, ⟨rfl, ld_val (ov_move rfl rfl)⟩, ⟨rfl, ld_val (ov_move rfl rfl)⟩, ⟨rfl, ld_eq (j := 1) rfl rfl (ld_eq (j := 2) rfl rfl (ld_val (ov_int rfl rfl rfl rfl)))⟩, ⟨rfl, ld_eq (j := 0) rfl rfl (ld_eq (j := 3) rfl rfl (ld_of (of_winC (sz := Ty.size tyS_api_Packet) hct30 hc38.1 hc38.2 rfl rfl Try.underlying59 sz63 rfl)))⟩, ⟨rfl, ld_val (ov_move rfl rfl)⟩, ⟨rfl, ld_val (ov_move rfl rfl)⟩, ⟨rfl, ld_eq (j := 5) rfl rfl (ld_eq (j := 6) rfl rfl (ld_of (of_winC (sz := Ty.size tyS_api_Packet) hct30 hc41.1 hc41.2 rfl rfl Try.underlying59 sz63 rfl)))⟩, trivial⟩ ?_
    refine tl_pure 4 rfl (fun s36 hw37 => ?_)
    refine tl_pure 7 rfl (fun s39 hw40 => ?_)
    refine tl_done ?_
    obtain ⟨hc42, h⟩ := req_some h
    refine al_copyExt 0 hc42.1 hc42.2.1 hc42.2.2.1 hc42.2.2.2 rfl hct30 hw37 hw40 rfl rfl Try.underlying59 sz63 rfl (fun q43 => ?_)
    refine al_nt ?_
    refine aw_sr ?_
    refine al_mv rfl rfl ?_
    refine al_mv rfl rfl ?_
    obtain ⟨hc44, h⟩ := req_some h
    refine al_winR 0 hc44.1 hc44.2 rfl rfl rfl Try.underlying59 sz63 rfl (fun s45 hw46 => ?_)
    refine al_mv rfl rfl ?_
    obtain ⟨hc47, h⟩ := req_some h
    refine al_copyW 0 hc47.1 hc47.2 rfl hw46 (src_own (i := 0) 1 rfl) rfl rfl Try.underlying59 sz63 rfl (fun q48 => ?_)
    refine al_nt ?_
    refine aw_sr ?_
    refine al_mv rfl rfl ?_
    refine al_as rfl rfl ?_
    refine al_nt ?_
    refine aw_ret ?_
    refine aq_then_ret ?_
    obtain rfl := Option.some.inj h
    exact fn_ret s29 [0] [] rfl rfl rfl rfl (res1 rfl rfl) rfl rfl rfl (by decide)
def f_line_Takes_L29 (kk22 : ((List (List UInt8)) → (List S_api_Packet) → Option (S_api_Receiver × (List S_api_Packet) × Int))) : Nat → (List (List UInt8)) → (List S_api_Packet) → Option (S_api_Receiver × (List S_api_Packet) × Int)
  | 0, _, _ => none
  | k28 + 1, l27x8_0, l27x8_1 => (lt (fun (j30b82 : Bool) => (bif j30b82 then (opt (at? l27x8_1 (0 : Int)) fun (u33 : S_api_Packet) => (req (((l27x8_0.length + ([u33.Text]).length) * 16 : Nat) ≤ 140737488355328 ∧ l27x8_0.length + ([u33.Text]).length ≤ 9223372036854775807) (req (0 ≤ (1 : Int) ∧ (1 : Int) ≤ (l27x8_1.length : Int)) (f_line_Takes_L29 kk22 k28 (l27x8_0 ++ ([u33.Text])) (l27x8_1.drop ((1 : Int)).toNat))))) else (kk22 l27x8_0 l27x8_1))) fun (kk31 : Bool → Option (S_api_Receiver × (List S_api_Packet) × Int)) => (bif (decide ((l27x8_1.length : Int) > (0 : Int))) then (opt (at? l27x8_1 (0 : Int)) fun (u43 : S_api_Packet) => (kk31 (u43.Seq == (l27x8_0.length : Int)))) else (kk31 false)))
def f_line_Takes (fu : Nat) (a0 : S_api_Receiver) (a1 : S_api_Packet) : Option (S_api_Receiver × (List S_api_Packet) × Int) := (opt (f_line_checkReceiver fu a0) fun (r5 : Int) => (bif (r5 != (0 : Int)) then (some ((S_api_Receiver.mk ([] : (List (List UInt8))) ([] : (List S_api_Packet))), ([] : List S_api_Packet), r5)) else (opt (f_slices_Clone___string_string_ fu a0.Got) fun (r9 : (List (List UInt8))) => (opt (f_slices_Clone___api_Packet_api_Packet_ fu a0.Held) fun (r12 : (List S_api_Packet)) => (lt (fun (j14b43 : Bool) => (bif j14b43 then (some ((S_api_Receiver.mk r9 r12), ([] : List S_api_Packet), (0 : Int))) else (opt (f_slices_BinarySearchFunc___api_Packet_api_Packet_int__F72 fu r12 a1.Seq) fun (r18 : (Int × Bool)) => (lt (fun (j19x8_1 : (List S_api_Packet)) => (lt (fun (j21x8_0 : (List (List UInt8))) (j21x8_1 : (List S_api_Packet)) => (opt (f_slices_Clone___api_Packet_api_Packet_ fu j21x8_1) fun (r24 : (List S_api_Packet)) => (some ((S_api_Receiver.mk j21x8_0 r24), [(S_api_Packet.mk (2 : Int) a1.Seq ([] : List UInt8))], (0 : Int))))) fun (kk22 : (List (List UInt8)) → (List S_api_Packet) → Option (S_api_Receiver × (List S_api_Packet) × Int)) => (f_line_Takes_L29 kk22 fu r9 j19x8_1))) fun (kk20 : (List S_api_Packet) → Option (S_api_Receiver × (List S_api_Packet) × Int)) => (lt (fun (j47b60 : Bool) => (bif j47b60 then (opt (f_slices_Insert___api_Packet_api_Packet__own_own fu r12 r18.1 ([a1])) fun (r52 : (List S_api_Packet)) => (kk20 r52)) else (kk20 r12))) fun (kk48 : Bool → Option (S_api_Receiver × (List S_api_Packet) × Int)) => (bif (decide (a1.Seq ≥ (r9.length : Int))) then (kk48 (!r18.2)) else (kk48 false))))))) fun (kk15 : Bool → Option (S_api_Receiver × (List S_api_Packet) × Int)) => (bif (a1.Kind != (1 : Int)) then (kk15 true) else (bif (decide (a1.Seq < (0 : Int))) then (kk15 true) else (kk15 (decide (a1.Seq ≥ (if (2000 : Int) < (IntKind.i64.wrap ((r9.length : Int) + (8 : Int))) then (2000 : Int) else (IntKind.i64.wrap ((r9.length : Int) + (8 : Int))))))))))))))
set_option maxRecDepth 100000 in
set_option maxHeartbeats 2000000 in
set_option maxHeartbeats 2000000 in
theorem f_line_Takes_ok (fu : Nat) (v0_0 : Value) (v0_1 : Value) (a0 : S_api_Receiver) (a1 : S_api_Packet) {r : (S_api_Receiver × (List S_api_Packet) × Int)} (h : f_line_Takes fu a0 a1 = some r) : FnOk Try.prog 24 [(ag [v0_0, v0_1]), (ag [(int .i64 a1.Kind), (int .i64 a1.Seq), (str a1.Text)])] [(fDat (tyList tyStr) [v0_0] a0.Got), (fDat (tyList tyS_api_Packet) [v0_1] a0.Held)] [] (fun (i : Value × Value × Value) => { val := (Value.tuple #[(ag [i.1, i.2.1]), i.2.2, (int .i64 r.2.2)]), own := [(oRow i.2.2 63 tyS_api_Packet r.2.1)], fz := [(fDat (tyList tyStr) [i.1] r.1.Got), (fDat (tyList tyS_api_Packet) [i.2.1] r.1.Held)] }) := by
 unfold f_line_Takes at h
 refine fn_enter Try.func24 rfl Try.ntmps24 rfl (fun w0 Z0 => ?_)
 refine aw_sr ?_
 refine al_box (vs := [v0_0, v0_1]) rfl (cv_rfl rfl) rfl (fun g1 => ?_)
 refine al_box (vs := [(iq a1.Kind), (iq a1.Seq), (str a1.Text)]) rfl (cv_rfl rfl) rfl (fun g2 => ?_)
 refine al_alloc (zs := [nS, nS]) (zeroOf_to to61) rfl rfl (fun g3 => ?_)
 refine al_as rfl rfl ?_
 refine al_as rfl rfl ?_
 refine al_nt ?_
 refine aw_seq ?_
 refine aw_sr ?_
 refine al_val (ov_load (i := 2) (v := (ag [v0_0, v0_1])) rfl rfl Try.underlying61 sz61 rfl rfl rfl rfl) ?_
 obtain ⟨r5, hc4, h⟩ := opt_some h
 refine al_call (vs := [(ag [v0_0, v0_1])]) (f_line_checkReceiver_ok fu v0_0 v0_1 a0 hc4) [] [] [0, 1, 2] (pre_fz 0 rfl (pre_fz 1 rfl pre_nil)) rfl (by simp) (by decide) (.inl rfl) rfl Try.func69 rfl rfl rfl (fun _ => ?_)
 refine al_as rfl rfl ?_
 refine al_nt ?_
 refine aw_sr ?_
 refine al_mv rfl rfl ?_
 refine al_in rfl rfl rfl rfl ?_
 refine al_nt ?_
 refine aw_cond rfl (fun hb6 => ?_) (fun hb6 => ?_)
 ·replace h := bif_t hb6 h
  refine aw_sr ?_
  refine al_val (ov_build (cells := ([nS, nS]).toArray) (cs := [nS, nS]) rfl (fun w a hm hs => by simp only [List.map_toArray, List.map_cons, List.map_nil, List.toList_toArray]; kernel_rfl)) ?_
  refine al_mv rfl rfl ?_
  refine al_store (i := 0) (vs := [nS, nS]) (cs' := [nS, nS]) rfl rfl rfl sz61 (cv_rfl rfl) rfl (co_val rfl (co_val rfl co_nil)) (Nat.le_of_ble_eq_true rfl) rfl rfl ?_
  refine al_as rfl rfl ?_
  refine al_as rfl rfl ?_
  refine al_nt ?_
  refine aw_ret ?_
  refine aq_then_ret ?_
  refine aq_nilD tyStr ?_
  refine aq_nilD tyS_api_Packet ?_
  refine aq_nilR 63 tyS_api_Packet ?_
  obtain rfl := Option.some.inj h
  exact fn_ret (nS, nS, nS) [0] [1, 0] rfl rfl rfl rfl (resC rfl (resB (i := 1) rfl rfl Try.underlying61 sz61 rfl rfl rfl (resT rfl (resT rfl (resN)))) rfl) rfl rfl rfl (by decide)
 ·replace h := bif_f hb6 h
  refine aw_skip ?_
  refine aq_then ?_
  refine aw_seq ?_
  refine aw_region_open [⟨0, 18, Unit, fun _ => { val := (pq g1) }⟩, ⟨1, 19, Unit, fun _ => { val := v0_0 }⟩, ⟨3, 21, Unit, fun _ => { val := (ptr g1 1) }⟩, ⟨4, 22, Unit, fun _ => { val := v0_1 }⟩, ⟨7, 8, Nat, fun (i : Nat) => { val := (pq i), own := [(oBox i 61 [nS, nS])] }⟩] (tab [(2, (pq g1)), (3, (pq g2)), (4, (pq g3))]) mixed (fun a hs => hs.tab _ (allT_mem ⟨rfl, rfl, rfl, trivial⟩)) ?_
  refine ta_show (m := (memOf w0 Z0 [] [(oBox g3 61 [nS, nS]), (oBox g2 63 [(iq a1.Kind), (iq a1.Seq), (str a1.Text)]), (oBox g1 61 [v0_0, v0_1])] [(fDat (tyList tyStr) [v0_0] a0.Got), (fDat (tyList tyS_api_Packet) [v0_1] a0.Held)])) (S := (tab [(2, (pq g1)), (3, (pq g2)), (4, (pq g3))])) ?_
  refine ta_step 2 _ [0, 1, 3, 4, 7] [18, 19, 21, 22, 8] [0, 1] [] [⟨0, 18, Unit, fun _ => { val := (pq g1) }⟩, ⟨1, 19, Unit, fun _ => { val := v0_0 }⟩] [⟨3, 21, Unit, fun _ => { val := (ptr g1 1) }⟩, ⟨4, 22, Unit, fun _ => { val := v0_1 }⟩, ⟨7, 8, Nat, fun (i : Nat) => { val := (pq i), own := [(oBox i 61 [nS, nS])] }⟩] rfl rfl rfl (by kernel_rfl) rfl rfl rfl ⟨⟨_, rfl, [], rfl, by
 intro X_ Y_ F_ K_ hK_
 refine al_show (m := Mem.plus (memOf w0 Z0 [] [(oBox g3 61 [nS, nS]), (oBox g2 63 [(iq a1.Kind), (iq a1.Seq), (str a1.Text)]), (oBox g1 61 [v0_0, v0_1])] [(fDat (tyList tyStr) [v0_0] a0.Got), (fDat (tyList tyS_api_Packet) [v0_1] a0.Held)]) X_ Y_) (S := over (tab [(2, (pq g1)), (3, (pq g2)), (4, (pq g3))]) F_) ?_
 refine al_val (ov_fieldA (p := 0) rfl Try.underlying61 rfl sz23 rfl rfl rfl) ?_
 refine al_nil ?_
 exact fr_fin hK_ ()⟩, ⟨_, rfl, [0], rfl, by
 intro _
 intro X_ Y_ F_ K_ hK_
 refine al_show (m := Mem.plus (memOf w0 Z0 [] [(oBox g3 61 [nS, nS]), (oBox g2 63 [(iq a1.Kind), (iq a1.Seq), (str a1.Text)]), (oBox g1 61 [v0_0, v0_1])] [(fDat (tyList tyStr) [v0_0] a0.Got), (fDat (tyList tyS_api_Packet) [v0_1] a0.Held)]) X_ Y_) (S := over (put (tab [(2, (pq g1)), (3, (pq g2)), (4, (pq g3))]) 18 (pq g1)) F_) ?_
 refine al_val (ov_load (i := 2) (v := v0_0) rfl rfl Try.underlying23 sz23 rfl rfl rfl rfl) ?_
 refine al_nil ?_
 exact fr_fin hK_ ()⟩, ⟨_, rfl, [], rfl, by
 intro X_ Y_ F_ K_ hK_
 refine al_show (m := Mem.plus (memOf w0 Z0 [] [(oBox g3 61 [nS, nS]), (oBox g2 63 [(iq a1.Kind), (iq a1.Seq), (str a1.Text)]), (oBox g1 61 [v0_0, v0_1])] [(fDat (tyList tyStr) [v0_0] a0.Got), (fDat (tyList tyS_api_Packet) [v0_1] a0.Held)]) X_ Y_) (S := over (tab [(2, (pq g1)), (3, (pq g2)), (4, (pq g3))]) F_) ?_
 refine al_val (ov_fieldA (p := 1) rfl Try.underlying61 rfl sz59 rfl rfl rfl) ?_
 refine al_nil ?_
 exact fr_fin hK_ ()⟩, ⟨_, rfl, [2], rfl, by
 intro _
 intro X_ Y_ F_ K_ hK_
 refine al_show (m := Mem.plus (memOf w0 Z0 [] [(oBox g3 61 [nS, nS]), (oBox g2 63 [(iq a1.Kind), (iq a1.Seq), (str a1.Text)]), (oBox g1 61 [v0_0, v0_1])] [(fDat (tyList tyStr) [v0_0] a0.Got), (fDat (tyList tyS_api_Packet) [v0_1] a0.Held)]) X_ Y_) (S := over (put (tab [(2, (pq g1)), (3, (pq g2)), (4, (pq g3))]) 21 (ptr g1 1)) F_) ?_
 refine al_val (ov_load (i := 2) (v := v0_1) rfl rfl Try.underlying59 sz59 rfl rfl rfl rfl) ?_
 refine al_nil ?_
 exact fr_fin hK_ ()⟩, ⟨_, rfl, [], rfl, by
 intro X_ Y_ F_ K_ hK_
 refine al_show (m := Mem.plus (memOf w0 Z0 [] [(oBox g3 61 [nS, nS]), (oBox g2 63 [(iq a1.Kind), (iq a1.Seq), (str a1.Text)]), (oBox g1 61 [v0_0, v0_1])] [(fDat (tyList tyStr) [v0_0] a0.Got), (fDat (tyList tyS_api_Packet) [v0_1] a0.Held)]) X_ Y_) (S := over (tab [(2, (pq g1)), (3, (pq g2)), (4, (pq g3))]) F_) ?_
 refine al_alloc (zs := [nS, nS]) (zeroOf_to to61) rfl rfl (fun g7 => ?_)
 refine al_nil ?_
 exact fr_fin hK_ g7⟩, trivial⟩ ?_
  intro _
  intro _
  intro X_ Y_ F_ K_ hK_
  refine al_show (m := Mem.plus (memOf w0 Z0 [] [(oBox g3 61 [nS, nS]), (oBox g2 63 [(iq a1.Kind), (iq a1.Seq), (str a1.Text)]), (oBox g1 61 [v0_0, v0_1])] [(fDat (tyList tyStr) [v0_0] a0.Got), (fDat (tyList tyS_api_Packet) [v0_1] a0.Held)]) X_ Y_) (S := over (put (put (tab [(2, (pq g1)), (3, (pq g2)), (4, (pq g3))]) 18 (pq g1)) 19 v0_0) F_) ?_
  obtain ⟨r9, hc8, h⟩ := opt_some h
  refine al_callX (vs := [v0_0]) (f_slices_Clone___string_string__ok fu v0_0 a0.Got hc8) [] [] [0, 1, 2] (pre_fz 0 rfl pre_nil) rfl (by simp) (by decide) rfl (.inl rfl) rfl Try.func67 rfl rfl rfl (fun v10 => ?_)
  refine al_nil ?_
  refine aq_show (m := Mem.plus (memOf w0 Z0 [] [(oRow v10 9 tyStr r9), (oBox g3 61 [nS, nS]), (oBox g2 63 [(iq a1.Kind), (iq a1.Seq), (str a1.Text)]), (oBox g1 61 [v0_0, v0_1])] [(fDat (tyList tyStr) [v0_0] a0.Got), (fDat (tyList tyS_api_Packet) [v0_1] a0.Held)]) X_ Y_) ?_
  refine aq_next hK_ [0, 1, 2, 3] [0, 1] [(2, (pq g1)), (3, (pq g2)), (4, (pq g3)), (20, v10)] [21, 22, 8] [] rfl rfl (by decide) rfl ⟨rfl, rfl, rfl, rfl, trivial⟩ ⟨rfl, rfl, rfl, trivial⟩ ?_
  clear hK_ K_ F_ X_ Y_
  refine ta_show (m := (memOf w0 Z0 [] [(oRow v10 9 tyStr r9), (oBox g3 61 [nS, nS]), (oBox g2 63 [(iq a1.Kind), (iq a1.Seq), (str a1.Text)]), (oBox g1 61 [v0_0, v0_1])] [(fDat (tyList tyStr) [v0_0] a0.Got), (fDat (tyList tyS_api_Packet) [v0_1] a0.Held)])) (S := (tab [(2, (pq g1)), (3, (pq g2)), (4, (pq g3)), (20, v10)])) ?_
  refine ta_step 5 _ [3, 4, 7] [21, 22, 8] [3, 4] [6] [⟨3, 21, Unit, fun _ => { val := (ptr g1 1) }⟩, ⟨4, 22, Unit, fun _ => { val := v0_1 }⟩] [⟨7, 8, Nat, fun (i : Nat) => { val := (pq i), own := [(oBox i 61 [nS, nS])] }⟩] rfl rfl rfl (by kernel_rfl) rfl rfl rfl ⟨⟨_, rfl, [], rfl, by
 intro X_ Y_ F_ K_ hK_
 refine al_show (m := Mem.plus (memOf w0 Z0 [] [(oRow v10 9 tyStr r9), (oBox g3 61 [nS, nS]), (oBox g2 63 [(iq a1.Kind), (iq a1.Seq), (str a1.Text)]), (oBox g1 61 [v0_0, v0_1])] [(fDat (tyList tyStr) [v0_0] a0.Got), (fDat (tyList tyS_api_Packet) [v0_1] a0.Held)]) X_ Y_) (S := over (tab [(2, (pq g1)), (3, (pq g2)), (4, (pq g3)), (20, v10)]) F_) ?_
 refine al_val (ov_fieldA (p := 1) rfl Try.underlying61 rfl sz59 rfl rfl rfl) ?_
 refine al_nil ?_
 exact fr_fin hK_ ()⟩, ⟨_, rfl, [0], rfl, by
 intro _
 intro X_ Y_ F_ K_ hK_
 refine al_show (m := Mem.plus (memOf w0 Z0 [] [(oRow v10 9 tyStr r9), (oBox g3 61 [nS, nS]), (oBox g2 63 [(iq a1.Kind), (iq a1.Seq), (str a1.Text)]), (oBox g1 61 [v0_0, v0_1])] [(fDat (tyList tyStr) [v0_0] a0.Got), (fDat (tyList tyS_api_Packet) [v0_1] a0.Held)]) X_ Y_) (S := over (put (tab [(2, (pq g1)), (3, (pq g2)), (4, (pq g3)), (20, v10)]) 21 (ptr g1 1)) F_) ?_
 refine al_val (ov_load (i := 3) (v := v0_1) rfl rfl Try.underlying59 sz59 rfl rfl rfl rfl) ?_
 refine al_nil ?_
 exact fr_fin hK_ ()⟩, ⟨_, rfl, [], rfl, by
 intro X_ Y_ F_ K_ hK_
 refine al_show (m := Mem.plus (memOf w0 Z0 [] [(oRow v10 9 tyStr r9), (oBox g3 61 [nS, nS]), (oBox g2 63 [(iq a1.Kind), (iq a1.Seq), (str a1.Text)]), (oBox g1 61 [v0_0, v0_1])] [(fDat (tyList tyStr) [v0_0] a0.Got), (fDat (tyList tyS_api_Packet) [v0_1] a0.Held)]) X_ Y_) (S := over (tab [(2, (pq g1)), (3, (pq g2)), (4, (pq g3)), (20, v10)]) F_) ?_
 refine al_alloc (zs := [nS, nS]) (zeroOf_to to61) rfl rfl (fun g7 => ?_)
 refine al_nil ?_
 exact fr_fin hK_ g7⟩, trivial⟩ ?_
  intro _
  intro _
  intro X_ Y_ F_ K_ hK_
  refine al_show (m := Mem.plus (memOf w0 Z0 [] [(oRow v10 9 tyStr r9), (oBox g3 61 [nS, nS]), (oBox g2 63 [(iq a1.Kind), (iq a1.Seq), (str a1.Text)]), (oBox g1 61 [v0_0, v0_1])] [(fDat (tyList tyStr) [v0_0] a0.Got), (fDat (tyList tyS_api_Packet) [v0_1] a0.Held)]) X_ Y_) (S := over (put (put (tab [(2, (pq g1)), (3, (pq g2)), (4, (pq g3)), (20, v10)]) 21 (ptr g1 1)) 22 v0_1) F_) ?_
  obtain ⟨r12, hc11, h⟩ := opt_some h
  refine al_callX (vs := [v0_1]) (f_slices_Clone___api_Packet_api_Packet__ok fu v0_1 a0.Held hc11) [] [] [0, 1, 2, 3] (pre_fz 1 rfl pre_nil) rfl (by simp) (by decide) rfl (.inl rfl) rfl Try.func70 rfl rfl rfl (fun v13 => ?_)
  refine al_nil ?_
  refine aq_show (m := Mem.plus (memOf w0 Z0 [] [(oRow v13 63 tyS_api_Packet r12), (oRow v10 9 tyStr r9), (oBox g3 61 [nS, nS]), (oBox g2 63 [(iq a1.Kind), (iq a1.Seq), (str a1.Text)]), (oBox g1 61 [v0_0, v0_1])] [(fDat (tyList tyStr) [v0_0] a0.Got), (fDat (tyList tyS_api_Packet) [v0_1] a0.Held)]) X_ Y_) ?_
  refine aq_next hK_ [0, 1, 2, 3, 4] [0, 1] [(3, (pq g2)), (4, (pq g3)), (20, v10), (23, v13)] [8] [⟨6, 24, Unit, fun _ => { val := (ag [v10, v13]) }⟩] rfl rfl (by decide) rfl ⟨rfl, rfl, rfl, rfl, trivial⟩ ⟨rfl, trivial⟩ ?_
  clear hK_ K_ F_ X_ Y_
  refine ta_show (m := (memOf w0 Z0 [] [(oRow v13 63 tyS_api_Packet r12), (oRow v10 9 tyStr r9), (oBox g3 61 [nS, nS]), (oBox g2 63 [(iq a1.Kind), (iq a1.Seq), (str a1.Text)]), (oBox g1 61 [v0_0, v0_1])] [(fDat (tyList tyStr) [v0_0] a0.Got), (fDat (tyList tyS_api_Packet) [v0_1] a0.Held)])) (S := (tab [(3, (pq g2)), (4, (pq g3)), (20, v10), (23, v13)])) ?_
  refine ta_step 8 _ [7, 6] [8, 24] [7, 6] [] [⟨7, 8, Nat, fun (i : Nat) => { val := (pq i), own := [(oBox i 61 [nS, nS])] }⟩, ⟨6, 24, Unit, fun _ => { val := (ag [v10, v13]) }⟩] [] rfl rfl rfl (by kernel_rfl) rfl rfl rfl ⟨⟨_, rfl, [], rfl, by
 intro X_ Y_ F_ K_ hK_
 refine al_show (m := Mem.plus (memOf w0 Z0 [] [(oRow v13 63 tyS_api_Packet r12), (oRow v10 9 tyStr r9), (oBox g3 61 [nS, nS]), (oBox g2 63 [(iq a1.Kind), (iq a1.Seq), (str a1.Text)]), (oBox g1 61 [v0_0, v0_1])] [(fDat (tyList tyStr) [v0_0] a0.Got), (fDat (tyList tyS_api_Packet) [v0_1] a0.Held)]) X_ Y_) (S := over (tab [(3, (pq g2)), (4, (pq g3)), (20, v10), (23, v13)]) F_) ?_
 refine al_alloc (zs := [nS, nS]) (zeroOf_to to61) rfl rfl (fun g7 => ?_)
 refine al_nil ?_
 exact fr_fin hK_ g7⟩, ⟨_, rfl, [], rfl, by
 intro X_ Y_ F_ K_ hK_
 refine al_show (m := Mem.plus (memOf w0 Z0 [] [(oRow v13 63 tyS_api_Packet r12), (oRow v10 9 tyStr r9), (oBox g3 61 [nS, nS]), (oBox g2 63 [(iq a1.Kind), (iq a1.Seq), (str a1.Text)]), (oBox g1 61 [v0_0, v0_1])] [(fDat (tyList tyStr) [v0_0] a0.Got), (fDat (tyList tyS_api_Packet) [v0_1] a0.Held)]) X_ Y_) (S := over (tab [(3, (pq g2)), (4, (pq g3)), (20, v10), (23, v13)]) F_) ?_
 refine al_val (ov_build (cells := ([v10, v13]).toArray) (cs := [v10, v13]) rfl (fun w a hm hs => by simp only [List.map_toArray, List.map_cons, List.map_nil, List.toList_toArray, hs.ev (x := .tmp 20) rfl, hs.ev (x := .tmp 23) rfl]; obtain ⟨A0, l0, c0, e0⟩ := sl_own 1 rfl hm; rw [e0]; obtain ⟨A1, l1, c1, e1⟩ := sl_own 0 rfl hm; rw [e1]; kernel_rfl)) ?_
 refine al_nil ?_
 exact fr_fin hK_ ()⟩, trivial⟩ ?_
  intro g7
  intro _
  intro X_ Y_ F_ K_ hK_
  refine al_show (m := Mem.plus (memOf w0 Z0 [] [(oBox g7 61 [nS, nS]), (oRow v13 63 tyS_api_Packet r12), (oRow v10 9 tyStr r9), (oBox g3 61 [nS, nS]), (oBox g2 63 [(iq a1.Kind), (iq a1.Seq), (str a1.Text)]), (oBox g1 61 [v0_0, v0_1])] [(fDat (tyList tyStr) [v0_0] a0.Got), (fDat (tyList tyS_api_Packet) [v0_1] a0.Held)]) X_ Y_) (S := over (put (put (tab [(3, (pq g2)), (4, (pq g3)), (20, v10), (23, v13)]) 8 (pq g7)) 24 (ag [v10, v13])) F_) ?_
  refine al_store (i := 0) (vs := [v10, v13]) (cs' := [v10, v13]) rfl rfl rfl sz61 (cv_rfl rfl) rfl (co_own 2 rfl (co_own 1 rfl co_nil)) (Nat.le_of_ble_eq_true rfl) rfl rfl ?_
  refine al_nil ?_
  refine aq_show (m := Mem.plus (memOf w0 Z0 [] [(oBox g7 61 [v10, v13]), (oRow v13 63 tyS_api_Packet r12), (oRow v10 9 tyStr r9), (oBox g3 61 [nS, nS]), (oBox g2 63 [(iq a1.Kind), (iq a1.Seq), (str a1.Text)]), (oBox g1 61 [v0_0, v0_1])] [(fDat (tyList tyStr) [v0_0] a0.Got), (fDat (tyList tyS_api_Packet) [v0_1] a0.Held)]) X_ Y_) ?_
  refine aq_next hK_ [0, 1, 2, 3, 4, 5] [0, 1] [(3, (pq g2)), (4, (pq g3)), (8, (pq g7))] [] [] rfl rfl (by decide) rfl ⟨rfl, rfl, rfl, trivial⟩ trivial ?_
  clear hK_ K_ F_ X_ Y_
  refine ta_show (m := (memOf w0 Z0 [] [(oBox g7 61 [v10, v13]), (oRow v13 63 tyS_api_Packet r12), (oRow v10 9 tyStr r9), (oBox g3 61 [nS, nS]), (oBox g2 63 [(iq a1.Kind), (iq a1.Seq), (str a1.Text)]), (oBox g1 61 [v0_0, v0_1])] [(fDat (tyList tyStr) [v0_0] a0.Got), (fDat (tyList tyS_api_Packet) [v0_1] a0.Held)])) (S := (tab [(3, (pq g2)), (4, (pq g3)), (8, (pq g7))])) ?_
  refine ta_end [] [] rfl rfl (by kernel_rfl) rfl trivial ?_
  refine aq_show (m := (memOf w0 Z0 [] [(oBox g7 61 [v10, v13]), (oRow v13 63 tyS_api_Packet r12), (oRow v10 9 tyStr r9), (oBox g3 61 [nS, nS]), (oBox g2 63 [(iq a1.Kind), (iq a1.Seq), (str a1.Text)]), (oBox g1 61 [v0_0, v0_1])] [(fDat (tyList tyStr) [v0_0] a0.Got), (fDat (tyList tyS_api_Packet) [v0_1] a0.Held)])) (S := (tab [(3, (pq g2)), (4, (pq g3)), (8, (pq g7))])) ?_
  refine aq_tr ?_
  refine al_val (ov_fieldA (p := 0) rfl Try.underlying61 rfl sz23 rfl rfl rfl) ?_
  refine al_val (ov_load (i := 0) (v := v10) rfl rfl Try.underlying23 sz23 rfl rfl rfl rfl) ?_
  refine al_val (ov_lenR 2 rfl rfl Try.underlying23 rfl) ?_
  refine al_as rfl rfl ?_
  refine al_nt ?_
  refine aw_seq ?_
  obtain ⟨kk15, hkk15, h⟩ := lt_some h
  refine aw_seq_join (ι := Bool) (fun i => (memOf w0 Z0 [] [(oBox g2 63 [(iq a1.Kind), (iq a1.Seq), (str a1.Text)]), (oBox g3 61 [nS, nS]), (oRow v10 9 tyStr r9), (oRow v13 63 tyS_api_Packet r12), (oBox g7 61 [v10, v13])] [(fDat (tyList tyStr) [v0_0] a0.Got), (fDat (tyList tyS_api_Packet) [v0_1] a0.Held)])) (fun i => (tab [(3, (pq g2)), (4, (pq g3)), (8, (pq g7)), (9, (iq (r9.length : Int))), (43, (bool i))])) (fun i => kk15 i = some r) ?_ ?_
  ·rintro j14b43 h
   have h : kk15 j14b43 = some r := h
   rw [hkk15] at h
   dsimp only at h
   clear hkk15
   refine aw_show (m := (memOf w0 Z0 [] [(oBox g2 63 [(iq a1.Kind), (iq a1.Seq), (str a1.Text)]), (oBox g3 61 [nS, nS]), (oRow v10 9 tyStr r9), (oRow v13 63 tyS_api_Packet r12), (oBox g7 61 [v10, v13])] [(fDat (tyList tyStr) [v0_0] a0.Got), (fDat (tyList tyS_api_Packet) [v0_1] a0.Held)])) (S := (tab [(3, (pq g2)), (4, (pq g3)), (8, (pq g7)), (9, (iq (r9.length : Int))), (43, (bool j14b43))])) ?_
   refine aw_cond rfl (fun hb16 => ?_) (fun hb16 => ?_)
   ·replace h := bif_t hb16 h
    refine aw_sr ?_
    refine al_val (ov_load (i := 4) (v := (ag [v10, v13])) rfl rfl Try.underlying61 sz61 rfl rfl rfl rfl) ?_
    refine al_store (i := 1) (vs := [v10, v13]) (cs' := [v10, v13]) rfl rfl rfl sz61 (cv_rfl rfl) rfl (co_own 2 rfl (co_own 3 rfl co_nil)) (Nat.le_of_ble_eq_true rfl) rfl rfl ?_
    refine al_as rfl rfl ?_
    refine al_as rfl rfl ?_
    refine al_nt ?_
    refine aw_ret ?_
    refine aq_then_ret ?_
    refine aq_freeze 2 rfl rfl ?_
    refine aq_freeze 2 rfl rfl ?_
    refine aq_nilR 63 tyS_api_Packet ?_
    obtain rfl := Option.some.inj h
    exact fn_ret (v10, v13, nS) [0] [1, 0] rfl rfl rfl rfl (resC rfl (resB (i := 2) rfl rfl Try.underlying61 sz61 rfl rfl rfl (resT rfl (resT rfl (resN)))) rfl) rfl rfl rfl (by decide)
   ·replace h := bif_f hb16 h
    refine aw_skip ?_
    refine aq_tr ?_
    refine al_val (ov_fieldA (p := 1) rfl Try.underlying61 rfl sz59 rfl rfl rfl) ?_
    refine al_val (ov_load (i := 4) (v := v13) rfl rfl Try.underlying59 sz59 rfl rfl rfl rfl) ?_
    refine al_val (ov_fieldA (p := 1) rfl Try.underlying63 rfl sz3 rfl rfl rfl) ?_
    refine al_val (ov_load (i := 0) (v := (iq a1.Seq)) rfl rfl Try.underlying3 sz3 rfl rfl rfl rfl) ?_
    obtain ⟨r18, hc17, h⟩ := opt_some h
    refine al_call (vs := [v13, (iq a1.Seq), (fq 72)]) (f_slices_BinarySearchFunc___api_Packet_api_Packet_int__F72_ok fu v13 r12 a1.Seq hc17) [3] [] [0, 1, 2, 3, 4] (pre_own 3 rfl rfl pre_nil) rfl (by simp) (by decide) (.inr flat_res0) rfl Try.func71 rfl rfl rfl (fun _ => ?_)
    refine al_mv rfl rfl ?_
    refine al_ex rfl rfl rfl ?_
    refine al_ex rfl rfl rfl ?_
    refine al_as rfl rfl ?_
    refine al_as rfl rfl ?_
    refine al_nt ?_
    obtain ⟨kk20, hkk20, h⟩ := lt_some h
    refine aw_seq_join (ι := Value × (List S_api_Packet)) (fun i => (memOf w0 Z0 [] [(oBox g2 63 [(iq a1.Kind), (iq a1.Seq), (str a1.Text)]), (oBox g3 61 [nS, nS]), (oRow v10 9 tyStr r9), (oRow i.1 63 tyS_api_Packet i.2), (oBox g7 61 [v10, i.1])] [(fDat (tyList tyStr) [v0_0] a0.Got), (fDat (tyList tyS_api_Packet) [v0_1] a0.Held)])) (fun i => (tab [(3, (pq g2)), (4, (pq g3)), (8, (pq g7))])) (fun i => kk20 i.2 = some r) ?_ ?_
    ·rintro ⟨j19v8_1, j19x8_1⟩ h
     have h : kk20 j19x8_1 = some r := h
     rw [hkk20] at h
     dsimp only at h
     clear hkk20
     refine aw_show (m := (memOf w0 Z0 [] [(oBox g2 63 [(iq a1.Kind), (iq a1.Seq), (str a1.Text)]), (oBox g3 61 [nS, nS]), (oRow v10 9 tyStr r9), (oRow j19v8_1 63 tyS_api_Packet j19x8_1), (oBox g7 61 [v10, j19v8_1])] [(fDat (tyList tyStr) [v0_0] a0.Got), (fDat (tyList tyS_api_Packet) [v0_1] a0.Held)])) (S := (tab [(3, (pq g2)), (4, (pq g3)), (8, (pq g7))])) ?_
     obtain ⟨kk22, hkk22, h⟩ := lt_some h
     refine aw_seq_join (ι := Value × (List (List UInt8)) × Value × (List S_api_Packet)) (fun i => (memOf w0 Z0 [] [(oBox g2 63 [(iq a1.Kind), (iq a1.Seq), (str a1.Text)]), (oBox g3 61 [nS, nS]), (oRow i.1 9 tyStr i.2.1), (oBox g7 61 [i.1, i.2.2.1])] [(fDat (tyList tyS_api_Packet) [i.2.2.1] i.2.2.2), (fDat (tyList tyStr) [v0_0] a0.Got), (fDat (tyList tyS_api_Packet) [v0_1] a0.Held)])) (fun i => (tab [(3, (pq g2)), (4, (pq g3)), (8, (pq g7))])) (fun i => kk22 i.2.1 i.2.2.2 = some r) ?_ ?_
     ·rintro ⟨j21v8_0, j21x8_0, j21v8_1, j21x8_1⟩ h
      have h : kk22 j21x8_0 j21x8_1 = some r := h
      rw [hkk22] at h
      dsimp only at h
      clear hkk22
      refine aw_show (m := (memOf w0 Z0 [] [(oBox g2 63 [(iq a1.Kind), (iq a1.Seq), (str a1.Text)]), (oBox g3 61 [nS, nS]), (oRow j21v8_0 9 tyStr j21x8_0), (oBox g7 61 [j21v8_0, j21v8_1])] [(fDat (tyList tyS_api_Packet) [j21v8_1] j21x8_1), (fDat (tyList tyStr) [v0_0] a0.Got), (fDat (tyList tyS_api_Packet) [v0_1] a0.Held)])) (S := (tab [(3, (pq g2)), (4, (pq g3)), (8, (pq g7))])) ?_
      refine aw_sr ?_
      refine al_val (ov_fieldA (p := 1) rfl Try.underlying61 rfl sz59 rfl rfl rfl) ?_
      refine al_val (ov_load (i := 3) (v := j21v8_1) rfl rfl Try.underlying59 sz59 rfl rfl rfl rfl) ?_
      obtain ⟨r24, hc23, h⟩ := opt_some h
      refine al_call (vs := [j21v8_1]) (f_slices_Clone___api_Packet_api_Packet__ok fu j21v8_1 j21x8_1 hc23) [] [] [0, 1, 2, 3] (pre_fz 0 rfl pre_nil) rfl (by simp) (by decide) (.inl rfl) rfl Try.func70 rfl rfl rfl (fun v25 => ?_)
      refine al_val (ov_fieldA (p := 1) rfl Try.underlying61 rfl sz59 rfl rfl rfl) ?_
      refine al_store (i := 4) (vs := [v25]) (cs' := [j21v8_0, v25]) rfl rfl rfl sz59 (cv_own 0 rfl) rfl (co_own 0 rfl co_nil) (Nat.le_of_ble_eq_true rfl) rfl rfl ?_
      refine al_nt ?_
      refine aw_seq ?_
      refine aw_region_open [⟨0, 101, Unit, fun _ => { val := (ag [j21v8_0, v25]) }⟩, ⟨1, 102, Unit, fun _ => { val := (ptr g2 1) }⟩, ⟨2, 103, Unit, fun _ => { val := (iq a1.Seq) }⟩, ⟨3, 104, Unit, fun _ => { val := (ag [(iq (2 : Int)), (iq a1.Seq), (str ([] : List UInt8))]) }⟩, ⟨4, 105, Value, fun (i : Value) => { val := i, own := [(oRow i 63 tyS_api_Packet [(S_api_Packet.mk (2 : Int) a1.Seq ([] : List UInt8))])] }⟩] (tab [(3, (pq g2)), (4, (pq g3)), (8, (pq g7))]) mixed (fun a hs => hs.tab _ (allT_mem ⟨rfl, rfl, rfl, trivial⟩)) ?_
      refine ta_show (m := (memOf w0 Z0 [] [(oRow v25 63 tyS_api_Packet r24), (oBox g2 63 [(iq a1.Kind), (iq a1.Seq), (str a1.Text)]), (oBox g3 61 [nS, nS]), (oRow j21v8_0 9 tyStr j21x8_0), (oBox g7 61 [j21v8_0, v25])] [(fDat (tyList tyS_api_Packet) [j21v8_1] j21x8_1), (fDat (tyList tyStr) [v0_0] a0.Got), (fDat (tyList tyS_api_Packet) [v0_1] a0.Held)])) (S := (tab [(3, (pq g2)), (4, (pq g3)), (8, (pq g7))])) ?_
      refine ta_step 5 _ [0, 1, 2, 3, 4] [101, 102, 103, 104, 105] [0] [] [⟨0, 101, Unit, fun _ => { val := (ag [j21v8_0, v25]) }⟩] [⟨1, 102, Unit, fun _ => { val := (ptr g2 1) }⟩, ⟨2, 103, Unit, fun _ => { val := (iq a1.Seq) }⟩, ⟨3, 104, Unit, fun _ => { val := (ag [(iq (2 : Int)), (iq a1.Seq), (str ([] : List UInt8))]) }⟩, ⟨4, 105, Value, fun (i : Value) => { val := i, own := [(oRow i 63 tyS_api_Packet [(S_api_Packet.mk (2 : Int) a1.Seq ([] : List UInt8))])] }⟩] rfl rfl rfl (by kernel_rfl) rfl rfl rfl ⟨⟨_, rfl, [], rfl, by
 intro X_ Y_ F_ K_ hK_
 refine al_show (m := Mem.plus (memOf w0 Z0 [] [(oRow v25 63 tyS_api_Packet r24), (oBox g2 63 [(iq a1.Kind), (iq a1.Seq), (str a1.Text)]), (oBox g3 61 [nS, nS]), (oRow j21v8_0 9 tyStr j21x8_0), (oBox g7 61 [j21v8_0, v25])] [(fDat (tyList tyS_api_Packet) [j21v8_1] j21x8_1), (fDat (tyList tyStr) [v0_0] a0.Got), (fDat (tyList tyS_api_Packet) [v0_1] a0.Held)]) X_ Y_) (S := over (tab [(3, (pq g2)), (4, (pq g3)), (8, (pq g7))]) F_) ?_
 refine al_val (ov_load (i := 4) (v := (ag [j21v8_0, v25])) rfl rfl Try.underlying61 sz61 rfl rfl rfl rfl) ?_
 refine al_nil ?_
 exact fr_fin hK_ ()⟩, ⟨_, rfl, [], rfl, by
 intro X_ Y_ F_ K_ hK_
 refine al_show (m := Mem.plus (memOf w0 Z0 [] [(oRow v25 63 tyS_api_Packet r24), (oBox g2 63 [(iq a1.Kind), (iq a1.Seq), (str a1.Text)]), (oBox g3 61 [nS, nS]), (oRow j21v8_0 9 tyStr j21x8_0), (oBox g7 61 [j21v8_0, v25])] [(fDat (tyList tyS_api_Packet) [j21v8_1] j21x8_1), (fDat (tyList tyStr) [v0_0] a0.Got), (fDat (tyList tyS_api_Packet) [v0_1] a0.Held)]) X_ Y_) (S := over (tab [(3, (pq g2)), (4, (pq g3)), (8, (pq g7))]) F_) ?_
 refine al_val (ov_fieldA (p := 1) rfl Try.underlying63 rfl sz3 rfl rfl rfl) ?_
 refine al_nil ?_
 exact fr_fin hK_ ()⟩, ⟨_, rfl, [1], rfl, by
 intro _
 intro X_ Y_ F_ K_ hK_
 refine al_show (m := Mem.plus (memOf w0 Z0 [] [(oRow v25 63 tyS_api_Packet r24), (oBox g2 63 [(iq a1.Kind), (iq a1.Seq), (str a1.Text)]), (oBox g3 61 [nS, nS]), (oRow j21v8_0 9 tyStr j21x8_0), (oBox g7 61 [j21v8_0, v25])] [(fDat (tyList tyS_api_Packet) [j21v8_1] j21x8_1), (fDat (tyList tyStr) [v0_0] a0.Got), (fDat (tyList tyS_api_Packet) [v0_1] a0.Held)]) X_ Y_) (S := over (put (tab [(3, (pq g2)), (4, (pq g3)), (8, (pq g7))]) 102 (ptr g2 1)) F_) ?_
 refine al_val (ov_load (i := 1) (v := (iq a1.Seq)) rfl rfl Try.underlying3 sz3 rfl rfl rfl rfl) ?_
 refine al_nil ?_
 exact fr_fin hK_ ()⟩, ⟨_, rfl, [2], rfl, by
 intro _
 intro X_ Y_ F_ K_ hK_
 refine al_show (m := Mem.plus (memOf w0 Z0 [] [(oRow v25 63 tyS_api_Packet r24), (oBox g2 63 [(iq a1.Kind), (iq a1.Seq), (str a1.Text)]), (oBox g3 61 [nS, nS]), (oRow j21v8_0 9 tyStr j21x8_0), (oBox g7 61 [j21v8_0, v25])] [(fDat (tyList tyS_api_Packet) [j21v8_1] j21x8_1), (fDat (tyList tyStr) [v0_0] a0.Got), (fDat (tyList tyS_api_Packet) [v0_1] a0.Held)]) X_ Y_) (S := over (put (tab [(3, (pq g2)), (4, (pq g3)), (8, (pq g7))]) 103 (iq a1.Seq)) F_) ?_
 refine al_val (ov_build (cells := ([(iq (2 : Int)), (iq a1.Seq), (str ([] : List UInt8))]).toArray) (cs := [(iq (2 : Int)), (iq a1.Seq), (str ([] : List UInt8))]) rfl (fun w a hm hs => by simp only [List.map_toArray, List.map_cons, List.map_nil, List.toList_toArray, hs.ev (x := .const (iq (2 : Int))) rfl, hs.ev (x := .tmp 103) rfl]; kernel_rfl)) ?_
 refine al_nil ?_
 exact fr_fin hK_ ()⟩, ⟨_, rfl, [3], rfl, by
 intro _
 intro X_ Y_ F_ K_ hK_
 refine al_show (m := Mem.plus (memOf w0 Z0 [] [(oRow v25 63 tyS_api_Packet r24), (oBox g2 63 [(iq a1.Kind), (iq a1.Seq), (str a1.Text)]), (oBox g3 61 [nS, nS]), (oRow j21v8_0 9 tyStr j21x8_0), (oBox g7 61 [j21v8_0, v25])] [(fDat (tyList tyS_api_Packet) [j21v8_1] j21x8_1), (fDat (tyList tyStr) [v0_0] a0.Got), (fDat (tyList tyS_api_Packet) [v0_1] a0.Held)]) X_ Y_) (S := over (put (tab [(3, (pq g2)), (4, (pq g3)), (8, (pq g7))]) 104 (ag [(iq (2 : Int)), (iq a1.Seq), (str ([] : List UInt8))])) F_) ?_
 refine al_buildSlice (τ := tyS_api_Packet) (e := 63) (k := 1) (sz := 0) (by_ := 0) (z := undef) (cs := [(iq (2 : Int)), (iq a1.Seq), (str ([] : List UInt8))]) (xs := [(S_api_Packet.mk (2 : Int) a1.Seq ([] : List UInt8))]) rfl (by decide) (fun w a hm hs => ⟨([(iq (2 : Int)), (iq a1.Seq), (str ([] : List UInt8))]).toArray, rfl, by simp only [List.map_toArray, List.map_cons, List.map_nil, hs.ev (x := .tmp 104) rfl]; exact run_bs [(ag [(iq (2 : Int)), (iq a1.Seq), (str ([] : List UInt8))])] [(iq (2 : Int)), (iq a1.Seq), (str ([] : List UInt8))] Try.underlying59 to63 rfl rfl (bs_cons (l := [(iq (2 : Int)), (iq a1.Seq), (str ([] : List UInt8))]) (cs := []) (cv_rfl rfl) rfl bs_nil) hm⟩) (fun hm => ⟨_, _, rfl, (fun _ => mkS_api_Packet rfl) hm, rfl⟩) rfl (fun v26 => ?_)
 refine al_nil ?_
 exact fr_fin hK_ v26⟩, trivial⟩ ?_
      intro _
      intro X_ Y_ F_ K_ hK_
      refine al_show (m := Mem.plus (memOf w0 Z0 [] [(oRow v25 63 tyS_api_Packet r24), (oBox g2 63 [(iq a1.Kind), (iq a1.Seq), (str a1.Text)]), (oBox g3 61 [nS, nS]), (oRow j21v8_0 9 tyStr j21x8_0), (oBox g7 61 [j21v8_0, v25])] [(fDat (tyList tyS_api_Packet) [j21v8_1] j21x8_1), (fDat (tyList tyStr) [v0_0] a0.Got), (fDat (tyList tyS_api_Packet) [v0_1] a0.Held)]) X_ Y_) (S := over (put (tab [(3, (pq g2)), (4, (pq g3)), (8, (pq g7))]) 101 (ag [j21v8_0, v25])) F_) ?_
      refine al_store (i := 2) (vs := [j21v8_0, v25]) (cs' := [j21v8_0, v25]) rfl rfl rfl sz61 (cv_rfl rfl) rfl (co_own 3 rfl (co_own 0 rfl co_nil)) (Nat.le_of_ble_eq_true rfl) rfl rfl ?_
      refine al_nil ?_
      refine aq_show (m := Mem.plus (memOf w0 Z0 [] [(oRow v25 63 tyS_api_Packet r24), (oBox g2 63 [(iq a1.Kind), (iq a1.Seq), (str a1.Text)]), (oBox g3 61 [j21v8_0, v25]), (oRow j21v8_0 9 tyStr j21x8_0), (oBox g7 61 [j21v8_0, v25])] [(fDat (tyList tyS_api_Packet) [j21v8_1] j21x8_1), (fDat (tyList tyStr) [v0_0] a0.Got), (fDat (tyList tyS_api_Packet) [v0_1] a0.Held)]) X_ Y_) ?_
      refine aq_next hK_ [0, 1, 2, 3, 4] [0, 1, 2] [(3, (pq g2)), (4, (pq g3))] [102, 103, 104, 105] [] rfl rfl (by decide) rfl ⟨rfl, rfl, trivial⟩ ⟨rfl, rfl, rfl, rfl, trivial⟩ ?_
      clear hK_ K_ F_ X_ Y_
      refine ta_show (m := (memOf w0 Z0 [] [(oRow v25 63 tyS_api_Packet r24), (oBox g2 63 [(iq a1.Kind), (iq a1.Seq), (str a1.Text)]), (oBox g3 61 [j21v8_0, v25]), (oRow j21v8_0 9 tyStr j21x8_0), (oBox g7 61 [j21v8_0, v25])] [(fDat (tyList tyS_api_Packet) [j21v8_1] j21x8_1), (fDat (tyList tyStr) [v0_0] a0.Got), (fDat (tyList tyS_api_Packet) [v0_1] a0.Held)])) (S := (tab [(3, (pq g2)), (4, (pq g3))])) ?_
      refine ta_step 6 _ [1, 2, 3, 4] [102, 103, 104, 105] [1, 2, 3, 4] [] [⟨1, 102, Unit, fun _ => { val := (ptr g2 1) }⟩, ⟨2, 103, Unit, fun _ => { val := (iq a1.Seq) }⟩, ⟨3, 104, Unit, fun _ => { val := (ag [(iq (2 : Int)), (iq a1.Seq), (str ([] : List UInt8))]) }⟩, ⟨4, 105, Value, fun (i : Value) => { val := i, own := [(oRow i 63 tyS_api_Packet [(S_api_Packet.mk (2 : Int) a1.Seq ([] : List UInt8))])] }⟩] [] rfl rfl rfl (by kernel_rfl) rfl rfl rfl ⟨⟨_, rfl, [], rfl, by
 intro X_ Y_ F_ K_ hK_
 refine al_show (m := Mem.plus (memOf w0 Z0 [] [(oRow v25 63 tyS_api_Packet r24), (oBox g2 63 [(iq a1.Kind), (iq a1.Seq), (str a1.Text)]), (oBox g3 61 [j21v8_0, v25]), (oRow j21v8_0 9 tyStr j21x8_0), (oBox g7 61 [j21v8_0, v25])] [(fDat (tyList tyS_api_Packet) [j21v8_1] j21x8_1), (fDat (tyList tyStr) [v0_0] a0.Got), (fDat (tyList tyS_api_Packet) [v0_1] a0.Held)]) X_ Y_) (S := over (tab [(3, (pq g2)), (4, (pq g3))]) F_) ?_
 refine al_val (ov_fieldA (p := 1) rfl Try.underlying63 rfl sz3 rfl rfl rfl) ?_
 refine al_nil ?_
 exact fr_fin hK_ ()⟩, ⟨_, rfl, [0], rfl, by
 intro _
 intro X_ Y_ F_ K_ hK_
 refine al_show (m := Mem.plus (memOf w0 Z0 [] [(oRow v25 63 tyS_api_Packet r24), (oBox g2 63 [(iq a1.Kind), (iq a1.Seq), (str a1.Text)]), (oBox g3 61 [j21v8_0, v25]), (oRow j21v8_0 9 tyStr j21x8_0), (oBox g7 61 [j21v8_0, v25])] [(fDat (tyList tyS_api_Packet) [j21v8_1] j21x8_1), (fDat (tyList tyStr) [v0_0] a0.Got), (fDat (tyList tyS_api_Packet) [v0_1] a0.Held)]) X_ Y_) (S := over (put (tab [(3, (pq g2)), (4, (pq g3))]) 102 (ptr g2 1)) F_) ?_
 refine al_val (ov_load (i := 1) (v := (iq a1.Seq)) rfl rfl Try.underlying3 sz3 rfl rfl rfl rfl) ?_
 refine al_nil ?_
 exact fr_fin hK_ ()⟩, ⟨_, rfl, [1], rfl, by
 intro _
 intro X_ Y_ F_ K_ hK_
 refine al_show (m := Mem.plus (memOf w0 Z0 [] [(oRow v25 63 tyS_api_Packet r24), (oBox g2 63 [(iq a1.Kind), (iq a1.Seq), (str a1.Text)]), (oBox g3 61 [j21v8_0, v25]), (oRow j21v8_0 9 tyStr j21x8_0), (oBox g7 61 [j21v8_0, v25])] [(fDat (tyList tyS_api_Packet) [j21v8_1] j21x8_1), (fDat (tyList tyStr) [v0_0] a0.Got), (fDat (tyList tyS_api_Packet) [v0_1] a0.Held)]) X_ Y_) (S := over (put (tab [(3, (pq g2)), (4, (pq g3))]) 103 (iq a1.Seq)) F_) ?_
 refine al_val (ov_build (cells := ([(iq (2 : Int)), (iq a1.Seq), (str ([] : List UInt8))]).toArray) (cs := [(iq (2 : Int)), (iq a1.Seq), (str ([] : List UInt8))]) rfl (fun w a hm hs => by simp only [List.map_toArray, List.map_cons, List.map_nil, List.toList_toArray, hs.ev (x := .const (iq (2 : Int))) rfl, hs.ev (x := .tmp 103) rfl]; kernel_rfl)) ?_
 refine al_nil ?_
 exact fr_fin hK_ ()⟩, ⟨_, rfl, [2], rfl, by
 intro _
 intro X_ Y_ F_ K_ hK_
 refine al_show (m := Mem.plus (memOf w0 Z0 [] [(oRow v25 63 tyS_api_Packet r24), (oBox g2 63 [(iq a1.Kind), (iq a1.Seq), (str a1.Text)]), (oBox g3 61 [j21v8_0, v25]), (oRow j21v8_0 9 tyStr j21x8_0), (oBox g7 61 [j21v8_0, v25])] [(fDat (tyList tyS_api_Packet) [j21v8_1] j21x8_1), (fDat (tyList tyStr) [v0_0] a0.Got), (fDat (tyList tyS_api_Packet) [v0_1] a0.Held)]) X_ Y_) (S := over (put (tab [(3, (pq g2)), (4, (pq g3))]) 104 (ag [(iq (2 : Int)), (iq a1.Seq), (str ([] : List UInt8))])) F_) ?_
 refine al_buildSlice (τ := tyS_api_Packet) (e := 63) (k := 1) (sz := 0) (by_ := 0) (z := undef) (cs := [(iq (2 : Int)), (iq a1.Seq), (str ([] : List UInt8))]) (xs := [(S_api_Packet.mk (2 : Int) a1.Seq ([] : List UInt8))]) rfl (by decide) (fun w a hm hs => ⟨([(iq (2 : Int)), (iq a1.Seq), (str ([] : List UInt8))]).toArray, rfl, by simp only [List.map_toArray, List.map_cons, List.map_nil, hs.ev (x := .tmp 104) rfl]; exact run_bs [(ag [(iq (2 : Int)), (iq a1.Seq), (str ([] : List UInt8))])] [(iq (2 : Int)), (iq a1.Seq), (str ([] : List UInt8))] Try.underlying59 to63 rfl rfl (bs_cons (l := [(iq (2 : Int)), (iq a1.Seq), (str ([] : List UInt8))]) (cs := []) (cv_rfl rfl) rfl bs_nil) hm⟩) (fun hm => ⟨_, _, rfl, (fun _ => mkS_api_Packet rfl) hm, rfl⟩) rfl (fun v26 => ?_)
 refine al_nil ?_
 exact fr_fin hK_ v26⟩, trivial⟩ ?_
      intro _
      intro _
      intro _
      intro v26
      intro X_ Y_ F_ K_ hK_
      refine al_show (m := Mem.plus (memOf w0 Z0 [] [(oRow v26 63 tyS_api_Packet [(S_api_Packet.mk (2 : Int) a1.Seq ([] : List UInt8))]), (oRow v25 63 tyS_api_Packet r24), (oBox g2 63 [(iq a1.Kind), (iq a1.Seq), (str a1.Text)]), (oBox g3 61 [j21v8_0, v25]), (oRow j21v8_0 9 tyStr j21x8_0), (oBox g7 61 [j21v8_0, v25])] [(fDat (tyList tyS_api_Packet) [j21v8_1] j21x8_1), (fDat (tyList tyStr) [v0_0] a0.Got), (fDat (tyList tyS_api_Packet) [v0_1] a0.Held)]) X_ Y_) (S := over (put (put (put (put (tab [(3, (pq g2)), (4, (pq g3))]) 102 (ptr g2 1)) 103 (iq a1.Seq)) 104 (ag [(iq (2 : Int)), (iq a1.Seq), (str ([] : List UInt8))])) 105 v26) F_) ?_
      refine al_as rfl rfl ?_
      refine al_nil ?_
      refine aq_show (m := Mem.plus (memOf w0 Z0 [] [(oRow v26 63 tyS_api_Packet [(S_api_Packet.mk (2 : Int) a1.Seq ([] : List UInt8))]), (oRow v25 63 tyS_api_Packet r24), (oBox g2 63 [(iq a1.Kind), (iq a1.Seq), (str a1.Text)]), (oBox g3 61 [j21v8_0, v25]), (oRow j21v8_0 9 tyStr j21x8_0), (oBox g7 61 [j21v8_0, v25])] [(fDat (tyList tyS_api_Packet) [j21v8_1] j21x8_1), (fDat (tyList tyStr) [v0_0] a0.Got), (fDat (tyList tyS_api_Packet) [v0_1] a0.Held)]) X_ Y_) ?_
      refine aq_next hK_ [0, 1, 2, 3, 4, 5] [0, 1, 2] [(4, (pq g3)), (5, v26)] [] [] rfl rfl (by decide) rfl ⟨rfl, rfl, trivial⟩ trivial ?_
      clear hK_ K_ F_ X_ Y_
      refine ta_show (m := (memOf w0 Z0 [] [(oRow v26 63 tyS_api_Packet [(S_api_Packet.mk (2 : Int) a1.Seq ([] : List UInt8))]), (oRow v25 63 tyS_api_Packet r24), (oBox g2 63 [(iq a1.Kind), (iq a1.Seq), (str a1.Text)]), (oBox g3 61 [j21v8_0, v25]), (oRow j21v8_0 9 tyStr j21x8_0), (oBox g7 61 [j21v8_0, v25])] [(fDat (tyList tyS_api_Packet) [j21v8_1] j21x8_1), (fDat (tyList tyStr) [v0_0] a0.Got), (fDat (tyList tyS_api_Packet) [v0_1] a0.Held)])) (S := (tab [(4, (pq g3)), (5, v26)])) ?_
      refine ta_step 7 _ [] [] [] [] [] [] rfl rfl rfl (by kernel_rfl) rfl rfl rfl trivial ?_
      intro X_ Y_ F_ K_ hK_
      refine al_show (m := Mem.plus (memOf w0 Z0 [] [(oRow v26 63 tyS_api_Packet [(S_api_Packet.mk (2 : Int) a1.Seq ([] : List UInt8))]), (oRow v25 63 tyS_api_Packet r24), (oBox g2 63 [(iq a1.Kind), (iq a1.Seq), (str a1.Text)]), (oBox g3 61 [j21v8_0, v25]), (oRow j21v8_0 9 tyStr j21x8_0), (oBox g7 61 [j21v8_0, v25])] [(fDat (tyList tyS_api_Packet) [j21v8_1] j21x8_1), (fDat (tyList tyStr) [v0_0] a0.Got), (fDat (tyList tyS_api_Packet) [v0_1] a0.Held)]) X_ Y_) (S := over (tab [(4, (pq g3)), (5, v26)]) F_) ?_
      refine al_as rfl rfl ?_
      refine al_nil ?_
      refine aq_show (m := Mem.plus (memOf w0 Z0 [] [(oRow v26 63 tyS_api_Packet [(S_api_Packet.mk (2 : Int) a1.Seq ([] : List UInt8))]), (oRow v25 63 tyS_api_Packet r24), (oBox g2 63 [(iq a1.Kind), (iq a1.Seq), (str a1.Text)]), (oBox g3 61 [j21v8_0, v25]), (oRow j21v8_0 9 tyStr j21x8_0), (oBox g7 61 [j21v8_0, v25])] [(fDat (tyList tyS_api_Packet) [j21v8_1] j21x8_1), (fDat (tyList tyStr) [v0_0] a0.Got), (fDat (tyList tyS_api_Packet) [v0_1] a0.Held)]) X_ Y_) ?_
      refine aq_next hK_ [0, 1, 2, 3, 4, 5] [0, 1, 2] [(4, (pq g3)), (5, v26), (6, (iq (0 : Int)))] [] [] rfl rfl (by decide) rfl ⟨rfl, rfl, rfl, trivial⟩ trivial ?_
      clear hK_ K_ F_ X_ Y_
      refine ta_show (m := (memOf w0 Z0 [] [(oRow v26 63 tyS_api_Packet [(S_api_Packet.mk (2 : Int) a1.Seq ([] : List UInt8))]), (oRow v25 63 tyS_api_Packet r24), (oBox g2 63 [(iq a1.Kind), (iq a1.Seq), (str a1.Text)]), (oBox g3 61 [j21v8_0, v25]), (oRow j21v8_0 9 tyStr j21x8_0), (oBox g7 61 [j21v8_0, v25])] [(fDat (tyList tyS_api_Packet) [j21v8_1] j21x8_1), (fDat (tyList tyStr) [v0_0] a0.Got), (fDat (tyList tyS_api_Packet) [v0_1] a0.Held)])) (S := (tab [(4, (pq g3)), (5, v26), (6, (iq (0 : Int)))])) ?_
      refine ta_end [] [] rfl rfl (by kernel_rfl) rfl trivial ?_
      refine aq_show (m := (memOf w0 Z0 [] [(oRow v26 63 tyS_api_Packet [(S_api_Packet.mk (2 : Int) a1.Seq ([] : List UInt8))]), (oRow v25 63 tyS_api_Packet r24), (oBox g2 63 [(iq a1.Kind), (iq a1.Seq), (str a1.Text)]), (oBox g3 61 [j21v8_0, v25]), (oRow j21v8_0 9 tyStr j21x8_0), (oBox g7 61 [j21v8_0, v25])] [(fDat (tyList tyS_api_Packet) [j21v8_1] j21x8_1), (fDat (tyList tyStr) [v0_0] a0.Got), (fDat (tyList tyS_api_Packet) [v0_1] a0.Held)])) (S := (tab [(4, (pq g3)), (5, v26), (6, (iq (0 : Int)))])) ?_
      refine aq_then ?_
      refine aw_ret ?_
      refine aq_freeze 4 rfl rfl ?_
      refine aq_freeze 1 rfl rfl ?_
      obtain rfl := Option.some.inj h
      exact fn_ret (j21v8_0, v25, v26) [0] [1, 0] rfl rfl rfl rfl (resC rfl (resB (i := 2) rfl rfl Try.underlying61 sz61 rfl rfl rfl (resT rfl (resT rfl (resN)))) rfl) rfl rfl rfl (by decide)
     ·clear hkk22
      refine aw_block ?_
      refine aw_freeze 3 rfl rfl ?_
      refine aw_state (aw_loop (ι := Value × (List (List UInt8)) × Value × (List S_api_Packet)) (fun i => (memOf w0 Z0 [] [(oBox g2 63 [(iq a1.Kind), (iq a1.Seq), (str a1.Text)]), (oBox g3 61 [nS, nS]), (oRow i.1 9 tyStr i.2.1), (oBox g7 61 [i.1, i.2.2.1])] [(fDat (tyList tyS_api_Packet) [i.2.2.1] i.2.2.2), (fDat (tyList tyS_api_Packet) [j19v8_1] j19x8_1), (fDat (tyList tyStr) [v0_0] a0.Got), (fDat (tyList tyS_api_Packet) [v0_1] a0.Held)])) (fun i => (tab [(3, (pq g2)), (4, (pq g3)), (8, (pq g7))])) (fun q i => f_line_Takes_L29 kk22 q i.2.1 i.2.2.2 = some r) ?_ fu (v10, r9, j19v8_1, j19x8_1) h) (fun w a hm hs => norm hm hs [0, 1, 2, 3] [0, 0, 1, 2] [(3, (pq g2)), (4, (pq g3)), (8, (pq g7))] (by decide) ⟨rfl, rfl, rfl, trivial⟩)
      clear h
      rintro k28 ⟨l27v8_0, l27x8_0, l27v8_1, l27x8_1⟩ h
      have h : f_line_Takes_L29 kk22 k28 l27x8_0 l27x8_1 = some r := h
      obtain _ | k28 := k28
      · rw [f_line_Takes_L29] at h; cases h
      rw [f_line_Takes_L29] at h
      refine aw_show (m := (memOf w0 Z0 [] [(oBox g2 63 [(iq a1.Kind), (iq a1.Seq), (str a1.Text)]), (oBox g3 61 [nS, nS]), (oRow l27v8_0 9 tyStr l27x8_0), (oBox g7 61 [l27v8_0, l27v8_1])] [(fDat (tyList tyS_api_Packet) [l27v8_1] l27x8_1), (fDat (tyList tyS_api_Packet) [j19v8_1] j19x8_1), (fDat (tyList tyStr) [v0_0] a0.Got), (fDat (tyList tyS_api_Packet) [v0_1] a0.Held)])) (S := (tab [(3, (pq g2)), (4, (pq g3)), (8, (pq g7))])) ?_
      refine aw_seq ?_
      obtain ⟨kk31, hkk31, h⟩ := lt_some h
      refine aw_seq_join (ι := Bool) (fun i => (memOf w0 Z0 [] [(oBox g2 63 [(iq a1.Kind), (iq a1.Seq), (str a1.Text)]), (oBox g3 61 [nS, nS]), (oRow l27v8_0 9 tyStr l27x8_0), (oBox g7 61 [l27v8_0, l27v8_1])] [(fDat (tyList tyS_api_Packet) [l27v8_1] l27x8_1), (fDat (tyList tyS_api_Packet) [j19v8_1] j19x8_1), (fDat (tyList tyStr) [v0_0] a0.Got), (fDat (tyList tyS_api_Packet) [v0_1] a0.Held)])) (fun i => (tab [(3, (pq g2)), (4, (pq g3)), (8, (pq g7)), (82, (bool i))])) (fun i => kk31 i = some r) ?_ ?_
      ·rintro j30b82 h
       have h : kk31 j30b82 = some r := h
       rw [hkk31] at h
       dsimp only at h
       clear hkk31
       refine aw_show (m := (memOf w0 Z0 [] [(oBox g2 63 [(iq a1.Kind), (iq a1.Seq), (str a1.Text)]), (oBox g3 61 [nS, nS]), (oRow l27v8_0 9 tyStr l27x8_0), (oBox g7 61 [l27v8_0, l27v8_1])] [(fDat (tyList tyS_api_Packet) [l27v8_1] l27x8_1), (fDat (tyList tyS_api_Packet) [j19v8_1] j19x8_1), (fDat (tyList tyStr) [v0_0] a0.Got), (fDat (tyList tyS_api_Packet) [v0_1] a0.Held)])) (S := (tab [(3, (pq g2)), (4, (pq g3)), (8, (pq g7)), (82, (bool j30b82))])) ?_
       refine aw_cond rfl (fun hb32 => ?_) (fun hb32 => ?_)
       ·replace h := bif_t hb32 h
        refine aw_skip ?_
        refine aq_then ?_
        refine aw_block ?_
        refine aw_seq ?_
        obtain ⟨u33, hu34, h⟩ := opt_some h
        refine aw_region_draw 8 [(83, (fun u => fEq u (pq g7))), (84, (fun u => fEq u l27v8_0)), (85, (fun u => fEq u (ptr g7 1))), (86, (fun u => fEq u l27v8_1)), (87, (fun p35 => (fPtr tyS_api_Packet p35 u33))), (88, (fun p36 => (fPtr tyStr p36 u33.Text))), (89, (fun u => fEq u (str u33.Text))), (90, (fun v37 => (fDat (tyList tyStr) [v37] [u33.Text])))] (tab [(3, (pq g2)), (4, (pq g3)), (8, (pq g7))]) mixed (by kernel_rfl) rfl rfl rfl (fun a hs => hs.tab _ (allT_mem ⟨rfl, rfl, rfl, trivial⟩)) ⟨⟨rfl, ld_val (ov_fieldA (p := 0) rfl Try.underlying61 rfl sz23 rfl rfl rfl)⟩, ⟨rfl, ld_eq (j := 0) rfl rfl (ld_val (ov_load (i := 3) (v := l27v8_0) rfl rfl Try.underlying23 sz23 rfl rfl rfl rfl))⟩, ⟨rfl, ld_val (ov_fieldA (p := 1) rfl Try.underlying61 rfl sz59 rfl rfl rfl)⟩, ⟨rfl, ld_eq (j := 2) rfl rfl (ld_val (ov_load (i := 3) (v := l27v8_1) rfl rfl Try.underlying59 sz59 rfl rfl rfl rfl))⟩, ⟨rfl, ld_eq (j := 3) rfl rfl (ld_of (of_idxD 0 hu34 rfl rfl rfl Try.underlying59 sz63 rfl))⟩, ⟨rfl, ld_fact (j := 4) rfl rfl (fun p35 => ld_of (of_fieldD (pr := fun (y : S_api_Packet) => y.Text) 0 rfl subS_api_Packet_2 rfl Try.underlying63 rfl sz9 rfl rfl))⟩, ⟨rfl, ld_fact (j := 5) rfl rfl (fun p36 => ld_val (ov_loadP (ds := [(str u33.Text)]) 0 rfl (fun h => h) rfl Try.underlying9 sz9 rfl rfl rfl))⟩, ⟨rfl, ld_eq (j := 6) rfl rfl (ld_buildSlice (τ := tyStr) (e := 9) (k := 1) (cs := [(str u33.Text)]) (xs := [u33.Text]) rfl (by decide) rfl (fun w a hm hs => ⟨([(str u33.Text)]).toArray, rfl, by simp only [List.map_toArray, List.map_cons, List.map_nil, hs.ev (x := .tmp 89) rfl]; exact run_bs [(str u33.Text)] [(str u33.Text)] Try.underlying23 to9 rfl rfl (bs_cons (l := [(str u33.Text)]) (cs := []) (cv_rfl rfl) rfl bs_nil) hm⟩) (fun hm => ⟨_, _, rfl, (fun _ => rfl) hm, rfl⟩) rfl)⟩, trivial⟩ ?_
        refine tl_eq 1 rfl ?_
        refine tl_fact 7 rfl (fun v37 => ?_)
        refine tl_done ?_
        obtain ⟨hc38, h⟩ := req_some h
        refine al_append 2 hc38.1 hc38.2 rfl (src_dat (i := 2) 0 rfl) rfl rfl Try.underlying23 to9 rfl rfl rfl (fun v39 => ?_)
        refine al_val (ov_fieldA (p := 0) rfl Try.underlying61 rfl sz23 rfl rfl rfl) ?_
        refine al_store (i := 3) (vs := [v39]) (cs' := [v39, l27v8_1]) rfl rfl rfl sz23 (cv_own 2 rfl) rfl (co_own 2 rfl co_nil) (Nat.le_of_ble_eq_true rfl) rfl rfl ?_
        refine al_nt ?_
        refine aw_region ?_
        refine al_val (ov_fieldA (p := 1) rfl Try.underlying61 rfl sz59 rfl rfl rfl) ?_
        refine al_val (ov_load (i := 3) (v := l27v8_1) rfl rfl Try.underlying59 sz59 rfl rfl rfl rfl) ?_
        obtain ⟨hc40, h⟩ := req_some h
        refine al_sliceDF 1 hc40.1 hc40.2 rfl rfl rfl Try.underlying59 sz63 rfl (fun s41 => ?_)
        refine al_val (ov_fieldA (p := 1) rfl Try.underlying61 rfl sz59 rfl rfl rfl) ?_
        refine al_store (i := 3) (vs := [s41]) (cs' := [v39, s41]) rfl rfl rfl sz59 (cv_fz 0 rfl) rfl (co_fz 0 rfl co_nil) (Nat.le_of_ble_eq_true rfl) rfl rfl ?_
        refine al_nil ?_
        refine aq_block ?_
        exact aq_again k28 (v39, (l27x8_0 ++ ([u33.Text])), s41, (l27x8_1.drop ((1 : Int)).toNat)) (Nat.lt_succ_self _) h (fun w a hm hs => norm hm hs [0, 1, 2, 3] [0, 3, 4, 5] [(3, (pq g2)), (4, (pq g3)), (8, (pq g7))] (by decide) ⟨rfl, rfl, rfl, trivial⟩)
       ·replace h := bif_f hb32 h
        refine aw_exit ?_
        refine aq_then_exit ?_
        refine aq_then_exit ?_
        refine aq_block_exit ?_
        exact aq_join (l27v8_0, l27x8_0, l27v8_1, l27x8_1) h (fun w a hm hs => norm hm hs [0, 1, 2, 3] [0, 2, 3] [(3, (pq g2)), (4, (pq g3)), (8, (pq g7))] (by decide) ⟨rfl, rfl, rfl, trivial⟩)
      ·clear hkk31
       rcases Bool.eq_false_or_eq_true (decide ((l27x8_1.length : Int) > (0 : Int))) with hb42 | hb42
       ·replace h := bif_t hb42 h
        obtain ⟨u43, hu44, h⟩ := opt_some h
        refine aw_region_draw 14 [(68, (fun u => fEq u (ptr g7 1))), (69, (fun u => fEq u l27v8_1)), (70, (fun u => fEq u (iq (l27x8_1.length : Int)))), (71, (fun u => fEq u (bool true))), (72, (fun u => fEq u (bool true))), (73, (fun u => fEq u (ptr g7 1))), (74, (fun u => fEq u l27v8_1)), (75, (fun p45 => (fPtr tyS_api_Packet p45 u43))), (76, (fun p46 => (fPtr tq p46 u43.Seq))), (77, (fun u => fEq u (iq u43.Seq))), (78, (fun u => fEq u (pq g7))), (79, (fun u => fEq u l27v8_0)), (80, (fun u => fEq u (iq (l27x8_0.length : Int)))), (81, (fun u => fEq u (bool (u43.Seq == (l27x8_0.length : Int)))))] (tab [(3, (pq g2)), (4, (pq g3)), (8, (pq g7))]) mixed (by kernel_rfl) rfl rfl rfl (fun a hs => hs.tab _ (allT_mem ⟨rfl, rfl, rfl, trivial⟩)) ⟨⟨rfl, ld_val (ov_fieldA (p := 1) rfl Try.underlying61 rfl sz59 rfl rfl rfl)⟩, ⟨rfl, ld_eq (j := 0) rfl rfl (ld_val (ov_load (i := 3) (v := l27v8_1) rfl rfl Try.underlying59 sz59 rfl rfl rfl rfl))⟩, ⟨rfl, ld_eq (j := 1) rfl rfl (ld_val (ov_lenD 0 rfl rfl Try.underlying59 rfl))⟩, ⟨rfl, ld_eq (j := 2) rfl rfl (ld_val (ov_cast (by first | rw [hb42] | rfl) (ov_int rfl rfl rfl rfl)))⟩, ⟨rfl, ld_eq (j := 3) rfl rfl (ld_val (ov_cast (by first | rw [hb42] | rfl) (ov_move rfl rfl)))⟩, ⟨rfl, ld_eq (j := 4) rfl rfl (ld_val (ov_fieldA (p := 1) rfl Try.underlying61 rfl sz59 rfl rfl rfl))⟩, ⟨rfl, ld_eq (j := 4) rfl rfl (ld_eq (j := 5) rfl rfl (ld_val (ov_load (i := 3) (v := l27v8_1) rfl rfl Try.underlying59 sz59 rfl rfl rfl rfl)))⟩, ⟨rfl, ld_eq (j := 4) rfl rfl (ld_eq (j := 6) rfl rfl (ld_of (of_idxD 0 hu44 rfl rfl rfl Try.underlying59 sz63 rfl)))⟩, ⟨rfl, ld_eq (j := 4) rfl rfl (ld_fact (j := 7) rfl rfl (fun p45 => ld_of (of_fieldD (pr := fun (y : S_api_Packet) => y.Seq) 0 rfl subS_api_Packet_1 rfl Try.underlying63 rfl sz3 rfl rfl)))⟩, ⟨rfl, ld_eq (j := 4) rfl rfl (ld_fact (j := 8) rfl rfl (fun p46 => ld_val (ov_loadP (ds := [(iq u43.Seq)]) 0 rfl (fun h => h) rfl Try.underlying3 sz3 rfl rfl rfl)))⟩, ⟨rfl, ld_eq (j := 4) rfl rfl (ld_val (ov_fieldA (p := 0) rfl Try.underlying61 rfl sz23 rfl rfl rfl))⟩, ⟨rfl, ld_eq (j := 4) rfl rfl (ld_eq (j := 10) rfl rfl (ld_val (ov_load (i := 3) (v := l27v8_0) rfl rfl Try.underlying23 sz23 rfl rfl rfl rfl)))⟩, ⟨rfl, ld_eq (j := 4) rfl rfl (ld_eq (j := 11) rfl rfl (ld_val (ov_lenR 2 rfl rfl Try.underlying23 rfl)))⟩, ⟨rfl, ld_eq (j := 4) rfl rfl (ld_eq (j := 9) rfl rfl (ld_eq (j := 12) rfl rfl (ld_val (ov_int rfl rfl rfl rfl))))⟩, trivial⟩ ?_
        refine tl_eq 4 rfl ?_
        refine tl_eq 13 rfl ?_
        refine tl_done ?_
        refine al_val (ov_pick_t rfl rfl rfl) ?_
        refine al_nil ?_
        exact aq_join (u43.Seq == (l27x8_0.length : Int)) h (fun w a hm hs => norm hm hs [0, 1, 2, 3] [0, 1, 2, 3] [(3, (pq g2)), (4, (pq g3)), (8, (pq g7)), (82, (bool (u43.Seq == (l27x8_0.length : Int))))] (by decide) ⟨rfl, rfl, rfl, rfl, trivial⟩)
       ·replace h := bif_f hb42 h
        refine aw_region_draw 14 [(68, (fun u => fEq u (ptr g7 1))), (69, (fun u => fEq u l27v8_1)), (70, (fun u => fEq u (iq (l27x8_1.length : Int)))), (71, (fun u => fEq u (bool false))), (72, (fun u => fEq u (bool false))), (73, (fun u => fEq u undef)), (74, (fun u => fEq u undef)), (75, (fun u => fEq u undef)), (76, (fun u => fEq u undef)), (77, (fun u => fEq u undef)), (78, (fun u => fEq u undef)), (79, (fun u => fEq u undef)), (80, (fun u => fEq u undef)), (81, (fun u => fEq u undef))] (tab [(3, (pq g2)), (4, (pq g3)), (8, (pq g7))]) mixed (by kernel_rfl) rfl rfl rfl (fun a hs => hs.tab _ (allT_mem ⟨rfl, rfl, rfl, trivial⟩)) ⟨⟨rfl, ld_val (ov_fieldA (p := 1) rfl Try.underlying61 rfl sz59 rfl rfl rfl)⟩, ⟨rfl, ld_eq (j := 0) rfl rfl (ld_val (ov_load (i := 3) (v := l27v8_1) rfl rfl Try.underlying59 sz59 rfl rfl rfl rfl))⟩, ⟨rfl, ld_eq (j := 1) rfl rfl (ld_val (ov_lenD 0 rfl rfl Try.underlying59 rfl))⟩, ⟨rfl, ld_eq (j := 2) rfl rfl (ld_val (ov_cast (by first | rw [hb42] | rfl) (ov_int rfl rfl rfl rfl)))⟩, ⟨rfl, ld_eq (j := 3) rfl rfl (ld_val (ov_cast (by first | rw [hb42] | rfl) (ov_move rfl rfl)))⟩, ⟨rfl, ld_eq (j := 4) rfl rfl (ld_skip)⟩, ⟨rfl, ld_eq (j := 4) rfl rfl (ld_skip)⟩, ⟨rfl, ld_eq (j := 4) rfl rfl (ld_skip)⟩, ⟨rfl, ld_eq (j := 4) rfl rfl (ld_skip)⟩, ⟨rfl, ld_eq (j := 4) rfl rfl (ld_skip)⟩, ⟨rfl, ld_eq (j := 4) rfl rfl (ld_skip)⟩, ⟨rfl, ld_eq (j := 4) rfl rfl (ld_skip)⟩, ⟨rfl, ld_eq (j := 4) rfl rfl (ld_skip)⟩, ⟨rfl, ld_eq (j := 4) rfl rfl (ld_skip)⟩, trivial⟩ ?_
        refine tl_eq 4 rfl ?_
        refine tl_eq 13 rfl ?_
        refine tl_done ?_
        refine al_val (ov_pick_f rfl rfl rfl) ?_
        refine al_nil ?_
        exact aq_join false h (fun w a hm hs => norm hm hs [0, 1, 2, 3] [0, 1, 2, 3] [(3, (pq g2)), (4, (pq g3)), (8, (pq g7)), (82, (bool false))] (by decide) ⟨rfl, rfl, rfl, rfl, trivial⟩)
    ·clear hkk20
     obtain ⟨kk48, hkk48, h⟩ := lt_some h
     refine aw_seq_join (ι := Bool) (fun i => (memOf w0 Z0 [] [(oBox g2 63 [(iq a1.Kind), (iq a1.Seq), (str a1.Text)]), (oBox g3 61 [nS, nS]), (oRow v10 9 tyStr r9), (oRow v13 63 tyS_api_Packet r12), (oBox g7 61 [v10, v13])] [(fDat (tyList tyStr) [v0_0] a0.Got), (fDat (tyList tyS_api_Packet) [v0_1] a0.Held)])) (fun i => (tab [(3, (pq g2)), (4, (pq g3)), (8, (pq g7)), (10, (iq r18.1)), (60, (bool i))])) (fun i => kk48 i = some r) ?_ ?_
     ·rintro j47b60 h
      have h : kk48 j47b60 = some r := h
      rw [hkk48] at h
      dsimp only at h
      clear hkk48
      refine aw_show (m := (memOf w0 Z0 [] [(oBox g2 63 [(iq a1.Kind), (iq a1.Seq), (str a1.Text)]), (oBox g3 61 [nS, nS]), (oRow v10 9 tyStr r9), (oRow v13 63 tyS_api_Packet r12), (oBox g7 61 [v10, v13])] [(fDat (tyList tyStr) [v0_0] a0.Got), (fDat (tyList tyS_api_Packet) [v0_1] a0.Held)])) (S := (tab [(3, (pq g2)), (4, (pq g3)), (8, (pq g7)), (10, (iq r18.1)), (60, (bool j47b60))])) ?_
      refine aw_cond rfl (fun hb49 => ?_) (fun hb49 => ?_)
      ·replace h := bif_t hb49 h
       refine aw_region ?_
       refine al_val (ov_fieldA (p := 1) rfl Try.underlying61 rfl sz59 rfl rfl rfl) ?_
       refine al_val (ov_load (i := 4) (v := v13) rfl rfl Try.underlying59 sz59 rfl rfl rfl rfl) ?_
       refine al_mv rfl rfl ?_
       refine al_val (ov_load (i := 0) (v := (ag [(iq a1.Kind), (iq a1.Seq), (str a1.Text)])) rfl rfl Try.underlying63 sz63 rfl rfl rfl rfl) ?_
       refine al_buildSlice (τ := tyS_api_Packet) (e := 63) (k := 1) (sz := 0) (by_ := 0) (z := undef) (cs := [(iq a1.Kind), (iq a1.Seq), (str a1.Text)]) (xs := [a1]) rfl (by decide) (fun w a hm hs => ⟨([(iq a1.Kind), (iq a1.Seq), (str a1.Text)]).toArray, rfl, by simp only [List.map_toArray, List.map_cons, List.map_nil, hs.ev (x := .tmp 64) rfl]; exact run_bs [(ag [(iq a1.Kind), (iq a1.Seq), (str a1.Text)])] [(iq a1.Kind), (iq a1.Seq), (str a1.Text)] Try.underlying59 to63 rfl rfl (bs_cons (l := [(iq a1.Kind), (iq a1.Seq), (str a1.Text)]) (cs := []) (cv_rfl rfl) rfl bs_nil) hm⟩) (fun hm => ⟨_, _, rfl, (fun _ => mkS_api_Packet rfl) hm, rfl⟩) rfl (fun v50 => ?_)
       obtain ⟨r52, hc51, h⟩ := opt_some h
       refine al_call (vs := [v13, (iq r18.1), v50]) (f_slices_Insert___api_Packet_api_Packet__own_own_ok fu v13 r12 r18.1 v50 ([a1]) hc51) [] [4, 0] [1, 2, 3, 5] pre_nil rfl (by simp) (by decide) (.inl rfl) rfl Try.func74 rfl rfl rfl (fun v53 => ?_)
       refine al_val (ov_fieldA (p := 1) rfl Try.underlying61 rfl sz59 rfl rfl rfl) ?_
       refine al_store (i := 4) (vs := [v53]) (cs' := [v10, v53]) rfl rfl rfl sz59 (cv_own 0 rfl) rfl (co_own 0 rfl co_nil) (Nat.le_of_ble_eq_true rfl) rfl rfl ?_
       refine al_nil ?_
       exact aq_join (v53, r52) h (fun w a hm hs => norm hm hs [1, 2, 3, 0, 4] [0, 1] [(3, (pq g2)), (4, (pq g3)), (8, (pq g7))] (by decide) ⟨rfl, rfl, rfl, trivial⟩)
      ·replace h := bif_f hb49 h
       refine aw_skip ?_
       exact aq_join (v13, r12) h (fun w a hm hs => norm hm hs [0, 1, 2, 3, 4] [0, 1] [(3, (pq g2)), (4, (pq g3)), (8, (pq g7))] (by decide) ⟨rfl, rfl, rfl, trivial⟩)
     ·clear hkk48
      refine aw_region ?_
      refine al_val (ov_fieldA (p := 1) rfl Try.underlying63 rfl sz3 rfl rfl rfl) ?_
      refine al_val (ov_load (i := 0) (v := (iq a1.Seq)) rfl rfl Try.underlying3 sz3 rfl rfl rfl rfl) ?_
      refine al_mv rfl rfl ?_
      refine al_in rfl rfl rfl rfl ?_
      refine al_mv rfl rfl ?_
      refine al_caseB 57 rfl (fun hb54 => ?_) (fun hb54 => ?_)
      ·replace h := bif_t hb54 h
       refine al_mv rfl rfl ?_
       refine al_val (ov_not rfl rfl) ?_
       refine al_val (ov_pick_t rfl rfl rfl) ?_
       refine al_nil ?_
       exact aq_join (!r18.2) h (fun w a hm hs => norm hm hs [0, 1, 2, 3, 4] [0, 1] [(3, (pq g2)), (4, (pq g3)), (8, (pq g7)), (10, (iq r18.1)), (60, (bool (!r18.2)))] (by decide) ⟨rfl, rfl, rfl, rfl, rfl, trivial⟩)
      ·replace h := bif_f hb54 h
       refine al_skip ?_
       refine al_skip ?_
       refine al_val (ov_pick_f rfl rfl rfl) ?_
       refine al_nil ?_
       exact aq_join false h (fun w a hm hs => norm hm hs [0, 1, 2, 3, 4] [0, 1] [(3, (pq g2)), (4, (pq g3)), (8, (pq g7)), (10, (iq r18.1)), (60, (bool false))] (by decide) ⟨rfl, rfl, rfl, rfl, rfl, trivial⟩)
  ·clear hkk15
   refine aw_region ?_
   refine al_val (ov_fieldA (p := 0) rfl Try.underlying63 rfl sz3 rfl rfl rfl) ?_
   refine al_val (ov_load (i := 4) (v := (iq a1.Kind)) rfl rfl Try.underlying3 sz3 rfl rfl rfl rfl) ?_
   refine al_in rfl rfl rfl rfl ?_
   refine al_mv rfl rfl ?_
   refine al_caseB 31 rfl (fun hb55 => ?_) (fun hb55 => ?_)
   ·replace h := bif_t hb55 h
    refine al_skip ?_
    refine al_skip ?_
    refine al_skip ?_
    refine al_val (ov_pick_t rfl rfl rfl) ?_
    refine al_mv rfl rfl ?_
    refine al_skip ?_
    refine al_skip ?_
    refine al_skip ?_
    refine al_skip ?_
    refine al_skip ?_
    refine al_skip ?_
    refine al_val (ov_pick_t rfl rfl rfl) ?_
    refine al_nil ?_
    exact aq_join true h (fun w a hm hs => norm hm hs [4, 3, 2, 1, 0] [0, 1] [(3, (pq g2)), (4, (pq g3)), (8, (pq g7)), (9, (iq (r9.length : Int))), (43, (bool true))] (by decide) ⟨rfl, rfl, rfl, rfl, rfl, trivial⟩)
   ·replace h := bif_f hb55 h
    refine al_val (ov_fieldA (p := 1) rfl Try.underlying63 rfl sz3 rfl rfl rfl) ?_
    refine al_val (ov_load (i := 4) (v := (iq a1.Seq)) rfl rfl Try.underlying3 sz3 rfl rfl rfl rfl) ?_
    refine al_in rfl rfl rfl rfl ?_
    refine al_val (ov_pick_f rfl rfl rfl) ?_
    refine al_mv rfl rfl ?_
    refine al_caseB 36 rfl (fun hb56 => ?_) (fun hb56 => ?_)
    ·replace h := bif_t hb56 h
     refine al_skip ?_
     refine al_skip ?_
     refine al_skip ?_
     refine al_skip ?_
     refine al_skip ?_
     refine al_skip ?_
     refine al_val (ov_pick_t rfl rfl rfl) ?_
     refine al_nil ?_
     exact aq_join true h (fun w a hm hs => norm hm hs [4, 3, 2, 1, 0] [0, 1] [(3, (pq g2)), (4, (pq g3)), (8, (pq g7)), (9, (iq (r9.length : Int))), (43, (bool true))] (by decide) ⟨rfl, rfl, rfl, rfl, rfl, trivial⟩)
    ·replace h := bif_f hb56 h
     refine al_val (ov_fieldA (p := 1) rfl Try.underlying63 rfl sz3 rfl rfl rfl) ?_
     refine al_val (ov_load (i := 4) (v := (iq a1.Seq)) rfl rfl Try.underlying3 sz3 rfl rfl rfl rfl) ?_
     refine al_mv rfl rfl ?_
     refine al_in rfl rfl rfl rfl ?_
     refine al_val (ov_min rfl rfl rfl) ?_
     refine al_in rfl rfl rfl rfl ?_
     refine al_val (ov_pick_f rfl rfl rfl) ?_
     refine al_nil ?_
     exact aq_join (decide (a1.Seq ≥ (if (2000 : Int) < (wq ((r9.length : Int) + (8 : Int))) then (2000 : Int) else (wq ((r9.length : Int) + (8 : Int)))))) h (fun w a hm hs => norm hm hs [4, 3, 2, 1, 0] [0, 1] [(3, (pq g2)), (4, (pq g3)), (8, (pq g7)), (9, (iq (r9.length : Int))), (43, (bool (decide (a1.Seq ≥ (if (2000 : Int) < (wq ((r9.length : Int) + (8 : Int))) then (2000 : Int) else (wq ((r9.length : Int) + (8 : Int))))))))] (by decide) ⟨rfl, rfl, rfl, rfl, rfl, trivial⟩)
def f_lumref_Takes_L24 (kk21 : ((List S_api_Packet) → (List (List UInt8)) → Option (S_api_Receiver × (List S_api_Packet) × Int))) : Nat → (List S_api_Packet) → (List (List UInt8)) → Option (S_api_Receiver × (List S_api_Packet) × Int)
  | 0, _, _ => none
  | k23 + 1, l22x12, l22x16 => (lt (fun (j25b127 : Bool) => (bif j25b127 then (opt (at? l22x12 (0 : Int)) fun (u28 : S_api_Packet) => (req (0 ≤ (1 : Int) ∧ (1 : Int) ≤ (l22x12.length : Int)) (req (((l22x16.length + ([u28.Text]).length) * 16 : Nat) ≤ 140737488355328 ∧ l22x16.length + ([u28.Text]).length ≤ 9223372036854775807) (f_lumref_Takes_L24 kk21 k23 (l22x12.drop ((1 : Int)).toNat) (l22x16 ++ ([u28.Text])))))) else (kk21 l22x12 l22x16))) fun (kk26 : Bool → Option (S_api_Receiver × (List S_api_Packet) × Int)) => (bif (decide ((l22x12.length : Int) > (0 : Int))) then (opt (at? l22x12 (0 : Int)) fun (u38 : S_api_Packet) => (kk26 (u38.Seq == (l22x16.length : Int)))) else (kk26 false)))
def f_lumref_Takes_L48 (a0 : S_api_Receiver) (a1 : S_api_Packet) (kk14 : ((List S_api_Packet) → Bool → Option (S_api_Receiver × (List S_api_Packet) × Int))) : Nat → (List S_api_Packet) → Bool → Int → Option (S_api_Receiver × (List S_api_Packet) × Int)
  | 0, _, _, _ => none
  | k47 + 1, l46x12, l46b13, l46i77 => (bif (decide (l46i77 < (a0.Held.length : Int))) then (opt (at? a0.Held l46i77) fun (u50 : S_api_Packet) => (lt (fun (j54x12 : (List S_api_Packet)) (j54b13 : Bool) => (lt (fun (j56b13 : Bool) => (req (((j54x12.length + ([u50]).length) * 32 : Nat) ≤ 140737488355328 ∧ j54x12.length + ([u50]).length ≤ 9223372036854775807) (f_lumref_Takes_L48 a0 a1 kk14 k47 (j54x12 ++ ([u50])) j56b13 (IntKind.i64.wrap (l46i77 + (1 : Int)))))) fun (kk57 : Bool → Option (S_api_Receiver × (List S_api_Packet) × Int)) => (bif j54b13 then (kk57 true) else (kk57 (u50.Seq == a1.Seq))))) fun (kk55 : (List S_api_Packet) → Bool → Option (S_api_Receiver × (List S_api_Packet) × Int)) => (lt (fun (j62b89 : Bool) => (bif j62b89 then (req (((l46x12.length + ([a1]).length) * 32 : Nat) ≤ 140737488355328 ∧ l46x12.length + ([a1]).length ≤ 9223372036854775807) (kk55 (l46x12 ++ ([a1])) true)) else (kk55 l46x12 l46b13))) fun (kk63 : Bool → Option (S_api_Receiver × (List S_api_Packet) × Int)) => (bif (!l46b13) then (kk63 (decide (u50.Seq > a1.Seq))) else (kk63 false))))) else (kk14 l46x12 l46b13))
def f_lumref_Takes_L74 (a0 : S_api_Receiver) (kk8 : (Unit → Option (S_api_Receiver × (List S_api_Packet) × Int))) : Nat → Int → Int → Option (S_api_Receiver × (List S_api_Packet) × Int)
  | 0, _, _ => none
  | k73 + 1, l72i8, l72i33 => (bif (decide (l72i33 < (a0.Held.length : Int))) then (opt (at? a0.Held l72i33) fun (u76 : S_api_Packet) => (bif (decide (u76.Seq ≤ l72i8)) then (some ((S_api_Receiver.mk ([] : (List (List UInt8))) ([] : (List S_api_Packet))), ([] : (List S_api_Packet)), (4 : Int))) else (f_lumref_Takes_L74 a0 kk8 k73 u76.Seq (IntKind.i64.wrap (l72i33 + (1 : Int)))))) else (kk8 ()))
def f_lumref_Takes (fu : Nat) (a0 : S_api_Receiver) (a1 : S_api_Packet) : Option (S_api_Receiver × (List S_api_Packet) × Int) := (lt (fun (j4b27 : Bool) => (bif j4b27 then (some ((S_api_Receiver.mk ([] : (List (List UInt8))) ([] : (List S_api_Packet))), ([] : (List S_api_Packet)), (2 : Int))) else (lt (fun (_ : Unit) => (lt (fun (j9b64 : Bool) => (bif j9b64 then (some (a0, ([] : (List S_api_Packet)), (0 : Int))) else (lt (fun (j13x12 : (List S_api_Packet)) (j13b13 : Bool) => (lt (fun (j15x12 : (List S_api_Packet)) => (opt (f_slices_Clone___string_string_ fu a0.Got) fun (r18 : (List (List UInt8))) => (lt (fun (j20x12 : (List S_api_Packet)) (j20x16 : (List (List UInt8))) => (some ((S_api_Receiver.mk j20x16 j20x12), [(S_api_Packet.mk (2 : Int) a1.Seq ([] : List UInt8))], (0 : Int)))) fun (kk21 : (List S_api_Packet) → (List (List UInt8)) → Option (S_api_Receiver × (List S_api_Packet) × Int)) => (f_lumref_Takes_L24 kk21 fu j15x12 r18)))) fun (kk16 : (List S_api_Packet) → Option (S_api_Receiver × (List S_api_Packet) × Int)) => (bif (!j13b13) then (req (((j13x12.length + ([a1]).length) * 32 : Nat) ≤ 140737488355328 ∧ j13x12.length + ([a1]).length ≤ 9223372036854775807) (kk16 (j13x12 ++ ([a1])))) else (kk16 j13x12)))) fun (kk14 : (List S_api_Packet) → Bool → Option (S_api_Receiver × (List S_api_Packet) × Int)) => (f_lumref_Takes_L48 a0 a1 kk14 fu ([] : List S_api_Packet) (decide (a1.Seq < (a0.Got.length : Int))) (0 : Int))))) fun (kk10 : Bool → Option (S_api_Receiver × (List S_api_Packet) × Int)) => (bif (a1.Kind != (1 : Int)) then (kk10 true) else (bif (decide (a1.Seq < (0 : Int))) then (kk10 true) else (bif (decide ((IntKind.i64.wrap (a1.Seq - (a0.Got.length : Int))) > (7 : Int))) then (kk10 true) else (kk10 (decide (a1.Seq > (1999 : Int))))))))) fun (kk8 : Unit → Option (S_api_Receiver × (List S_api_Packet) × Int)) => (f_lumref_Takes_L74 a0 kk8 fu (a0.Got.length : Int) (0 : Int))))) fun (kk5 : Bool → Option (S_api_Receiver × (List S_api_Packet) × Int)) => (bif (decide ((a0.Got.length : Int) > (2000 : Int))) then (kk5 true) else (kk5 (decide ((a0.Held.length : Int) > (8 : Int))))))
set_option maxRecDepth 100000 in
set_option maxHeartbeats 2000000 in
set_option maxHeartbeats 2000000 in
theorem f_lumref_Takes_ok (fu : Nat) (v0_0 : Value) (v0_1 : Value) (a0 : S_api_Receiver) (a1 : S_api_Packet) {r : (S_api_Receiver × (List S_api_Packet) × Int)} (h : f_lumref_Takes fu a0 a1 = some r) : FnOk Try.prog 25 [(ag [v0_0, v0_1]), (ag [(int .i64 a1.Kind), (int .i64 a1.Seq), (str a1.Text)])] [(fDat (tyList tyStr) [v0_0] a0.Got), (fDat (tyList tyS_api_Packet) [v0_1] a0.Held)] [] (fun (i : Value × Value × Value) => { val := (Value.tuple #[(ag [i.1, i.2.1]), i.2.2, (int .i64 r.2.2)]), fz := [(fDat (tyList tyStr) [i.1] r.1.Got), (fDat (tyList tyS_api_Packet) [i.2.1] r.1.Held), (fDat (tyList tyS_api_Packet) [i.2.2] r.2.1)] }) := by
 unfold f_lumref_Takes at h
 refine fn_enter Try.func25 rfl Try.ntmps25 rfl (fun w0 Z0 => ?_)
 refine aw_sr ?_
 refine al_box (vs := [v0_0, v0_1]) rfl (cv_rfl rfl) rfl (fun g1 => ?_)
 refine al_box (vs := [(iq a1.Kind), (iq a1.Seq), (str a1.Text)]) rfl (cv_rfl rfl) rfl (fun g2 => ?_)
 refine al_alloc (zs := [nS, nS]) (zeroOf_to to61) rfl rfl (fun g3 => ?_)
 refine al_as rfl rfl ?_
 refine al_as rfl rfl ?_
 refine al_nt ?_
 refine aw_sr ?_
 refine al_val (ov_fieldA (p := 0) rfl Try.underlying61 rfl sz23 rfl rfl rfl) ?_
 refine al_val (ov_load (i := 2) (v := v0_0) rfl rfl Try.underlying23 sz23 rfl rfl rfl rfl) ?_
 refine al_val (ov_lenD 0 rfl rfl Try.underlying23 rfl) ?_
 refine al_as rfl rfl ?_
 refine al_nt ?_
 refine aw_seq ?_
 obtain ⟨kk5, hkk5, h⟩ := lt_some h
 refine aw_seq_join (ι := Bool) (fun i => (memOf w0 Z0 [] [(oBox g1 61 [v0_0, v0_1]), (oBox g2 63 [(iq a1.Kind), (iq a1.Seq), (str a1.Text)]), (oBox g3 61 [nS, nS])] [(fDat (tyList tyStr) [v0_0] a0.Got), (fDat (tyList tyS_api_Packet) [v0_1] a0.Held)])) (fun i => (tab [(2, (pq g1)), (3, (pq g2)), (4, (pq g3)), (7, (iq (a0.Got.length : Int))), (27, (bool i))])) (fun i => kk5 i = some r) ?_ ?_
 ·rintro j4b27 h
  have h : kk5 j4b27 = some r := h
  rw [hkk5] at h
  dsimp only at h
  clear hkk5
  refine aw_show (m := (memOf w0 Z0 [] [(oBox g1 61 [v0_0, v0_1]), (oBox g2 63 [(iq a1.Kind), (iq a1.Seq), (str a1.Text)]), (oBox g3 61 [nS, nS])] [(fDat (tyList tyStr) [v0_0] a0.Got), (fDat (tyList tyS_api_Packet) [v0_1] a0.Held)])) (S := (tab [(2, (pq g1)), (3, (pq g2)), (4, (pq g3)), (7, (iq (a0.Got.length : Int))), (27, (bool j4b27))])) ?_
  refine aw_cond rfl (fun hb6 => ?_) (fun hb6 => ?_)
  ·replace h := bif_t hb6 h
   refine aw_sr ?_
   refine al_val (ov_build (cells := ([nS, nS]).toArray) (cs := [nS, nS]) rfl (fun w a hm hs => by simp only [List.map_toArray, List.map_cons, List.map_nil, List.toList_toArray]; kernel_rfl)) ?_
   refine al_store (i := 2) (vs := [nS, nS]) (cs' := [nS, nS]) rfl rfl rfl sz61 (cv_rfl rfl) rfl (co_val rfl (co_val rfl co_nil)) (Nat.le_of_ble_eq_true rfl) rfl rfl ?_
   refine al_as rfl rfl ?_
   refine al_as rfl rfl ?_
   refine al_nt ?_
   refine aw_ret ?_
   refine aq_then_ret ?_
   refine aq_nilD tyStr ?_
   refine aq_nilD tyS_api_Packet ?_
   refine aq_nilD tyS_api_Packet ?_
   obtain rfl := Option.some.inj h
   exact fn_ret (nS, nS, nS) [] [2, 0, 0] rfl rfl rfl rfl (resC rfl (resB (i := 2) rfl rfl Try.underlying61 sz61 rfl rfl rfl (resT rfl (resT rfl (resN)))) rfl) rfl rfl rfl (by decide)
  ·replace h := bif_f hb6 h
   refine aw_skip ?_
   refine aq_tr ?_
   refine al_mv rfl rfl ?_
   refine al_as rfl rfl ?_
   refine al_nt ?_
   obtain ⟨kk8, hkk8, h⟩ := lt_some h
   refine aw_seq_join (ι := Unit) (fun i => (memOf w0 Z0 [] [(oBox g1 61 [v0_0, v0_1]), (oBox g2 63 [(iq a1.Kind), (iq a1.Seq), (str a1.Text)]), (oBox g3 61 [nS, nS])] [(fDat (tyList tyStr) [v0_0] a0.Got), (fDat (tyList tyS_api_Packet) [v0_1] a0.Held)])) (fun i => (tab [(2, (pq g1)), (3, (pq g2)), (4, (pq g3)), (7, (iq (a0.Got.length : Int)))])) (fun i => kk8 () = some r) ?_ ?_
   ·rintro _ h
    have h : kk8 () = some r := h
    rw [hkk8] at h
    dsimp only at h
    clear hkk8
    refine aw_show (m := (memOf w0 Z0 [] [(oBox g1 61 [v0_0, v0_1]), (oBox g2 63 [(iq a1.Kind), (iq a1.Seq), (str a1.Text)]), (oBox g3 61 [nS, nS])] [(fDat (tyList tyStr) [v0_0] a0.Got), (fDat (tyList tyS_api_Packet) [v0_1] a0.Held)])) (S := (tab [(2, (pq g1)), (3, (pq g2)), (4, (pq g3)), (7, (iq (a0.Got.length : Int)))])) ?_
    refine aw_seq ?_
    obtain ⟨kk10, hkk10, h⟩ := lt_some h
    refine aw_seq_join (ι := Bool) (fun i => (memOf w0 Z0 [] [(oBox g1 61 [v0_0, v0_1]), (oBox g2 63 [(iq a1.Kind), (iq a1.Seq), (str a1.Text)]), (oBox g3 61 [nS, nS])] [(fDat (tyList tyStr) [v0_0] a0.Got), (fDat (tyList tyS_api_Packet) [v0_1] a0.Held)])) (fun i => (tab [(2, (pq g1)), (3, (pq g2)), (4, (pq g3)), (7, (iq (a0.Got.length : Int))), (64, (bool i))])) (fun i => kk10 i = some r) ?_ ?_
    ·rintro j9b64 h
     have h : kk10 j9b64 = some r := h
     rw [hkk10] at h
     dsimp only at h
     clear hkk10
     refine aw_show (m := (memOf w0 Z0 [] [(oBox g1 61 [v0_0, v0_1]), (oBox g2 63 [(iq a1.Kind), (iq a1.Seq), (str a1.Text)]), (oBox g3 61 [nS, nS])] [(fDat (tyList tyStr) [v0_0] a0.Got), (fDat (tyList tyS_api_Packet) [v0_1] a0.Held)])) (S := (tab [(2, (pq g1)), (3, (pq g2)), (4, (pq g3)), (7, (iq (a0.Got.length : Int))), (64, (bool j9b64))])) ?_
     refine aw_cond rfl (fun hb11 => ?_) (fun hb11 => ?_)
     ·replace h := bif_t hb11 h
      refine aw_sr ?_
      refine al_val (ov_load (i := 0) (v := (ag [v0_0, v0_1])) rfl rfl Try.underlying61 sz61 rfl rfl rfl rfl) ?_
      refine al_store (i := 2) (vs := [v0_0, v0_1]) (cs' := [v0_0, v0_1]) rfl rfl rfl sz61 (cv_rfl rfl) rfl (co_fz 0 rfl (co_fz 1 rfl co_nil)) (Nat.le_of_ble_eq_true rfl) rfl rfl ?_
      refine al_as rfl rfl ?_
      refine al_as rfl rfl ?_
      refine al_nt ?_
      refine aw_ret ?_
      refine aq_then_ret ?_
      refine aq_nilD tyS_api_Packet ?_
      obtain rfl := Option.some.inj h
      exact fn_ret (v0_0, v0_1, nS) [] [1, 2, 0] rfl rfl rfl rfl (resC rfl (resB (i := 2) rfl rfl Try.underlying61 sz61 rfl rfl rfl (resT rfl (resT rfl (resN)))) rfl) rfl rfl rfl (by decide)
     ·replace h := bif_f hb11 h
      refine aw_skip ?_
      refine aq_tr ?_
      refine al_val (ov_fieldA (p := 1) rfl Try.underlying63 rfl sz3 rfl rfl rfl) ?_
      refine al_val (ov_load (i := 1) (v := (iq a1.Seq)) rfl rfl Try.underlying3 sz3 rfl rfl rfl rfl) ?_
      refine al_val (ov_build (cells := ([(iq (2 : Int)), (iq a1.Seq), (str ([] : List UInt8))]).toArray) (cs := [(iq (2 : Int)), (iq a1.Seq), (str ([] : List UInt8))]) rfl (fun w a hm hs => by simp only [List.map_toArray, List.map_cons, List.map_nil, List.toList_toArray, hs.ev (x := .const (iq (2 : Int))) rfl, hs.ev (x := .tmp 67) rfl]; kernel_rfl)) ?_
      refine al_buildSlice (τ := tyS_api_Packet) (e := 63) (k := 1) (sz := 0) (by_ := 0) (z := undef) (cs := [(iq (2 : Int)), (iq a1.Seq), (str ([] : List UInt8))]) (xs := [(S_api_Packet.mk (2 : Int) a1.Seq ([] : List UInt8))]) rfl (by decide) (fun w a hm hs => ⟨([(iq (2 : Int)), (iq a1.Seq), (str ([] : List UInt8))]).toArray, rfl, by simp only [List.map_toArray, List.map_cons, List.map_nil, hs.ev (x := .tmp 68) rfl]; exact run_bs [(ag [(iq (2 : Int)), (iq a1.Seq), (str ([] : List UInt8))])] [(iq (2 : Int)), (iq a1.Seq), (str ([] : List UInt8))] Try.underlying59 to63 rfl rfl (bs_cons (l := [(iq (2 : Int)), (iq a1.Seq), (str ([] : List UInt8))]) (cs := []) (cv_rfl rfl) rfl bs_nil) hm⟩) (fun hm => ⟨_, _, rfl, (fun _ => mkS_api_Packet rfl) hm, rfl⟩) rfl (fun v12 => ?_)
      refine al_as rfl rfl ?_
      refine al_nt ?_
      refine aw_sr ?_
      refine al_as rfl rfl ?_
      refine al_nt ?_
      refine aw_sr ?_
      refine al_val (ov_fieldA (p := 1) rfl Try.underlying63 rfl sz3 rfl rfl rfl) ?_
      refine al_val (ov_load (i := 2) (v := (iq a1.Seq)) rfl rfl Try.underlying3 sz3 rfl rfl rfl rfl) ?_
      refine al_mv rfl rfl ?_
      refine al_in rfl rfl rfl rfl ?_
      refine al_as rfl rfl ?_
      refine al_nt ?_
      obtain ⟨kk14, hkk14, h⟩ := lt_some h
      refine aw_seq_join (ι := Value × (List S_api_Packet) × Bool) (fun i => (memOf w0 Z0 [] [(oBox g1 61 [v0_0, v0_1]), (oBox g2 63 [(iq a1.Kind), (iq a1.Seq), (str a1.Text)]), (oBox g3 61 [nS, nS]), (oRow v12 63 tyS_api_Packet [(S_api_Packet.mk (2 : Int) a1.Seq ([] : List UInt8))]), (oRow i.1 63 tyS_api_Packet i.2.1)] [(fDat (tyList tyStr) [v0_0] a0.Got), (fDat (tyList tyS_api_Packet) [v0_1] a0.Held)])) (fun i => (tab [(2, (pq g1)), (3, (pq g2)), (4, (pq g3)), (11, v12), (12, i.1), (13, (bool i.2.2))])) (fun i => kk14 i.2.1 i.2.2 = some r) ?_ ?_
      ·rintro ⟨j13v12, j13x12, j13b13⟩ h
       have h : kk14 j13x12 j13b13 = some r := h
       rw [hkk14] at h
       dsimp only at h
       clear hkk14
       refine aw_show (m := (memOf w0 Z0 [] [(oBox g1 61 [v0_0, v0_1]), (oBox g2 63 [(iq a1.Kind), (iq a1.Seq), (str a1.Text)]), (oBox g3 61 [nS, nS]), (oRow v12 63 tyS_api_Packet [(S_api_Packet.mk (2 : Int) a1.Seq ([] : List UInt8))]), (oRow j13v12 63 tyS_api_Packet j13x12)] [(fDat (tyList tyStr) [v0_0] a0.Got), (fDat (tyList tyS_api_Packet) [v0_1] a0.Held)])) (S := (tab [(2, (pq g1)), (3, (pq g2)), (4, (pq g3)), (11, v12), (12, j13v12), (13, (bool j13b13))])) ?_
       obtain ⟨kk16, hkk16, h⟩ := lt_some h
       refine aw_seq_join (ι := Value × (List S_api_Packet)) (fun i => (memOf w0 Z0 [] [(oBox g1 61 [v0_0, v0_1]), (oBox g3 61 [nS, nS]), (oRow v12 63 tyS_api_Packet [(S_api_Packet.mk (2 : Int) a1.Seq ([] : List UInt8))]), (oRow i.1 63 tyS_api_Packet i.2)] [(fDat (tyList tyStr) [v0_0] a0.Got), (fDat (tyList tyS_api_Packet) [v0_1] a0.Held)])) (fun i => (tab [(2, (pq g1)), (4, (pq g3)), (11, v12), (12, i.1)])) (fun i => kk16 i.2 = some r) ?_ ?_
       ·rintro ⟨j15v12, j15x12⟩ h
        have h : kk16 j15x12 = some r := h
        rw [hkk16] at h
        dsimp only at h
        clear hkk16
        refine aw_show (m := (memOf w0 Z0 [] [(oBox g1 61 [v0_0, v0_1]), (oBox g3 61 [nS, nS]), (oRow v12 63 tyS_api_Packet [(S_api_Packet.mk (2 : Int) a1.Seq ([] : List UInt8))]), (oRow j15v12 63 tyS_api_Packet j15x12)] [(fDat (tyList tyStr) [v0_0] a0.Got), (fDat (tyList tyS_api_Packet) [v0_1] a0.Held)])) (S := (tab [(2, (pq g1)), (4, (pq g3)), (11, v12), (12, j15v12)])) ?_
        refine aw_sr ?_
        refine al_val (ov_fieldA (p := 0) rfl Try.underlying61 rfl sz23 rfl rfl rfl) ?_
        refine al_val (ov_load (i := 0) (v := v0_0) rfl rfl Try.underlying23 sz23 rfl rfl rfl rfl) ?_
        obtain ⟨r18, hc17, h⟩ := opt_some h
        refine al_call (vs := [v0_0]) (f_slices_Clone___string_string__ok fu v0_0 a0.Got hc17) [] [] [0, 1, 2, 3] (pre_fz 0 rfl pre_nil) rfl (by simp) (by decide) (.inl rfl) rfl Try.func67 rfl rfl rfl (fun v19 => ?_)
        refine al_as rfl rfl ?_
        refine al_nt ?_
        obtain ⟨kk21, hkk21, h⟩ := lt_some h
        refine aw_seq_join (ι := Value × (List S_api_Packet) × Value × (List (List UInt8))) (fun i => (memOf w0 Z0 [] [(oBox g3 61 [nS, nS]), (oRow i.2.2.1 9 tyStr i.2.2.2)] [(fDat (tyList tyS_api_Packet) [v12] [(S_api_Packet.mk (2 : Int) a1.Seq ([] : List UInt8))]), (fDat (tyList tyS_api_Packet) [i.1] i.2.1), (fDat (tyList tyStr) [v0_0] a0.Got), (fDat (tyList tyS_api_Packet) [v0_1] a0.Held)])) (fun i => (tab [(4, (pq g3)), (11, v12), (12, i.1), (16, i.2.2.1)])) (fun i => kk21 i.2.1 i.2.2.2 = some r) ?_ ?_
        ·rintro ⟨j20v12, j20x12, j20v16, j20x16⟩ h
         have h : kk21 j20x12 j20x16 = some r := h
         rw [hkk21] at h
         dsimp only at h
         clear hkk21
         refine aw_show (m := (memOf w0 Z0 [] [(oBox g3 61 [nS, nS]), (oRow j20v16 9 tyStr j20x16)] [(fDat (tyList tyS_api_Packet) [v12] [(S_api_Packet.mk (2 : Int) a1.Seq ([] : List UInt8))]), (fDat (tyList tyS_api_Packet) [j20v12] j20x12), (fDat (tyList tyStr) [v0_0] a0.Got), (fDat (tyList tyS_api_Packet) [v0_1] a0.Held)])) (S := (tab [(4, (pq g3)), (11, v12), (12, j20v12), (16, j20v16)])) ?_
         refine aw_sr ?_
         refine al_mv rfl rfl ?_
         refine al_mv rfl rfl ?_
         refine al_val (ov_build (cells := ([j20v16, j20v12]).toArray) (cs := [j20v16, j20v12]) rfl (fun w a hm hs => by simp only [List.map_toArray, List.map_cons, List.map_nil, List.toList_toArray, hs.ev (x := .tmp 137) rfl, hs.ev (x := .tmp 138) rfl]; obtain ⟨A0, l0, c0, e0⟩ := sl_own 1 rfl hm; rw [e0]; obtain ⟨A1, l1, c1, e1⟩ := sl_fz 1 rfl hm; rw [e1]; kernel_rfl)) ?_
         refine al_mv rfl rfl ?_
         refine al_store (i := 0) (vs := [j20v16, j20v12]) (cs' := [j20v16, j20v12]) rfl rfl rfl sz61 (cv_rfl rfl) rfl (co_own 1 rfl (co_fz 1 rfl co_nil)) (Nat.le_of_ble_eq_true rfl) rfl rfl ?_
         refine al_as rfl rfl ?_
         refine al_as rfl rfl ?_
         refine al_nt ?_
         refine aw_ret ?_
         refine aq_freeze 1 rfl rfl ?_
         obtain rfl := Option.some.inj h
         exact fn_ret (j20v16, j20v12, v12) [] [0, 2, 1] rfl rfl rfl rfl (resC rfl (resB (i := 0) rfl rfl Try.underlying61 sz61 rfl rfl rfl (resT rfl (resT rfl (resN)))) rfl) rfl rfl rfl (by decide)
        ·clear hkk21
         refine aw_block ?_
         refine aw_freeze 3 rfl rfl ?_
         refine aw_freeze 3 rfl rfl ?_
         refine aw_state (aw_loop (ι := Value × (List S_api_Packet) × Value × (List (List UInt8))) (fun i => (memOf w0 Z0 [] [(oBox g3 61 [nS, nS]), (oRow i.2.2.1 9 tyStr i.2.2.2)] [(fDat (tyList tyS_api_Packet) [v12] [(S_api_Packet.mk (2 : Int) a1.Seq ([] : List UInt8))]), (fDat (tyList tyS_api_Packet) [i.1] i.2.1), (fDat (tyList tyS_api_Packet) [j15v12] j15x12), (fDat (tyList tyStr) [v0_0] a0.Got), (fDat (tyList tyS_api_Packet) [v0_1] a0.Held)])) (fun i => (tab [(4, (pq g3)), (11, v12), (12, i.1), (16, i.2.2.1)])) (fun q i => f_lumref_Takes_L24 kk21 q i.2.1 i.2.2.2 = some r) ?_ fu (j15v12, j15x12, v19, r18) h) (fun w a hm hs => norm hm hs [2, 0] [1, 0, 0, 2, 3] [(4, (pq g3)), (11, v12), (12, j15v12), (16, v19)] (by decide) ⟨rfl, rfl, rfl, rfl, trivial⟩)
         clear h
         rintro k23 ⟨l22v12, l22x12, l22v16, l22x16⟩ h
         have h : f_lumref_Takes_L24 kk21 k23 l22x12 l22x16 = some r := h
         obtain _ | k23 := k23
         · rw [f_lumref_Takes_L24] at h; cases h
         rw [f_lumref_Takes_L24] at h
         refine aw_show (m := (memOf w0 Z0 [] [(oBox g3 61 [nS, nS]), (oRow l22v16 9 tyStr l22x16)] [(fDat (tyList tyS_api_Packet) [v12] [(S_api_Packet.mk (2 : Int) a1.Seq ([] : List UInt8))]), (fDat (tyList tyS_api_Packet) [l22v12] l22x12), (fDat (tyList tyS_api_Packet) [j15v12] j15x12), (fDat (tyList tyStr) [v0_0] a0.Got), (fDat (tyList tyS_api_Packet) [v0_1] a0.Held)])) (S := (tab [(4, (pq g3)), (11, v12), (12, l22v12), (16, l22v16)])) ?_
         refine aw_seq ?_
         obtain ⟨kk26, hkk26, h⟩ := lt_some h
         refine aw_seq_join (ι := Bool) (fun i => (memOf w0 Z0 [] [(oBox g3 61 [nS, nS]), (oRow l22v16 9 tyStr l22x16)] [(fDat (tyList tyS_api_Packet) [v12] [(S_api_Packet.mk (2 : Int) a1.Seq ([] : List UInt8))]), (fDat (tyList tyS_api_Packet) [l22v12] l22x12), (fDat (tyList tyS_api_Packet) [j15v12] j15x12), (fDat (tyList tyStr) [v0_0] a0.Got), (fDat (tyList tyS_api_Packet) [v0_1] a0.Held)])) (fun i => (tab [(4, (pq g3)), (11, v12), (12, l22v12), (16, l22v16), (127, (bool i))])) (fun i => kk26 i = some r) ?_ ?_
         ·rintro j25b127 h
          have h : kk26 j25b127 = some r := h
          rw [hkk26] at h
          dsimp only at h
          clear hkk26
          refine aw_show (m := (memOf w0 Z0 [] [(oBox g3 61 [nS, nS]), (oRow l22v16 9 tyStr l22x16)] [(fDat (tyList tyS_api_Packet) [v12] [(S_api_Packet.mk (2 : Int) a1.Seq ([] : List UInt8))]), (fDat (tyList tyS_api_Packet) [l22v12] l22x12), (fDat (tyList tyS_api_Packet) [j15v12] j15x12), (fDat (tyList tyStr) [v0_0] a0.Got), (fDat (tyList tyS_api_Packet) [v0_1] a0.Held)])) (S := (tab [(4, (pq g3)), (11, v12), (12, l22v12), (16, l22v16), (127, (bool j25b127))])) ?_
          refine aw_cond rfl (fun hb27 => ?_) (fun hb27 => ?_)
          ·replace h := bif_t hb27 h
           refine aw_skip ?_
           refine aq_then ?_
           refine aw_block ?_
           obtain ⟨u28, hu29, h⟩ := opt_some h
           obtain ⟨hc33, h⟩ := req_some h
           refine aw_region_open [⟨0, 128, Unit, fun _ => { val := l22v16 }⟩, ⟨1, 129, Unit, fun _ => { val := l22v12 }⟩, ⟨2, 130, Value, fun (i : Value) => { val := i, fz := [(fPtr tyS_api_Packet i u28)] }⟩, ⟨3, 131, Value, fun (i : Value) => { val := i, fz := [(fPtr tyStr i u28.Text)] }⟩, ⟨4, 132, Unit, fun _ => { val := (str u28.Text) }⟩, ⟨5, 133, Value, fun (i : Value) => { val := i, own := [(oRow i 9 tyStr [u28.Text])] }⟩, ⟨7, 135, Unit, fun _ => { val := l22v12 }⟩, ⟨8, 136, Value, fun (i : Value) => { val := i, fz := [(fDat (tyList tyS_api_Packet) [i] (l22x12.drop ((1 : Int)).toNat))] }⟩] (tab [(4, (pq g3)), (11, v12), (12, l22v12), (16, l22v16)]) mixed (fun a hs => hs.tab _ (allT_mem ⟨rfl, rfl, rfl, rfl, trivial⟩)) ?_
           refine ta_show (m := (memOf w0 Z0 [] [(oBox g3 61 [nS, nS]), (oRow l22v16 9 tyStr l22x16)] [(fDat (tyList tyS_api_Packet) [v12] [(S_api_Packet.mk (2 : Int) a1.Seq ([] : List UInt8))]), (fDat (tyList tyS_api_Packet) [l22v12] l22x12), (fDat (tyList tyS_api_Packet) [j15v12] j15x12), (fDat (tyList tyStr) [v0_0] a0.Got), (fDat (tyList tyS_api_Packet) [v0_1] a0.Held)])) (S := (tab [(4, (pq g3)), (11, v12), (12, l22v12), (16, l22v16)])) ?_
           refine ta_step 6 _ [0, 1, 2, 3, 4, 5, 7, 8] [128, 129, 130, 131, 132, 133, 135, 136] [0, 1, 2, 3, 4, 5] [] [⟨0, 128, Unit, fun _ => { val := l22v16 }⟩, ⟨1, 129, Unit, fun _ => { val := l22v12 }⟩, ⟨2, 130, Value, fun (i : Value) => { val := i, fz := [(fPtr tyS_api_Packet i u28)] }⟩, ⟨3, 131, Value, fun (i : Value) => { val := i, fz := [(fPtr tyStr i u28.Text)] }⟩, ⟨4, 132, Unit, fun _ => { val := (str u28.Text) }⟩, ⟨5, 133, Value, fun (i : Value) => { val := i, own := [(oRow i 9 tyStr [u28.Text])] }⟩] [⟨7, 135, Unit, fun _ => { val := l22v12 }⟩, ⟨8, 136, Value, fun (i : Value) => { val := i, fz := [(fDat (tyList tyS_api_Packet) [i] (l22x12.drop ((1 : Int)).toNat))] }⟩] rfl rfl rfl (by kernel_rfl) rfl rfl rfl ⟨⟨_, rfl, [], rfl, by
 intro X_ Y_ F_ K_ hK_
 refine al_show (m := Mem.plus (memOf w0 Z0 [] [(oBox g3 61 [nS, nS]), (oRow l22v16 9 tyStr l22x16)] [(fDat (tyList tyS_api_Packet) [v12] [(S_api_Packet.mk (2 : Int) a1.Seq ([] : List UInt8))]), (fDat (tyList tyS_api_Packet) [l22v12] l22x12), (fDat (tyList tyS_api_Packet) [j15v12] j15x12), (fDat (tyList tyStr) [v0_0] a0.Got), (fDat (tyList tyS_api_Packet) [v0_1] a0.Held)]) X_ Y_) (S := over (tab [(4, (pq g3)), (11, v12), (12, l22v12), (16, l22v16)]) F_) ?_
 refine al_mv rfl rfl ?_
 refine al_nil ?_
 exact fr_fin hK_ ()⟩, ⟨_, rfl, [], rfl, by
 intro X_ Y_ F_ K_ hK_
 refine al_show (m := Mem.plus (memOf w0 Z0 [] [(oBox g3 61 [nS, nS]), (oRow l22v16 9 tyStr l22x16)] [(fDat (tyList tyS_api_Packet) [v12] [(S_api_Packet.mk (2 : Int) a1.Seq ([] : List UInt8))]), (fDat (tyList tyS_api_Packet) [l22v12] l22x12), (fDat (tyList tyS_api_Packet) [j15v12] j15x12), (fDat (tyList tyStr) [v0_0] a0.Got), (fDat (tyList tyS_api_Packet) [v0_1] a0.Held)]) X_ Y_) (S := over (tab [(4, (pq g3)), (11, v12), (12, l22v12), (16, l22v16)]) F_) ?_
 refine al_mv rfl rfl ?_
 refine al_nil ?_
 exact fr_fin hK_ ()⟩, ⟨_, rfl, [1], rfl, by
 intro _
 intro X_ Y_ F_ K_ hK_
 refine al_show (m := Mem.plus (memOf w0 Z0 [] [(oBox g3 61 [nS, nS]), (oRow l22v16 9 tyStr l22x16)] [(fDat (tyList tyS_api_Packet) [v12] [(S_api_Packet.mk (2 : Int) a1.Seq ([] : List UInt8))]), (fDat (tyList tyS_api_Packet) [l22v12] l22x12), (fDat (tyList tyS_api_Packet) [j15v12] j15x12), (fDat (tyList tyStr) [v0_0] a0.Got), (fDat (tyList tyS_api_Packet) [v0_1] a0.Held)]) X_ Y_) (S := over (put (tab [(4, (pq g3)), (11, v12), (12, l22v12), (16, l22v16)]) 129 l22v12) F_) ?_
 refine al_idxD 1 hu29 rfl rfl rfl Try.underlying59 sz63 rfl (fun p30 => ?_)
 refine al_nil ?_
 exact fr_fin hK_ p30⟩, ⟨_, rfl, [2], rfl, by
 intro p30
 intro X_ Y_ F_ K_ hK_
 refine al_show (m := Mem.plus (memOf w0 Z0 [] [(oBox g3 61 [nS, nS]), (oRow l22v16 9 tyStr l22x16)] [(fPtr tyS_api_Packet p30 u28), (fDat (tyList tyS_api_Packet) [v12] [(S_api_Packet.mk (2 : Int) a1.Seq ([] : List UInt8))]), (fDat (tyList tyS_api_Packet) [l22v12] l22x12), (fDat (tyList tyS_api_Packet) [j15v12] j15x12), (fDat (tyList tyStr) [v0_0] a0.Got), (fDat (tyList tyS_api_Packet) [v0_1] a0.Held)]) X_ Y_) (S := over (put (tab [(4, (pq g3)), (11, v12), (12, l22v12), (16, l22v16)]) 130 p30) F_) ?_
 refine al_fieldD (pr := fun (y : S_api_Packet) => y.Text) 0 rfl subS_api_Packet_2 rfl Try.underlying63 rfl sz9 rfl rfl (fun p31 => ?_)
 refine al_nil ?_
 exact fr_fin hK_ p31⟩, ⟨_, rfl, [3], rfl, by
 intro p31
 intro X_ Y_ F_ K_ hK_
 refine al_show (m := Mem.plus (memOf w0 Z0 [] [(oBox g3 61 [nS, nS]), (oRow l22v16 9 tyStr l22x16)] [(fPtr tyStr p31 u28.Text), (fDat (tyList tyS_api_Packet) [v12] [(S_api_Packet.mk (2 : Int) a1.Seq ([] : List UInt8))]), (fDat (tyList tyS_api_Packet) [l22v12] l22x12), (fDat (tyList tyS_api_Packet) [j15v12] j15x12), (fDat (tyList tyStr) [v0_0] a0.Got), (fDat (tyList tyS_api_Packet) [v0_1] a0.Held)]) X_ Y_) (S := over (put (tab [(4, (pq g3)), (11, v12), (12, l22v12), (16, l22v16)]) 131 p31) F_) ?_
 refine al_val (ov_loadP (ds := [(str u28.Text)]) 0 rfl (fun h => h) rfl Try.underlying9 sz9 rfl rfl rfl) ?_
 refine al_nil ?_
 exact fr_fin hK_ ()⟩, ⟨_, rfl, [4], rfl, by
 intro _
 intro X_ Y_ F_ K_ hK_
 refine al_show (m := Mem.plus (memOf w0 Z0 [] [(oBox g3 61 [nS, nS]), (oRow l22v16 9 tyStr l22x16)] [(fDat (tyList tyS_api_Packet) [v12] [(S_api_Packet.mk (2 : Int) a1.Seq ([] : List UInt8))]), (fDat (tyList tyS_api_Packet) [l22v12] l22x12), (fDat (tyList tyS_api_Packet) [j15v12] j15x12), (fDat (tyList tyStr) [v0_0] a0.Got), (fDat (tyList tyS_api_Packet) [v0_1] a0.Held)]) X_ Y_) (S := over (put (tab [(4, (pq g3)), (11, v12), (12, l22v12), (16, l22v16)]) 132 (str u28.Text)) F_) ?_
 refine al_buildSlice (τ := tyStr) (e := 9) (k := 1) (sz := 0) (by_ := 0) (z := undef) (cs := [(str u28.Text)]) (xs := [u28.Text]) rfl (by decide) (fun w a hm hs => ⟨([(str u28.Text)]).toArray, rfl, by simp only [List.map_toArray, List.map_cons, List.map_nil, hs.ev (x := .tmp 132) rfl]; exact run_bs [(str u28.Text)] [(str u28.Text)] Try.underlying23 to9 rfl rfl (bs_cons (l := [(str u28.Text)]) (cs := []) (cv_rfl rfl) rfl bs_nil) hm⟩) (fun hm => ⟨_, _, rfl, (fun _ => rfl) hm, rfl⟩) rfl (fun v32 => ?_)
 refine al_nil ?_
 exact fr_fin hK_ v32⟩, ⟨_, rfl, [], rfl, by
 intro X_ Y_ F_ K_ hK_
 refine al_show (m := Mem.plus (memOf w0 Z0 [] [(oBox g3 61 [nS, nS]), (oRow l22v16 9 tyStr l22x16)] [(fDat (tyList tyS_api_Packet) [v12] [(S_api_Packet.mk (2 : Int) a1.Seq ([] : List UInt8))]), (fDat (tyList tyS_api_Packet) [l22v12] l22x12), (fDat (tyList tyS_api_Packet) [j15v12] j15x12), (fDat (tyList tyStr) [v0_0] a0.Got), (fDat (tyList tyS_api_Packet) [v0_1] a0.Held)]) X_ Y_) (S := over (tab [(4, (pq g3)), (11, v12), (12, l22v12), (16, l22v16)]) F_) ?_
 refine al_mv rfl rfl ?_
 refine al_nil ?_
 exact fr_fin hK_ ()⟩, ⟨_, rfl, [6], rfl, by
 intro _
 intro X_ Y_ F_ K_ hK_
 refine al_show (m := Mem.plus (memOf w0 Z0 [] [(oBox g3 61 [nS, nS]), (oRow l22v16 9 tyStr l22x16)] [(fDat (tyList tyS_api_Packet) [v12] [(S_api_Packet.mk (2 : Int) a1.Seq ([] : List UInt8))]), (fDat (tyList tyS_api_Packet) [l22v12] l22x12), (fDat (tyList tyS_api_Packet) [j15v12] j15x12), (fDat (tyList tyStr) [v0_0] a0.Got), (fDat (tyList tyS_api_Packet) [v0_1] a0.Held)]) X_ Y_) (S := over (put (tab [(4, (pq g3)), (11, v12), (12, l22v12), (16, l22v16)]) 135 l22v12) F_) ?_
 refine al_sliceDF 1 hc33.1 hc33.2 rfl rfl rfl Try.underlying59 sz63 rfl (fun s34 => ?_)
 refine al_nil ?_
 exact fr_fin hK_ s34⟩, trivial⟩ ?_
           intro _
           intro _
           intro p30
           intro p31
           intro _
           intro v32
           intro X_ Y_ F_ K_ hK_
           refine al_show (m := Mem.plus (memOf w0 Z0 [] [(oRow v32 9 tyStr [u28.Text]), (oBox g3 61 [nS, nS]), (oRow l22v16 9 tyStr l22x16)] [(fPtr tyStr p31 u28.Text), (fPtr tyS_api_Packet p30 u28), (fDat (tyList tyS_api_Packet) [v12] [(S_api_Packet.mk (2 : Int) a1.Seq ([] : List UInt8))]), (fDat (tyList tyS_api_Packet) [l22v12] l22x12), (fDat (tyList tyS_api_Packet) [j15v12] j15x12), (fDat (tyList tyStr) [v0_0] a0.Got), (fDat (tyList tyS_api_Packet) [v0_1] a0.Held)]) X_ Y_) (S := over (put (put (put (put (put (put (tab [(4, (pq g3)), (11, v12), (12, l22v12), (16, l22v16)]) 128 l22v16) 129 l22v12) 130 p30) 131 p31) 132 (str u28.Text)) 133 v32) F_) ?_
           obtain ⟨hc35, h⟩ := req_some h
           refine al_append 2 hc35.1 hc35.2 rfl (src_own (i := 2) 0 rfl) rfl rfl Try.underlying23 to9 rfl rfl rfl (fun v36 => ?_)
           refine al_nil ?_
           refine aq_show (m := Mem.plus (memOf w0 Z0 [] [(oRow v32 9 tyStr [u28.Text]), (oBox g3 61 [nS, nS]), (oRow v36 9 tyStr (l22x16 ++ ([u28.Text])))] [(fPtr tyStr p31 u28.Text), (fPtr tyS_api_Packet p30 u28), (fDat (tyList tyS_api_Packet) [v12] [(S_api_Packet.mk (2 : Int) a1.Seq ([] : List UInt8))]), (fDat (tyList tyS_api_Packet) [l22v12] l22x12), (fDat (tyList tyS_api_Packet) [j15v12] j15x12), (fDat (tyList tyStr) [v0_0] a0.Got), (fDat (tyList tyS_api_Packet) [v0_1] a0.Held)]) X_ Y_) ?_
           refine aq_next hK_ [0, 1, 2] [2, 3, 4, 5, 6] [(4, (pq g3)), (11, v12), (12, l22v12), (16, l22v16), (134, v36)] [135, 136] [] rfl rfl (by decide) rfl ⟨rfl, rfl, rfl, rfl, rfl, trivial⟩ ⟨rfl, rfl, trivial⟩ ?_
           clear hK_ K_ F_ X_ Y_
           refine ta_show (m := (memOf w0 Z0 [] [(oRow v32 9 tyStr [u28.Text]), (oBox g3 61 [nS, nS]), (oRow v36 9 tyStr (l22x16 ++ ([u28.Text])))] [(fDat (tyList tyS_api_Packet) [v12] [(S_api_Packet.mk (2 : Int) a1.Seq ([] : List UInt8))]), (fDat (tyList tyS_api_Packet) [l22v12] l22x12), (fDat (tyList tyS_api_Packet) [j15v12] j15x12), (fDat (tyList tyStr) [v0_0] a0.Got), (fDat (tyList tyS_api_Packet) [v0_1] a0.Held)])) (S := (tab [(4, (pq g3)), (11, v12), (12, l22v12), (16, l22v16), (134, v36)])) ?_
           refine ta_step 9 _ [7, 8] [135, 136] [] [] [] [⟨7, 135, Unit, fun _ => { val := l22v12 }⟩, ⟨8, 136, Value, fun (i : Value) => { val := i, fz := [(fDat (tyList tyS_api_Packet) [i] (l22x12.drop ((1 : Int)).toNat))] }⟩] rfl rfl rfl (by kernel_rfl) rfl rfl rfl ⟨⟨_, rfl, [], rfl, by
 intro X_ Y_ F_ K_ hK_
 refine al_show (m := Mem.plus (memOf w0 Z0 [] [(oRow v32 9 tyStr [u28.Text]), (oBox g3 61 [nS, nS]), (oRow v36 9 tyStr (l22x16 ++ ([u28.Text])))] [(fDat (tyList tyS_api_Packet) [v12] [(S_api_Packet.mk (2 : Int) a1.Seq ([] : List UInt8))]), (fDat (tyList tyS_api_Packet) [l22v12] l22x12), (fDat (tyList tyS_api_Packet) [j15v12] j15x12), (fDat (tyList tyStr) [v0_0] a0.Got), (fDat (tyList tyS_api_Packet) [v0_1] a0.Held)]) X_ Y_) (S := over (tab [(4, (pq g3)), (11, v12), (12, l22v12), (16, l22v16), (134, v36)]) F_) ?_
 refine al_mv rfl rfl ?_
 refine al_nil ?_
 exact fr_fin hK_ ()⟩, ⟨_, rfl, [0], rfl, by
 intro _
 intro X_ Y_ F_ K_ hK_
 refine al_show (m := Mem.plus (memOf w0 Z0 [] [(oRow v32 9 tyStr [u28.Text]), (oBox g3 61 [nS, nS]), (oRow v36 9 tyStr (l22x16 ++ ([u28.Text])))] [(fDat (tyList tyS_api_Packet) [v12] [(S_api_Packet.mk (2 : Int) a1.Seq ([] : List UInt8))]), (fDat (tyList tyS_api_Packet) [l22v12] l22x12), (fDat (tyList tyS_api_Packet) [j15v12] j15x12), (fDat (tyList tyStr) [v0_0] a0.Got), (fDat (tyList tyS_api_Packet) [v0_1] a0.Held)]) X_ Y_) (S := over (put (tab [(4, (pq g3)), (11, v12), (12, l22v12), (16, l22v16), (134, v36)]) 135 l22v12) F_) ?_
 refine al_sliceDF 1 hc33.1 hc33.2 rfl rfl rfl Try.underlying59 sz63 rfl (fun s34 => ?_)
 refine al_nil ?_
 exact fr_fin hK_ s34⟩, trivial⟩ ?_
           intro X_ Y_ F_ K_ hK_
           refine al_show (m := Mem.plus (memOf w0 Z0 [] [(oRow v32 9 tyStr [u28.Text]), (oBox g3 61 [nS, nS]), (oRow v36 9 tyStr (l22x16 ++ ([u28.Text])))] [(fDat (tyList tyS_api_Packet) [v12] [(S_api_Packet.mk (2 : Int) a1.Seq ([] : List UInt8))]), (fDat (tyList tyS_api_Packet) [l22v12] l22x12), (fDat (tyList tyS_api_Packet) [j15v12] j15x12), (fDat (tyList tyStr) [v0_0] a0.Got), (fDat (tyList tyS_api_Packet) [v0_1] a0.Held)]) X_ Y_) (S := over (tab [(4, (pq g3)), (11, v12), (12, l22v12), (16, l22v16), (134, v36)]) F_) ?_
           refine al_as rfl rfl ?_
           refine al_nil ?_
           refine aq_show (m := Mem.plus (memOf w0 Z0 [] [(oRow v32 9 tyStr [u28.Text]), (oBox g3 61 [nS, nS]), (oRow v36 9 tyStr (l22x16 ++ ([u28.Text])))] [(fDat (tyList tyS_api_Packet) [v12] [(S_api_Packet.mk (2 : Int) a1.Seq ([] : List UInt8))]), (fDat (tyList tyS_api_Packet) [l22v12] l22x12), (fDat (tyList tyS_api_Packet) [j15v12] j15x12), (fDat (tyList tyStr) [v0_0] a0.Got), (fDat (tyList tyS_api_Packet) [v0_1] a0.Held)]) X_ Y_) ?_
           refine aq_next hK_ [0, 1, 2] [0, 1, 2, 3, 4] [(4, (pq g3)), (11, v12), (12, l22v12), (16, v36)] [135, 136] [] rfl rfl (by decide) rfl ⟨rfl, rfl, rfl, rfl, trivial⟩ ⟨rfl, rfl, trivial⟩ ?_
           clear hK_ K_ F_ X_ Y_
           refine ta_show (m := (memOf w0 Z0 [] [(oRow v32 9 tyStr [u28.Text]), (oBox g3 61 [nS, nS]), (oRow v36 9 tyStr (l22x16 ++ ([u28.Text])))] [(fDat (tyList tyS_api_Packet) [v12] [(S_api_Packet.mk (2 : Int) a1.Seq ([] : List UInt8))]), (fDat (tyList tyS_api_Packet) [l22v12] l22x12), (fDat (tyList tyS_api_Packet) [j15v12] j15x12), (fDat (tyList tyStr) [v0_0] a0.Got), (fDat (tyList tyS_api_Packet) [v0_1] a0.Held)])) (S := (tab [(4, (pq g3)), (11, v12), (12, l22v12), (16, v36)])) ?_
           refine ta_step 10 _ [7, 8] [135, 136] [7, 8] [] [⟨7, 135, Unit, fun _ => { val := l22v12 }⟩, ⟨8, 136, Value, fun (i : Value) => { val := i, fz := [(fDat (tyList tyS_api_Packet) [i] (l22x12.drop ((1 : Int)).toNat))] }⟩] [] rfl rfl rfl (by kernel_rfl) rfl rfl rfl ⟨⟨_, rfl, [], rfl, by
 intro X_ Y_ F_ K_ hK_
 refine al_show (m := Mem.plus (memOf w0 Z0 [] [(oRow v32 9 tyStr [u28.Text]), (oBox g3 61 [nS, nS]), (oRow v36 9 tyStr (l22x16 ++ ([u28.Text])))] [(fDat (tyList tyS_api_Packet) [v12] [(S_api_Packet.mk (2 : Int) a1.Seq ([] : List UInt8))]), (fDat (tyList tyS_api_Packet) [l22v12] l22x12), (fDat (tyList tyS_api_Packet) [j15v12] j15x12), (fDat (tyList tyStr) [v0_0] a0.Got), (fDat (tyList tyS_api_Packet) [v0_1] a0.Held)]) X_ Y_) (S := over (tab [(4, (pq g3)), (11, v12), (12, l22v12), (16, v36)]) F_) ?_
 refine al_mv rfl rfl ?_
 refine al_nil ?_
 exact fr_fin hK_ ()⟩, ⟨_, rfl, [0], rfl, by
 intro _
 intro X_ Y_ F_ K_ hK_
 refine al_show (m := Mem.plus (memOf w0 Z0 [] [(oRow v32 9 tyStr [u28.Text]), (oBox g3 61 [nS, nS]), (oRow v36 9 tyStr (l22x16 ++ ([u28.Text])))] [(fDat (tyList tyS_api_Packet) [v12] [(S_api_Packet.mk (2 : Int) a1.Seq ([] : List UInt8))]), (fDat (tyList tyS_api_Packet) [l22v12] l22x12), (fDat (tyList tyS_api_Packet) [j15v12] j15x12), (fDat (tyList tyStr) [v0_0] a0.Got), (fDat (tyList tyS_api_Packet) [v0_1] a0.Held)]) X_ Y_) (S := over (put (tab [(4, (pq g3)), (11, v12), (12, l22v12), (16, v36)]) 135 l22v12) F_) ?_
 refine al_sliceDF 1 hc33.1 hc33.2 rfl rfl rfl Try.underlying59 sz63 rfl (fun s34 => ?_)
 refine al_nil ?_
 exact fr_fin hK_ s34⟩, trivial⟩ ?_
           intro _
           intro s34
           intro X_ Y_ F_ K_ hK_
           refine al_show (m := Mem.plus (memOf w0 Z0 [] [(oRow v32 9 tyStr [u28.Text]), (oBox g3 61 [nS, nS]), (oRow v36 9 tyStr (l22x16 ++ ([u28.Text])))] [(fDat (tyList tyS_api_Packet) [s34] (l22x12.drop ((1 : Int)).toNat)), (fDat (tyList tyS_api_Packet) [v12] [(S_api_Packet.mk (2 : Int) a1.Seq ([] : List UInt8))]), (fDat (tyList tyS_api_Packet) [l22v12] l22x12), (fDat (tyList tyS_api_Packet) [j15v12] j15x12), (fDat (tyList tyStr) [v0_0] a0.Got), (fDat (tyList tyS_api_Packet) [v0_1] a0.Held)]) X_ Y_) (S := over (put (put (tab [(4, (pq g3)), (11, v12), (12, l22v12), (16, v36)]) 135 l22v12) 136 s34) F_) ?_
           refine al_as rfl rfl ?_
           refine al_nil ?_
           refine aq_show (m := Mem.plus (memOf w0 Z0 [] [(oRow v32 9 tyStr [u28.Text]), (oBox g3 61 [nS, nS]), (oRow v36 9 tyStr (l22x16 ++ ([u28.Text])))] [(fDat (tyList tyS_api_Packet) [s34] (l22x12.drop ((1 : Int)).toNat)), (fDat (tyList tyS_api_Packet) [v12] [(S_api_Packet.mk (2 : Int) a1.Seq ([] : List UInt8))]), (fDat (tyList tyS_api_Packet) [l22v12] l22x12), (fDat (tyList tyS_api_Packet) [j15v12] j15x12), (fDat (tyList tyStr) [v0_0] a0.Got), (fDat (tyList tyS_api_Packet) [v0_1] a0.Held)]) X_ Y_) ?_
           refine aq_next hK_ [0, 1, 2] [0, 1, 2, 3, 4, 5] [(4, (pq g3)), (11, v12), (12, s34), (16, v36)] [] [] rfl rfl (by decide) rfl ⟨rfl, rfl, rfl, rfl, trivial⟩ trivial ?_
           clear hK_ K_ F_ X_ Y_
           refine ta_show (m := (memOf w0 Z0 [] [(oRow v32 9 tyStr [u28.Text]), (oBox g3 61 [nS, nS]), (oRow v36 9 tyStr (l22x16 ++ ([u28.Text])))] [(fDat (tyList tyS_api_Packet) [s34] (l22x12.drop ((1 : Int)).toNat)), (fDat (tyList tyS_api_Packet) [v12] [(S_api_Packet.mk (2 : Int) a1.Seq ([] : List UInt8))]), (fDat (tyList tyS_api_Packet) [l22v12] l22x12), (fDat (tyList tyS_api_Packet) [j15v12] j15x12), (fDat (tyList tyStr) [v0_0] a0.Got), (fDat (tyList tyS_api_Packet) [v0_1] a0.Held)])) (S := (tab [(4, (pq g3)), (11, v12), (12, s34), (16, v36)])) ?_
           refine ta_end [] [] rfl rfl (by kernel_rfl) rfl trivial ?_
           refine aq_show (m := (memOf w0 Z0 [] [(oRow v32 9 tyStr [u28.Text]), (oBox g3 61 [nS, nS]), (oRow v36 9 tyStr (l22x16 ++ ([u28.Text])))] [(fDat (tyList tyS_api_Packet) [s34] (l22x12.drop ((1 : Int)).toNat)), (fDat (tyList tyS_api_Packet) [v12] [(S_api_Packet.mk (2 : Int) a1.Seq ([] : List UInt8))]), (fDat (tyList tyS_api_Packet) [l22v12] l22x12), (fDat (tyList tyS_api_Packet) [j15v12] j15x12), (fDat (tyList tyStr) [v0_0] a0.Got), (fDat (tyList tyS_api_Packet) [v0_1] a0.Held)])) (S := (tab [(4, (pq g3)), (11, v12), (12, s34), (16, v36)])) ?_
           refine aq_block ?_
           exact aq_again k23 (s34, (l22x12.drop ((1 : Int)).toNat), v36, (l22x16 ++ ([u28.Text]))) (Nat.lt_succ_self _) h (fun w a hm hs => norm hm hs [1, 2] [1, 0, 3, 4, 5] [(4, (pq g3)), (11, v12), (12, s34), (16, v36)] (by decide) ⟨rfl, rfl, rfl, rfl, trivial⟩)
          ·replace h := bif_f hb27 h
           refine aw_exit ?_
           refine aq_then_exit ?_
           refine aq_then_exit ?_
           refine aq_block_exit ?_
           exact aq_join (l22v12, l22x12, l22v16, l22x16) h (fun w a hm hs => norm hm hs [0, 1] [0, 1, 3, 4] [(4, (pq g3)), (11, v12), (12, l22v12), (16, l22v16)] (by decide) ⟨rfl, rfl, rfl, rfl, trivial⟩)
         ·clear hkk26
          refine aw_region ?_
          refine al_mv rfl rfl ?_
          refine al_val (ov_lenD 1 rfl rfl Try.underlying59 rfl) ?_
          refine al_in rfl rfl rfl rfl ?_
          refine al_mv rfl rfl ?_
          refine al_caseB 119 rfl (fun hb37 => ?_) (fun hb37 => ?_)
          ·replace h := bif_t hb37 h
           refine al_mv rfl rfl ?_
           obtain ⟨u38, hu39, h⟩ := opt_some h
           refine al_idxD 1 hu39 rfl rfl rfl Try.underlying59 sz63 rfl (fun p40 => ?_)
           refine al_fieldD (pr := fun (y : S_api_Packet) => y.Seq) 0 rfl subS_api_Packet_1 rfl Try.underlying63 rfl sz3 rfl rfl (fun p41 => ?_)
           refine al_val (ov_loadP (ds := [(iq u38.Seq)]) 0 rfl (fun h => h) rfl Try.underlying3 sz3 rfl rfl rfl) ?_
           refine al_mv rfl rfl ?_
           refine al_val (ov_lenR 1 rfl rfl Try.underlying23 rfl) ?_
           refine al_in rfl rfl rfl rfl ?_
           refine al_val (ov_pick_t rfl rfl rfl) ?_
           refine al_nil ?_
           exact aq_join (u38.Seq == (l22x16.length : Int)) h (fun w a hm hs => norm hm hs [0, 1] [2, 3, 4, 5, 6] [(4, (pq g3)), (11, v12), (12, l22v12), (16, l22v16), (127, (bool (u38.Seq == (l22x16.length : Int))))] (by decide) ⟨rfl, rfl, rfl, rfl, rfl, trivial⟩)
          ·replace h := bif_f hb37 h
           refine al_skip ?_
           refine al_skip ?_
           refine al_skip ?_
           refine al_skip ?_
           refine al_skip ?_
           refine al_skip ?_
           refine al_skip ?_
           refine al_val (ov_pick_f rfl rfl rfl) ?_
           refine al_nil ?_
           exact aq_join false h (fun w a hm hs => norm hm hs [0, 1] [0, 1, 2, 3, 4] [(4, (pq g3)), (11, v12), (12, l22v12), (16, l22v16), (127, (bool false))] (by decide) ⟨rfl, rfl, rfl, rfl, rfl, trivial⟩)
       ·clear hkk16
        refine aw_sr ?_
        refine al_mv rfl rfl ?_
        refine al_val (ov_not rfl rfl) ?_
        refine al_nt ?_
        refine aw_cond rfl (fun hb42 => ?_) (fun hb42 => ?_)
        ·replace h := bif_t hb42 h
         refine aw_region ?_
         refine al_mv rfl rfl ?_
         refine al_val (ov_load (i := 1) (v := (ag [(iq a1.Kind), (iq a1.Seq), (str a1.Text)])) rfl rfl Try.underlying63 sz63 rfl rfl rfl rfl) ?_
         refine al_buildSlice (τ := tyS_api_Packet) (e := 63) (k := 1) (sz := 0) (by_ := 0) (z := undef) (cs := [(iq a1.Kind), (iq a1.Seq), (str a1.Text)]) (xs := [a1]) rfl (by decide) (fun w a hm hs => ⟨([(iq a1.Kind), (iq a1.Seq), (str a1.Text)]).toArray, rfl, by simp only [List.map_toArray, List.map_cons, List.map_nil, hs.ev (x := .tmp 110) rfl]; exact run_bs [(ag [(iq a1.Kind), (iq a1.Seq), (str a1.Text)])] [(iq a1.Kind), (iq a1.Seq), (str a1.Text)] Try.underlying59 to63 rfl rfl (bs_cons (l := [(iq a1.Kind), (iq a1.Seq), (str a1.Text)]) (cs := []) (cv_rfl rfl) rfl bs_nil) hm⟩) (fun hm => ⟨_, _, rfl, (fun _ => mkS_api_Packet rfl) hm, rfl⟩) rfl (fun v43 => ?_)
         obtain ⟨hc44, h⟩ := req_some h
         refine al_append 5 hc44.1 hc44.2 rfl (src_own (i := 5) 0 rfl) rfl rfl Try.underlying59 to63 rfl rfl rfl (fun v45 => ?_)
         refine al_as rfl rfl ?_
         refine al_nil ?_
         exact aq_join (v45, (j13x12 ++ ([a1]))) h (fun w a hm hs => norm hm hs [1, 3, 4, 5] [0, 1] [(2, (pq g1)), (4, (pq g3)), (11, v12), (12, v45)] (by decide) ⟨rfl, rfl, rfl, rfl, trivial⟩)
        ·replace h := bif_f hb42 h
         refine aw_skip ?_
         exact aq_join (j13v12, j13x12) h (fun w a hm hs => norm hm hs [0, 2, 3, 4] [0, 1] [(2, (pq g1)), (4, (pq g3)), (11, v12), (12, j13v12)] (by decide) ⟨rfl, rfl, rfl, rfl, trivial⟩)
      ·clear hkk14
       refine aw_sr ?_
       refine al_val (ov_fieldA (p := 1) rfl Try.underlying61 rfl sz59 rfl rfl rfl) ?_
       refine al_val (ov_load (i := 1) (v := v0_1) rfl rfl Try.underlying59 sz59 rfl rfl rfl rfl) ?_
       refine al_val (ov_lenD 1 rfl rfl Try.underlying59 rfl) ?_
       refine al_mv rfl rfl ?_
       refine al_nt ?_
       refine aw_block ?_
       refine aw_nilR 63 tyS_api_Packet ?_
       refine aw_state (aw_loop (ι := Value × (List S_api_Packet) × Bool × Int) (fun i => (memOf w0 Z0 [] [(oBox g1 61 [v0_0, v0_1]), (oBox g2 63 [(iq a1.Kind), (iq a1.Seq), (str a1.Text)]), (oBox g3 61 [nS, nS]), (oRow v12 63 tyS_api_Packet [(S_api_Packet.mk (2 : Int) a1.Seq ([] : List UInt8))]), (oRow i.1 63 tyS_api_Packet i.2.1)] [(fDat (tyList tyStr) [v0_0] a0.Got), (fDat (tyList tyS_api_Packet) [v0_1] a0.Held)])) (fun i => (tab [(2, (pq g1)), (3, (pq g2)), (4, (pq g3)), (11, v12), (12, i.1), (13, (bool i.2.2.1)), (75, v0_1), (76, (iq (a0.Held.length : Int))), (77, (iq i.2.2.2))])) (fun q i => f_lumref_Takes_L48 a0 a1 kk14 q i.2.1 i.2.2.1 i.2.2.2 = some r) ?_ fu (nS, ([] : List S_api_Packet), (decide (a1.Seq < (a0.Got.length : Int))), (0 : Int)) h) (fun w a hm hs => norm hm hs [2, 3, 4, 1, 0] [0, 1] [(2, (pq g1)), (3, (pq g2)), (4, (pq g3)), (11, v12), (12, nS), (13, (bool (decide (a1.Seq < (a0.Got.length : Int))))), (75, v0_1), (76, (iq (a0.Held.length : Int))), (77, (iq (0 : Int)))] (by decide) ⟨rfl, rfl, rfl, rfl, rfl, rfl, rfl, rfl, rfl, trivial⟩)
       clear h
       rintro k47 ⟨l46v12, l46x12, l46b13, l46i77⟩ h
       have h : f_lumref_Takes_L48 a0 a1 kk14 k47 l46x12 l46b13 l46i77 = some r := h
       obtain _ | k47 := k47
       · rw [f_lumref_Takes_L48] at h; cases h
       rw [f_lumref_Takes_L48] at h
       refine aw_show (m := (memOf w0 Z0 [] [(oBox g1 61 [v0_0, v0_1]), (oBox g2 63 [(iq a1.Kind), (iq a1.Seq), (str a1.Text)]), (oBox g3 61 [nS, nS]), (oRow v12 63 tyS_api_Packet [(S_api_Packet.mk (2 : Int) a1.Seq ([] : List UInt8))]), (oRow l46v12 63 tyS_api_Packet l46x12)] [(fDat (tyList tyStr) [v0_0] a0.Got), (fDat (tyList tyS_api_Packet) [v0_1] a0.Held)])) (S := (tab [(2, (pq g1)), (3, (pq g2)), (4, (pq g3)), (11, v12), (12, l46v12), (13, (bool l46b13)), (75, v0_1), (76, (iq (a0.Held.length : Int))), (77, (iq l46i77))])) ?_
       refine aw_sr ?_
       refine al_in rfl rfl rfl rfl ?_
       refine al_nt ?_
       refine aw_seq ?_
       refine aw_cond rfl (fun hb49 => ?_) (fun hb49 => ?_)
       ·replace h := bif_t hb49 h
        refine aw_skip ?_
        refine aq_then ?_
        refine aw_seq ?_
        refine aw_block ?_
        refine aw_sr ?_
        obtain ⟨u50, hu51, h⟩ := opt_some h
        refine al_idxD 1 hu51 rfl rfl rfl Try.underlying59 sz63 rfl (fun p52 => ?_)
        refine al_val (ov_loadP (ds := [(iq u50.Kind), (iq u50.Seq), (str u50.Text)]) 0 rfl encS_api_Packet rfl Try.underlying63 sz63 rfl rfl rfl) ?_
        refine al_alloc (zs := [(iq (0 : Int)), (iq (0 : Int)), (str ([] : List UInt8))]) (zeroOf_to to63) rfl rfl (fun g53 => ?_)
        refine al_store (i := 0) (vs := [(iq u50.Kind), (iq u50.Seq), (str u50.Text)]) (cs' := [(iq u50.Kind), (iq u50.Seq), (str u50.Text)]) rfl rfl rfl sz63 (cv_rfl rfl) rfl (co_val rfl (co_val rfl (co_val rfl co_nil))) (Nat.le_of_ble_eq_true rfl) rfl rfl ?_
        refine al_nt ?_
        obtain ⟨kk55, hkk55, h⟩ := lt_some h
        refine aw_seq_join (ι := Value × (List S_api_Packet) × Bool) (fun i => (memOf w0 Z0 [] [(oBox g1 61 [v0_0, v0_1]), (oBox g2 63 [(iq a1.Kind), (iq a1.Seq), (str a1.Text)]), (oBox g3 61 [nS, nS]), (oRow v12 63 tyS_api_Packet [(S_api_Packet.mk (2 : Int) a1.Seq ([] : List UInt8))]), (oRow i.1 63 tyS_api_Packet i.2.1), (oBox g53 63 [(iq u50.Kind), (iq u50.Seq), (str u50.Text)])] [(fDat (tyList tyStr) [v0_0] a0.Got), (fDat (tyList tyS_api_Packet) [v0_1] a0.Held), (fPtr tyS_api_Packet p52 u50)])) (fun i => (tab [(2, (pq g1)), (3, (pq g2)), (4, (pq g3)), (11, v12), (12, i.1), (13, (bool i.2.2)), (15, (pq g53)), (75, v0_1), (76, (iq (a0.Held.length : Int))), (77, (iq l46i77))])) (fun i => kk55 i.2.1 i.2.2 = some r) ?_ ?_
        ·rintro ⟨j54v12, j54x12, j54b13⟩ h
         have h : kk55 j54x12 j54b13 = some r := h
         rw [hkk55] at h
         dsimp only at h
         clear hkk55
         refine aw_show (m := (memOf w0 Z0 [] [(oBox g1 61 [v0_0, v0_1]), (oBox g2 63 [(iq a1.Kind), (iq a1.Seq), (str a1.Text)]), (oBox g3 61 [nS, nS]), (oRow v12 63 tyS_api_Packet [(S_api_Packet.mk (2 : Int) a1.Seq ([] : List UInt8))]), (oRow j54v12 63 tyS_api_Packet j54x12), (oBox g53 63 [(iq u50.Kind), (iq u50.Seq), (str u50.Text)])] [(fDat (tyList tyStr) [v0_0] a0.Got), (fDat (tyList tyS_api_Packet) [v0_1] a0.Held), (fPtr tyS_api_Packet p52 u50)])) (S := (tab [(2, (pq g1)), (3, (pq g2)), (4, (pq g3)), (11, v12), (12, j54v12), (13, (bool j54b13)), (15, (pq g53)), (75, v0_1), (76, (iq (a0.Held.length : Int))), (77, (iq l46i77))])) ?_
         obtain ⟨kk57, hkk57, h⟩ := lt_some h
         refine aw_seq_join (ι := Bool) (fun i => (memOf w0 Z0 [] [(oBox g1 61 [v0_0, v0_1]), (oBox g2 63 [(iq a1.Kind), (iq a1.Seq), (str a1.Text)]), (oBox g3 61 [nS, nS]), (oRow v12 63 tyS_api_Packet [(S_api_Packet.mk (2 : Int) a1.Seq ([] : List UInt8))]), (oRow j54v12 63 tyS_api_Packet j54x12), (oBox g53 63 [(iq u50.Kind), (iq u50.Seq), (str u50.Text)])] [(fDat (tyList tyStr) [v0_0] a0.Got), (fDat (tyList tyS_api_Packet) [v0_1] a0.Held), (fPtr tyS_api_Packet p52 u50)])) (fun i => (tab [(2, (pq g1)), (3, (pq g2)), (4, (pq g3)), (11, v12), (12, j54v12), (13, (bool i)), (15, (pq g53)), (75, v0_1), (76, (iq (a0.Held.length : Int))), (77, (iq l46i77))])) (fun i => kk57 i = some r) ?_ ?_
         ·rintro j56b13 h
          have h : kk57 j56b13 = some r := h
          rw [hkk57] at h
          dsimp only at h
          clear hkk57
          refine aw_show (m := (memOf w0 Z0 [] [(oBox g1 61 [v0_0, v0_1]), (oBox g2 63 [(iq a1.Kind), (iq a1.Seq), (str a1.Text)]), (oBox g3 61 [nS, nS]), (oRow v12 63 tyS_api_Packet [(S_api_Packet.mk (2 : Int) a1.Seq ([] : List UInt8))]), (oRow j54v12 63 tyS_api_Packet j54x12), (oBox g53 63 [(iq u50.Kind), (iq u50.Seq), (str u50.Text)])] [(fDat (tyList tyStr) [v0_0] a0.Got), (fDat (tyList tyS_api_Packet) [v0_1] a0.Held), (fPtr tyS_api_Packet p52 u50)])) (S := (tab [(2, (pq g1)), (3, (pq g2)), (4, (pq g3)), (11, v12), (12, j54v12), (13, (bool j56b13)), (15, (pq g53)), (75, v0_1), (76, (iq (a0.Held.length : Int))), (77, (iq l46i77))])) ?_
          refine aw_region ?_
          refine al_mv rfl rfl ?_
          refine al_val (ov_load (i := 5) (v := (ag [(iq u50.Kind), (iq u50.Seq), (str u50.Text)])) rfl rfl Try.underlying63 sz63 rfl rfl rfl rfl) ?_
          refine al_buildSlice (τ := tyS_api_Packet) (e := 63) (k := 1) (sz := 0) (by_ := 0) (z := undef) (cs := [(iq u50.Kind), (iq u50.Seq), (str u50.Text)]) (xs := [u50]) rfl (by decide) (fun w a hm hs => ⟨([(iq u50.Kind), (iq u50.Seq), (str u50.Text)]).toArray, rfl, by simp only [List.map_toArray, List.map_cons, List.map_nil, hs.ev (x := .tmp 103) rfl]; exact run_bs [(ag [(iq u50.Kind), (iq u50.Seq), (str u50.Text)])] [(iq u50.Kind), (iq u50.Seq), (str u50.Text)] Try.underlying59 to63 rfl rfl (bs_cons (l := [(iq u50.Kind), (iq u50.Seq), (str u50.Text)]) (cs := []) (cv_rfl rfl) rfl bs_nil) hm⟩) (fun hm => ⟨_, _, rfl, (fun _ => mkS_api_Packet rfl) hm, rfl⟩) rfl (fun v58 => ?_)
          obtain ⟨hc59, h⟩ := req_some h
          refine al_append 5 hc59.1 hc59.2 rfl (src_own (i := 5) 0 rfl) rfl rfl Try.underlying59 to63 rfl rfl rfl (fun v60 => ?_)
          refine al_as rfl rfl ?_
          refine al_nil ?_
          refine aq_block ?_
          refine aq_then ?_
          refine aw_region ?_
          refine al_in rfl rfl rfl rfl ?_
          refine al_mv rfl rfl ?_
          refine al_nil ?_
          exact aq_again k47 (v60, (j54x12 ++ ([u50])), j56b13, (wq (l46i77 + (1 : Int)))) (Nat.lt_succ_self _) h (fun w a hm hs => norm hm hs [1, 2, 3, 4, 5] [0, 1] [(2, (pq g1)), (3, (pq g2)), (4, (pq g3)), (11, v12), (12, v60), (13, (bool j56b13)), (75, v0_1), (76, (iq (a0.Held.length : Int))), (77, (iq (wq (l46i77 + (1 : Int)))))] (by decide) ⟨rfl, rfl, rfl, rfl, rfl, rfl, rfl, rfl, rfl, trivial⟩)
         ·clear hkk57
          refine aw_region ?_
          refine al_mv rfl rfl ?_
          refine al_mv rfl rfl ?_
          refine al_caseB 95 rfl (fun hb61 => ?_) (fun hb61 => ?_)
          ·replace h := bif_t hb61 h
           refine al_skip ?_
           refine al_skip ?_
           refine al_skip ?_
           refine al_skip ?_
           refine al_skip ?_
           refine al_val (ov_pick_t rfl rfl rfl) ?_
           refine al_as rfl rfl ?_
           refine al_nil ?_
           exact aq_join true h (fun w a hm hs => norm hm hs [0, 1, 2, 3, 4, 5] [0, 1, 2] [(2, (pq g1)), (3, (pq g2)), (4, (pq g3)), (11, v12), (12, j54v12), (13, (bool true)), (15, (pq g53)), (75, v0_1), (76, (iq (a0.Held.length : Int))), (77, (iq l46i77))] (by decide) ⟨rfl, rfl, rfl, rfl, rfl, rfl, rfl, rfl, rfl, rfl, trivial⟩)
          ·replace h := bif_f hb61 h
           refine al_val (ov_fieldA (p := 1) rfl Try.underlying63 rfl sz3 rfl rfl rfl) ?_
           refine al_val (ov_load (i := 5) (v := (iq u50.Seq)) rfl rfl Try.underlying3 sz3 rfl rfl rfl rfl) ?_
           refine al_val (ov_fieldA (p := 1) rfl Try.underlying63 rfl sz3 rfl rfl rfl) ?_
           refine al_val (ov_load (i := 1) (v := (iq a1.Seq)) rfl rfl Try.underlying3 sz3 rfl rfl rfl rfl) ?_
           refine al_in rfl rfl rfl rfl ?_
           refine al_val (ov_pick_f rfl rfl rfl) ?_
           refine al_as rfl rfl ?_
           refine al_nil ?_
           exact aq_join (u50.Seq == a1.Seq) h (fun w a hm hs => norm hm hs [0, 1, 2, 3, 4, 5] [0, 1, 2] [(2, (pq g1)), (3, (pq g2)), (4, (pq g3)), (11, v12), (12, j54v12), (13, (bool (u50.Seq == a1.Seq))), (15, (pq g53)), (75, v0_1), (76, (iq (a0.Held.length : Int))), (77, (iq l46i77))] (by decide) ⟨rfl, rfl, rfl, rfl, rfl, rfl, rfl, rfl, rfl, rfl, trivial⟩)
        ·clear hkk55
         obtain ⟨kk63, hkk63, h⟩ := lt_some h
         refine aw_seq_join (ι := Bool) (fun i => (memOf w0 Z0 [] [(oBox g1 61 [v0_0, v0_1]), (oBox g2 63 [(iq a1.Kind), (iq a1.Seq), (str a1.Text)]), (oBox g3 61 [nS, nS]), (oRow v12 63 tyS_api_Packet [(S_api_Packet.mk (2 : Int) a1.Seq ([] : List UInt8))]), (oRow l46v12 63 tyS_api_Packet l46x12), (oBox g53 63 [(iq u50.Kind), (iq u50.Seq), (str u50.Text)])] [(fDat (tyList tyStr) [v0_0] a0.Got), (fDat (tyList tyS_api_Packet) [v0_1] a0.Held), (fPtr tyS_api_Packet p52 u50)])) (fun i => (tab [(2, (pq g1)), (3, (pq g2)), (4, (pq g3)), (11, v12), (12, l46v12), (13, (bool l46b13)), (15, (pq g53)), (75, v0_1), (76, (iq (a0.Held.length : Int))), (77, (iq l46i77)), (89, (bool i))])) (fun i => kk63 i = some r) ?_ ?_
         ·rintro j62b89 h
          have h : kk63 j62b89 = some r := h
          rw [hkk63] at h
          dsimp only at h
          clear hkk63
          refine aw_show (m := (memOf w0 Z0 [] [(oBox g1 61 [v0_0, v0_1]), (oBox g2 63 [(iq a1.Kind), (iq a1.Seq), (str a1.Text)]), (oBox g3 61 [nS, nS]), (oRow v12 63 tyS_api_Packet [(S_api_Packet.mk (2 : Int) a1.Seq ([] : List UInt8))]), (oRow l46v12 63 tyS_api_Packet l46x12), (oBox g53 63 [(iq u50.Kind), (iq u50.Seq), (str u50.Text)])] [(fDat (tyList tyStr) [v0_0] a0.Got), (fDat (tyList tyS_api_Packet) [v0_1] a0.Held), (fPtr tyS_api_Packet p52 u50)])) (S := (tab [(2, (pq g1)), (3, (pq g2)), (4, (pq g3)), (11, v12), (12, l46v12), (13, (bool l46b13)), (15, (pq g53)), (75, v0_1), (76, (iq (a0.Held.length : Int))), (77, (iq l46i77)), (89, (bool j62b89))])) ?_
          refine aw_cond rfl (fun hb64 => ?_) (fun hb64 => ?_)
          ·replace h := bif_t hb64 h
           refine aw_sr ?_
           refine al_mv rfl rfl ?_
           refine al_val (ov_load (i := 1) (v := (ag [(iq a1.Kind), (iq a1.Seq), (str a1.Text)])) rfl rfl Try.underlying63 sz63 rfl rfl rfl rfl) ?_
           refine al_buildSlice (τ := tyS_api_Packet) (e := 63) (k := 1) (sz := 0) (by_ := 0) (z := undef) (cs := [(iq a1.Kind), (iq a1.Seq), (str a1.Text)]) (xs := [a1]) rfl (by decide) (fun w a hm hs => ⟨([(iq a1.Kind), (iq a1.Seq), (str a1.Text)]).toArray, rfl, by simp only [List.map_toArray, List.map_cons, List.map_nil, hs.ev (x := .tmp 91) rfl]; exact run_bs [(ag [(iq a1.Kind), (iq a1.Seq), (str a1.Text)])] [(iq a1.Kind), (iq a1.Seq), (str a1.Text)] Try.underlying59 to63 rfl rfl (bs_cons (l := [(iq a1.Kind), (iq a1.Seq), (str a1.Text)]) (cs := []) (cv_rfl rfl) rfl bs_nil) hm⟩) (fun hm => ⟨_, _, rfl, (fun _ => mkS_api_Packet rfl) hm, rfl⟩) rfl (fun v65 => ?_)
           obtain ⟨hc66, h⟩ := req_some h
           refine al_append 5 hc66.1 hc66.2 rfl (src_own (i := 5) 0 rfl) rfl rfl Try.underlying59 to63 rfl rfl rfl (fun v67 => ?_)
           refine al_as rfl rfl ?_
           refine al_nt ?_
           refine aw_region ?_
           refine al_as rfl rfl ?_
           refine al_nil ?_
           exact aq_join (v67, (l46x12 ++ ([a1])), true) h (fun w a hm hs => norm hm hs [1, 2, 3, 4, 5, 6] [0, 1, 2] [(2, (pq g1)), (3, (pq g2)), (4, (pq g3)), (11, v12), (12, v67), (13, (bool true)), (15, (pq g53)), (75, v0_1), (76, (iq (a0.Held.length : Int))), (77, (iq l46i77))] (by decide) ⟨rfl, rfl, rfl, rfl, rfl, rfl, rfl, rfl, rfl, rfl, trivial⟩)
          ·replace h := bif_f hb64 h
           refine aw_skip ?_
           exact aq_join (l46v12, l46x12, l46b13) h (fun w a hm hs => norm hm hs [0, 1, 2, 3, 4, 5] [0, 1, 2] [(2, (pq g1)), (3, (pq g2)), (4, (pq g3)), (11, v12), (12, l46v12), (13, (bool l46b13)), (15, (pq g53)), (75, v0_1), (76, (iq (a0.Held.length : Int))), (77, (iq l46i77))] (by decide) ⟨rfl, rfl, rfl, rfl, rfl, rfl, rfl, rfl, rfl, rfl, trivial⟩)
         ·clear hkk63
          refine aw_region ?_
          refine al_mv rfl rfl ?_
          refine al_val (ov_not rfl rfl) ?_
          refine al_mv rfl rfl ?_
          refine al_caseB 83 rfl (fun hb68 => ?_) (fun hb68 => ?_)
          ·replace h := bif_t hb68 h
           refine al_val (ov_fieldA (p := 1) rfl Try.underlying63 rfl sz3 rfl rfl rfl) ?_
           refine al_val (ov_load (i := 0) (v := (iq u50.Seq)) rfl rfl Try.underlying3 sz3 rfl rfl rfl rfl) ?_
           refine al_val (ov_fieldA (p := 1) rfl Try.underlying63 rfl sz3 rfl rfl rfl) ?_
           refine al_val (ov_load (i := 2) (v := (iq a1.Seq)) rfl rfl Try.underlying3 sz3 rfl rfl rfl rfl) ?_
           refine al_in rfl rfl rfl rfl ?_
           refine al_val (ov_pick_t rfl rfl rfl) ?_
           refine al_nil ?_
           exact aq_join (decide (u50.Seq > a1.Seq)) h (fun w a hm hs => norm hm hs [1, 2, 3, 4, 5, 0] [1, 2, 0] [(2, (pq g1)), (3, (pq g2)), (4, (pq g3)), (11, v12), (12, l46v12), (13, (bool l46b13)), (15, (pq g53)), (75, v0_1), (76, (iq (a0.Held.length : Int))), (77, (iq l46i77)), (89, (bool (decide (u50.Seq > a1.Seq))))] (by decide) ⟨rfl, rfl, rfl, rfl, rfl, rfl, rfl, rfl, rfl, rfl, rfl, trivial⟩)
          ·replace h := bif_f hb68 h
           refine al_skip ?_
           refine al_skip ?_
           refine al_skip ?_
           refine al_skip ?_
           refine al_skip ?_
           refine al_val (ov_pick_f rfl rfl rfl) ?_
           refine al_nil ?_
           exact aq_join false h (fun w a hm hs => norm hm hs [1, 2, 3, 4, 5, 0] [1, 2, 0] [(2, (pq g1)), (3, (pq g2)), (4, (pq g3)), (11, v12), (12, l46v12), (13, (bool l46b13)), (15, (pq g53)), (75, v0_1), (76, (iq (a0.Held.length : Int))), (77, (iq l46i77)), (89, (bool false))] (by decide) ⟨rfl, rfl, rfl, rfl, rfl, rfl, rfl, rfl, rfl, rfl, rfl, trivial⟩)
       ·replace h := bif_f hb49 h
        refine aw_exit ?_
        refine aq_then_exit ?_
        refine aq_then_exit ?_
        refine aq_block_exit ?_
        exact aq_join (l46v12, l46x12, l46b13) h (fun w a hm hs => norm hm hs [0, 1, 2, 3, 4] [0, 1] [(2, (pq g1)), (3, (pq g2)), (4, (pq g3)), (11, v12), (12, l46v12), (13, (bool l46b13))] (by decide) ⟨rfl, rfl, rfl, rfl, rfl, rfl, trivial⟩)
    ·clear hkk10
     refine aw_region ?_
     refine al_val (ov_fieldA (p := 0) rfl Try.underlying63 rfl sz3 rfl rfl rfl) ?_
     refine al_val (ov_load (i := 1) (v := (iq a1.Kind)) rfl rfl Try.underlying3 sz3 rfl rfl rfl rfl) ?_
     refine al_in rfl rfl rfl rfl ?_
     refine al_mv rfl rfl ?_
     refine al_caseB 48 rfl (fun hb69 => ?_) (fun hb69 => ?_)
     ·replace h := bif_t hb69 h
      refine al_skip ?_
      refine al_skip ?_
      refine al_skip ?_
      refine al_val (ov_pick_t rfl rfl rfl) ?_
      refine al_mv rfl rfl ?_
      refine al_skip ?_
      refine al_skip ?_
      refine al_skip ?_
      refine al_skip ?_
      refine al_skip ?_
      refine al_val (ov_pick_t rfl rfl rfl) ?_
      refine al_mv rfl rfl ?_
      refine al_skip ?_
      refine al_skip ?_
      refine al_skip ?_
      refine al_val (ov_pick_t rfl rfl rfl) ?_
      refine al_nil ?_
      exact aq_join true h (fun w a hm hs => norm hm hs [0, 1, 2] [0, 1] [(2, (pq g1)), (3, (pq g2)), (4, (pq g3)), (7, (iq (a0.Got.length : Int))), (64, (bool true))] (by decide) ⟨rfl, rfl, rfl, rfl, rfl, trivial⟩)
     ·replace h := bif_f hb69 h
      refine al_val (ov_fieldA (p := 1) rfl Try.underlying63 rfl sz3 rfl rfl rfl) ?_
      refine al_val (ov_load (i := 1) (v := (iq a1.Seq)) rfl rfl Try.underlying3 sz3 rfl rfl rfl rfl) ?_
      refine al_in rfl rfl rfl rfl ?_
      refine al_val (ov_pick_f rfl rfl rfl) ?_
      refine al_mv rfl rfl ?_
      refine al_caseB 53 rfl (fun hb70 => ?_) (fun hb70 => ?_)
      ·replace h := bif_t hb70 h
       refine al_skip ?_
       refine al_skip ?_
       refine al_skip ?_
       refine al_skip ?_
       refine al_skip ?_
       refine al_val (ov_pick_t rfl rfl rfl) ?_
       refine al_mv rfl rfl ?_
       refine al_skip ?_
       refine al_skip ?_
       refine al_skip ?_
       refine al_val (ov_pick_t rfl rfl rfl) ?_
       refine al_nil ?_
       exact aq_join true h (fun w a hm hs => norm hm hs [0, 1, 2] [0, 1] [(2, (pq g1)), (3, (pq g2)), (4, (pq g3)), (7, (iq (a0.Got.length : Int))), (64, (bool true))] (by decide) ⟨rfl, rfl, rfl, rfl, rfl, trivial⟩)
      ·replace h := bif_f hb70 h
       refine al_val (ov_fieldA (p := 1) rfl Try.underlying63 rfl sz3 rfl rfl rfl) ?_
       refine al_val (ov_load (i := 1) (v := (iq a1.Seq)) rfl rfl Try.underlying3 sz3 rfl rfl rfl rfl) ?_
       refine al_mv rfl rfl ?_
       refine al_in rfl rfl rfl rfl ?_
       refine al_in rfl rfl rfl rfl ?_
       refine al_val (ov_pick_f rfl rfl rfl) ?_
       refine al_mv rfl rfl ?_
       refine al_caseB 60 rfl (fun hb71 => ?_) (fun hb71 => ?_)
       ·replace h := bif_t hb71 h
        refine al_skip ?_
        refine al_skip ?_
        refine al_skip ?_
        refine al_val (ov_pick_t rfl rfl rfl) ?_
        refine al_nil ?_
        exact aq_join true h (fun w a hm hs => norm hm hs [0, 1, 2] [0, 1] [(2, (pq g1)), (3, (pq g2)), (4, (pq g3)), (7, (iq (a0.Got.length : Int))), (64, (bool true))] (by decide) ⟨rfl, rfl, rfl, rfl, rfl, trivial⟩)
       ·replace h := bif_f hb71 h
        refine al_val (ov_fieldA (p := 1) rfl Try.underlying63 rfl sz3 rfl rfl rfl) ?_
        refine al_val (ov_load (i := 1) (v := (iq a1.Seq)) rfl rfl Try.underlying3 sz3 rfl rfl rfl rfl) ?_
        refine al_in rfl rfl rfl rfl ?_
        refine al_val (ov_pick_f rfl rfl rfl) ?_
        refine al_nil ?_
        exact aq_join (decide (a1.Seq > (1999 : Int))) h (fun w a hm hs => norm hm hs [0, 1, 2] [0, 1] [(2, (pq g1)), (3, (pq g2)), (4, (pq g3)), (7, (iq (a0.Got.length : Int))), (64, (bool (decide (a1.Seq > (1999 : Int)))))] (by decide) ⟨rfl, rfl, rfl, rfl, rfl, trivial⟩)
   ·clear hkk8
    refine aw_sr ?_
    refine al_val (ov_fieldA (p := 1) rfl Try.underlying61 rfl sz59 rfl rfl rfl) ?_
    refine al_val (ov_load (i := 0) (v := v0_1) rfl rfl Try.underlying59 sz59 rfl rfl rfl rfl) ?_
    refine al_val (ov_lenD 1 rfl rfl Try.underlying59 rfl) ?_
    refine al_mv rfl rfl ?_
    refine al_nt ?_
    refine aw_block ?_
    refine aw_state (aw_loop (ι := Int × Int) (fun i => (memOf w0 Z0 [] [(oBox g1 61 [v0_0, v0_1]), (oBox g2 63 [(iq a1.Kind), (iq a1.Seq), (str a1.Text)]), (oBox g3 61 [nS, nS])] [(fDat (tyList tyStr) [v0_0] a0.Got), (fDat (tyList tyS_api_Packet) [v0_1] a0.Held)])) (fun i => (tab [(2, (pq g1)), (3, (pq g2)), (4, (pq g3)), (7, (iq (a0.Got.length : Int))), (8, (iq i.1)), (31, v0_1), (32, (iq (a0.Held.length : Int))), (33, (iq i.2))])) (fun q i => f_lumref_Takes_L74 a0 kk8 q i.1 i.2 = some r) ?_ fu ((a0.Got.length : Int), (0 : Int)) h) (fun w a hm hs => norm hm hs [0, 1, 2] [0, 1] [(2, (pq g1)), (3, (pq g2)), (4, (pq g3)), (7, (iq (a0.Got.length : Int))), (8, (iq (a0.Got.length : Int))), (31, v0_1), (32, (iq (a0.Held.length : Int))), (33, (iq (0 : Int)))] (by decide) ⟨rfl, rfl, rfl, rfl, rfl, rfl, rfl, rfl, trivial⟩)
    clear h
    rintro k73 ⟨l72i8, l72i33⟩ h
    have h : f_lumref_Takes_L74 a0 kk8 k73 l72i8 l72i33 = some r := h
    obtain _ | k73 := k73
    · rw [f_lumref_Takes_L74] at h; cases h
    rw [f_lumref_Takes_L74] at h
    refine aw_show (m := (memOf w0 Z0 [] [(oBox g1 61 [v0_0, v0_1]), (oBox g2 63 [(iq a1.Kind), (iq a1.Seq), (str a1.Text)]), (oBox g3 61 [nS, nS])] [(fDat (tyList tyStr) [v0_0] a0.Got), (fDat (tyList tyS_api_Packet) [v0_1] a0.Held)])) (S := (tab [(2, (pq g1)), (3, (pq g2)), (4, (pq g3)), (7, (iq (a0.Got.length : Int))), (8, (iq l72i8)), (31, v0_1), (32, (iq (a0.Held.length : Int))), (33, (iq l72i33))])) ?_
    refine aw_sr ?_
    refine al_in rfl rfl rfl rfl ?_
    refine al_nt ?_
    refine aw_seq ?_
    refine aw_cond rfl (fun hb75 => ?_) (fun hb75 => ?_)
    ·replace h := bif_t hb75 h
     refine aw_skip ?_
     refine aq_then ?_
     refine aw_seq ?_
     refine aw_block ?_
     refine aw_sr ?_
     obtain ⟨u76, hu77, h⟩ := opt_some h
     refine al_idxD 1 hu77 rfl rfl rfl Try.underlying59 sz63 rfl (fun p78 => ?_)
     refine al_val (ov_loadP (ds := [(iq u76.Kind), (iq u76.Seq), (str u76.Text)]) 0 rfl encS_api_Packet rfl Try.underlying63 sz63 rfl rfl rfl) ?_
     refine al_alloc (zs := [(iq (0 : Int)), (iq (0 : Int)), (str ([] : List UInt8))]) (zeroOf_to to63) rfl rfl (fun g79 => ?_)
     refine al_store (i := 0) (vs := [(iq u76.Kind), (iq u76.Seq), (str u76.Text)]) (cs' := [(iq u76.Kind), (iq u76.Seq), (str u76.Text)]) rfl rfl rfl sz63 (cv_rfl rfl) rfl (co_val rfl (co_val rfl (co_val rfl co_nil))) (Nat.le_of_ble_eq_true rfl) rfl rfl ?_
     refine al_nt ?_
     refine aw_seq ?_
     refine aw_sr ?_
     refine al_val (ov_fieldA (p := 1) rfl Try.underlying63 rfl sz3 rfl rfl rfl) ?_
     refine al_val (ov_load (i := 0) (v := (iq u76.Seq)) rfl rfl Try.underlying3 sz3 rfl rfl rfl rfl) ?_
     refine al_mv rfl rfl ?_
     refine al_in rfl rfl rfl rfl ?_
     refine al_nt ?_
     refine aw_cond rfl (fun hb80 => ?_) (fun hb80 => ?_)
     ·replace h := bif_t hb80 h
      refine aw_sr ?_
      refine al_val (ov_build (cells := ([nS, nS]).toArray) (cs := [nS, nS]) rfl (fun w a hm hs => by simp only [List.map_toArray, List.map_cons, List.map_nil, List.toList_toArray]; kernel_rfl)) ?_
      refine al_store (i := 3) (vs := [nS, nS]) (cs' := [nS, nS]) rfl rfl rfl sz61 (cv_rfl rfl) rfl (co_val rfl (co_val rfl co_nil)) (Nat.le_of_ble_eq_true rfl) rfl rfl ?_
      refine al_as rfl rfl ?_
      refine al_as rfl rfl ?_
      refine al_nt ?_
      refine aw_ret ?_
      refine aq_then_ret ?_
      refine aq_block_ret ?_
      refine aq_then_ret ?_
      refine aq_then_ret ?_
      refine aq_block_ret ?_
      refine aq_then_ret ?_
      refine aq_nilD tyStr ?_
      refine aq_nilD tyS_api_Packet ?_
      refine aq_nilD tyS_api_Packet ?_
      obtain rfl := Option.some.inj h
      exact fn_ret (nS, nS, nS) [] [2, 0, 0] rfl rfl rfl rfl (resC rfl (resB (i := 3) rfl rfl Try.underlying61 sz61 rfl rfl rfl (resT rfl (resT rfl (resN)))) rfl) rfl rfl rfl (by decide)
     ·replace h := bif_f hb80 h
      refine aw_skip ?_
      refine aq_then ?_
      refine aw_region ?_
      refine al_val (ov_fieldA (p := 1) rfl Try.underlying63 rfl sz3 rfl rfl rfl) ?_
      refine al_val (ov_load (i := 0) (v := (iq u76.Seq)) rfl rfl Try.underlying3 sz3 rfl rfl rfl rfl) ?_
      refine al_as rfl rfl ?_
      refine al_nil ?_
      refine aq_block ?_
      refine aq_then ?_
      refine aw_region ?_
      refine al_in rfl rfl rfl rfl ?_
      refine al_mv rfl rfl ?_
      refine al_nil ?_
      exact aq_again k73 (u76.Seq, (wq (l72i33 + (1 : Int)))) (Nat.lt_succ_self _) h (fun w a hm hs => norm hm hs [1, 2, 3] [1, 2] [(2, (pq g1)), (3, (pq g2)), (4, (pq g3)), (7, (iq (a0.Got.length : Int))), (8, (iq u76.Seq)), (31, v0_1), (32, (iq (a0.Held.length : Int))), (33, (iq (wq (l72i33 + (1 : Int)))))] (by decide) ⟨rfl, rfl, rfl, rfl, rfl, rfl, rfl, rfl, trivial⟩)
    ·replace h := bif_f hb75 h
     refine aw_exit ?_
     refine aq_then_exit ?_
     refine aq_then_exit ?_
     refine aq_block_exit ?_
     exact aq_join () h (fun w a hm hs => norm hm hs [0, 1, 2] [0, 1] [(2, (pq g1)), (3, (pq g2)), (4, (pq g3)), (7, (iq (a0.Got.length : Int)))] (by decide) ⟨rfl, rfl, rfl, rfl, trivial⟩)
 ·clear hkk5
  refine aw_region ?_
  refine al_mv rfl rfl ?_
  refine al_in rfl rfl rfl rfl ?_
  refine al_mv rfl rfl ?_
  refine al_caseB 22 rfl (fun hb81 => ?_) (fun hb81 => ?_)
  ·replace h := bif_t hb81 h
   refine al_skip ?_
   refine al_skip ?_
   refine al_skip ?_
   refine al_skip ?_
   refine al_val (ov_pick_t rfl rfl rfl) ?_
   refine al_nil ?_
   exact aq_join true h (fun w a hm hs => norm hm hs [2, 1, 0] [0, 1] [(2, (pq g1)), (3, (pq g2)), (4, (pq g3)), (7, (iq (a0.Got.length : Int))), (27, (bool true))] (by decide) ⟨rfl, rfl, rfl, rfl, rfl, trivial⟩)
  ·replace h := bif_f hb81 h
   refine al_val (ov_fieldA (p := 1) rfl Try.underlying61 rfl sz59 rfl rfl rfl) ?_
   refine al_val (ov_load (i := 2) (v := v0_1) rfl rfl Try.underlying59 sz59 rfl rfl rfl rfl) ?_
   refine al_val (ov_lenD 1 rfl rfl Try.underlying59 rfl) ?_
   refine al_in rfl rfl rfl rfl ?_
   refine al_val (ov_pick_f rfl rfl rfl) ?_
   refine al_nil ?_
   exact aq_join (decide ((a0.Held.length : Int) > (8 : Int))) h (fun w a hm hs => norm hm hs [2, 1, 0] [0, 1] [(2, (pq g1)), (3, (pq g2)), (4, (pq g3)), (7, (iq (a0.Got.length : Int))), (27, (bool (decide ((a0.Held.length : Int) > (8 : Int)))))] (by decide) ⟨rfl, rfl, rfl, rfl, rfl, trivial⟩)
def f_slices_Equal___string_string__L6 (a0 : (List (List UInt8))) (a1 : (List (List UInt8))) (kk3 : (Unit → Option Bool)) : Nat → Int → Option Bool
  | 0, _ => none
  | k5 + 1, l4i13 => (bif (decide (l4i13 < (a0.length : Int))) then (opt (at? a0 l4i13) fun (u8 : (List UInt8)) => (opt (at? a1 l4i13) fun (u11 : (List UInt8)) => (bif (!(u8 == u11)) then (some false) else (f_slices_Equal___string_string__L6 a0 a1 kk3 k5 (IntKind.i64.wrap (l4i13 + (1 : Int))))))) else (kk3 ()))
def f_slices_Equal___string_string_ (fu : Nat) (a0 : (List (List UInt8))) (a1 : (List (List UInt8))) : Option Bool := (bif ((a0.length : Int) != (a1.length : Int)) then (some false) else (lt (fun (_ : Unit) => (some true)) fun (kk3 : Unit → Option Bool) => (f_slices_Equal___string_string__L6 a0 a1 kk3 fu (0 : Int))))
set_option maxHeartbeats 2000000 in
set_option maxRecDepth 100000 in
theorem f_slices_Equal___string_string__ok (fu : Nat) (v0_0 : Value) (a0 : (List (List UInt8))) (v1_0 : Value) (a1 : (List (List UInt8))) {r : Bool} (h : f_slices_Equal___string_string_ fu a0 a1 = some r) : FnOk Try.prog 61 [v0_0, v1_0] [(fDat (tyList tyStr) [v0_0] a0), (fDat (tyList tyStr) [v1_0] a1)] [] (fun (i : Unit) => { val := (bool r) }) := by
 unfold f_slices_Equal___string_string_ at h
 refine fn_enter Try.func61 rfl Try.ntmps61 rfl (fun w0 Z0 => ?_)
 refine aw_sr ?_
 refine al_as rfl rfl ?_
 refine al_nt ?_
 refine aw_seq ?_
 refine aw_sr ?_
 refine al_mv rfl rfl ?_
 refine al_val (ov_lenD 0 rfl rfl Try.underlying23 rfl) ?_
 refine al_mv rfl rfl ?_
 refine al_val (ov_lenD 1 rfl rfl Try.underlying23 rfl) ?_
 refine al_in rfl rfl rfl rfl ?_
 refine al_nt ?_
 refine aw_cond rfl (fun hb1 => ?_) (fun hb1 => ?_)
 ·replace h := bif_t hb1 h
  refine aw_sr ?_
  refine al_as rfl rfl ?_
  refine al_nt ?_
  refine aw_ret ?_
  refine aq_then_ret ?_
  obtain rfl := Option.some.inj h
  exact fn_ret () [] [] rfl rfl rfl rfl (res1 rfl rfl) rfl rfl rfl (by decide)
 ·replace h := bif_f hb1 h
  refine aw_skip ?_
  refine aq_then ?_
  obtain ⟨kk3, hkk3, h⟩ := lt_some h
  refine aw_seq_join (ι := Unit) (fun i => (memOf w0 Z0 [] [] [(fDat (tyList tyStr) [v0_0] a0), (fDat (tyList tyStr) [v1_0] a1)])) (fun i => (tab [])) (fun i => kk3 () = some r) ?_ ?_
  ·rintro _ h
   have h : kk3 () = some r := h
   rw [hkk3] at h
   dsimp only at h
   clear hkk3
   refine aw_show (m := (memOf w0 Z0 [] [] [(fDat (tyList tyStr) [v0_0] a0), (fDat (tyList tyStr) [v1_0] a1)])) (S := (tab [])) ?_
   refine aw_sr ?_
   refine al_as rfl rfl ?_
   refine al_nt ?_
   refine aw_ret ?_
   obtain rfl := Option.some.inj h
   exact fn_ret () [] [] rfl rfl rfl rfl (res1 rfl rfl) rfl rfl rfl (by decide)
  ·clear hkk3
   refine aw_sr ?_
   refine al_mv rfl rfl ?_
   refine al_val (ov_lenD 0 rfl rfl Try.underlying23 rfl) ?_
   refine al_mv rfl rfl ?_
   refine al_nt ?_
   refine aw_block ?_
   refine aw_state (aw_loop (ι := Int) (fun i => (memOf w0 Z0 [] [] [(fDat (tyList tyStr) [v0_0] a0), (fDat (tyList tyStr) [v1_0] a1)])) (fun i => (tab [(0, v0_0), (1, v1_0), (12, (iq (a0.length : Int))), (13, (iq i))])) (fun q i => f_slices_Equal___string_string__L6 a0 a1 kk3 q i = some r) ?_ fu (0 : Int) h) (fun w a hm hs => norm hm hs [] [0, 1] [(0, v0_0), (1, v1_0), (12, (iq (a0.length : Int))), (13, (iq (0 : Int)))] (by decide) ⟨rfl, rfl, rfl, rfl, trivial⟩)
   clear h
   rintro k5 l4i13 h
   have h : f_slices_Equal___string_string__L6 a0 a1 kk3 k5 l4i13 = some r := h
   obtain _ | k5 := k5
   · rw [f_slices_Equal___string_string__L6] at h; cases h
   rw [f_slices_Equal___string_string__L6] at h
   refine aw_show (m := (memOf w0 Z0 [] [] [(fDat (tyList tyStr) [v0_0] a0), (fDat (tyList tyStr) [v1_0] a1)])) (S := (tab [(0, v0_0), (1, v1_0), (12, (iq (a0.length : Int))), (13, (iq l4i13))])) ?_
   refine aw_sr ?_
   refine al_in rfl rfl rfl rfl ?_
   refine al_nt ?_
   refine aw_seq ?_
   refine aw_cond rfl (fun hb7 => ?_) (fun hb7 => ?_)
   ·replace h := bif_t hb7 h
    refine aw_skip ?_
    refine aq_then ?_
    refine aw_seq ?_
    refine aw_block ?_
    refine aw_sr ?_
    refine al_mv rfl rfl ?_
    refine al_as rfl rfl ?_
    refine al_nt ?_
    refine aw_seq ?_
    obtain ⟨u8, hu9, h⟩ := opt_some h
    obtain ⟨u11, hu12, h⟩ := opt_some h
    refine aw_region_draw 8 [(16, (fun u => fEq u v0_0)), (17, (fun u => fEq u (iq l4i13))), (18, (fun p10 => (fPtr tyStr p10 u8))), (19, (fun u => fEq u (str u8))), (20, (fun u => fEq u v1_0)), (21, (fun u => fEq u (iq l4i13))), (22, (fun p13 => (fPtr tyStr p13 u11))), (23, (fun u => fEq u (str u11)))] (tab [(0, v0_0), (1, v1_0), (5, (iq l4i13)), (12, (iq (a0.length : Int))), (13, (iq l4i13))]) mixed (by kernel_rfl) rfl rfl rfl (fun a hs => hs.tab _ (allT_mem ⟨rfl, rfl, rfl, rfl, rfl, trivial⟩)) ⟨⟨rfl, ld_val (ov_move rfl rfl)⟩, ⟨rfl, ld_val (ov_move rfl rfl)⟩, ⟨rfl, ld_eq (j := 0) rfl rfl (ld_eq (j := 1) rfl rfl (ld_of (of_idxD 0 hu9 rfl rfl rfl Try.underlying23 sz9 rfl)))⟩, ⟨rfl, ld_fact (j := 2) rfl rfl (fun p10 => ld_val (ov_loadP (ds := [(str u8)]) 0 rfl (fun h => h) rfl Try.underlying9 sz9 rfl rfl rfl))⟩, ⟨rfl, ld_val (ov_move rfl rfl)⟩, ⟨rfl, ld_val (ov_move rfl rfl)⟩, ⟨rfl, ld_eq (j := 4) rfl rfl (ld_eq (j := 5) rfl rfl (ld_of (of_idxD 1 hu12 rfl rfl rfl Try.underlying23 sz9 rfl)))⟩, ⟨rfl, ld_fact (j := 6) rfl rfl (fun p13 => ld_val (ov_loadP (ds := [(str u11)]) 0 rfl (fun h => h) rfl Try.underlying9 sz9 rfl rfl rfl))⟩, trivial⟩ ?_
    refine tl_eq 3 rfl ?_
    refine tl_eq 7 rfl ?_
    refine tl_done ?_
    refine al_val (ov_strCmp rfl rfl rfl rfl) ?_
    refine al_nt ?_
    refine aw_cond rfl (fun hb14 => ?_) (fun hb14 => ?_)
    ·replace h := bif_t hb14 h
     refine aw_sr ?_
     refine al_as rfl rfl ?_
     refine al_nt ?_
     refine aw_ret ?_
     refine aq_block_ret ?_
     refine aq_then_ret ?_
     refine aq_then_ret ?_
     refine aq_block_ret ?_
     refine aq_then_ret ?_
     obtain rfl := Option.some.inj h
     exact fn_ret () [] [] rfl rfl rfl rfl (res1 rfl rfl) rfl rfl rfl (by decide)
    ·replace h := bif_f hb14 h
     refine aw_skip ?_
     refine aq_block ?_
     refine aq_then ?_
     refine aw_region ?_
     refine al_in rfl rfl rfl rfl ?_
     refine al_mv rfl rfl ?_
     refine al_nil ?_
     exact aq_again k5 (wq (l4i13 + (1 : Int))) (Nat.lt_succ_self _) h (fun w a hm hs => norm hm hs [] [0, 1] [(0, v0_0), (1, v1_0), (12, (iq (a0.length : Int))), (13, (iq (wq (l4i13 + (1 : Int)))))] (by decide) ⟨rfl, rfl, rfl, rfl, trivial⟩)
   ·replace h := bif_f hb7 h
    refine aw_exit ?_
    refine aq_then_exit ?_
    refine aq_then_exit ?_
    refine aq_block_exit ?_
    exact aq_join () h (fun w a hm hs => norm hm hs [] [0, 1] [] (by decide) trivial)
def f_slices_Equal___api_Packet_api_Packet__L6 (a0 : (List S_api_Packet)) (a1 : (List S_api_Packet)) (kk3 : (Unit → Option Bool)) : Nat → Int → Option Bool
  | 0, _ => none
  | k5 + 1, l4i13 => (bif (decide (l4i13 < (a0.length : Int))) then (opt (at? a0 l4i13) fun (u8 : S_api_Packet) => (opt (at? a1 l4i13) fun (u11 : S_api_Packet) => (req ((Lit.int .i64 u8.Kind).wf = true) (req ((Lit.int .i64 u8.Seq).wf = true) (req (u8.Text.length ≤ 9223372036854775807) (req ((Lit.int .i64 u11.Kind).wf = true) (req ((Lit.int .i64 u11.Seq).wf = true) (req (u11.Text.length ≤ 9223372036854775807) (bif (!(u8 == u11)) then (some false) else (f_slices_Equal___api_Packet_api_Packet__L6 a0 a1 kk3 k5 (IntKind.i64.wrap (l4i13 + (1 : Int))))))))))))) else (kk3 ()))
def f_slices_Equal___api_Packet_api_Packet_ (fu : Nat) (a0 : (List S_api_Packet)) (a1 : (List S_api_Packet)) : Option Bool := (bif ((a0.length : Int) != (a1.length : Int)) then (some false) else (lt (fun (_ : Unit) => (some true)) fun (kk3 : Unit → Option Bool) => (f_slices_Equal___api_Packet_api_Packet__L6 a0 a1 kk3 fu (0 : Int))))
end Go.Proofs.Ytpakblkldklbmaa
