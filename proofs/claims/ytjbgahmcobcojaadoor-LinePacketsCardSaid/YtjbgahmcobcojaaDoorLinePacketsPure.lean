/- Packets: LinePackets. No condition. -/
import Derived.Test.YtjbgahmcobcojaaDoorLiMix
import Derived.Test.YtjbgahmcobcojaaDoorLiPut
import Derived.Test.YtjbgahmcobcojaaDoorLiTxt
import Derived.Test.YtjbgahmcobcojaaDoorLiTp
import Derived.Test.YtjbgahmcobcojaaDoorLiCan
namespace Go.Proofs.YtjbgahmcobcojaaDoor.PLinePackets
open Go.RowKit YtjbgahmcobcojaaDoor.En YtjbgahmcobcojaaDoor Num Mix PPut CN TX
open Go.Lib hiding cut
set_option linter.unusedVariables false
set_option linter.unusedSimpArgs false
abbrev Pk := S_api_Packet
def headV (p : Pk) : List UInt8 := ([(UInt8.ofNat (p.Kind).toNat)] ++ putV p.Seq.toNat) ++ txtV p.Text
def packV (F : List UInt8 → A8u8) (p : Pk) : List UInt8 := headV p ++ lA8u8 (F (headV p))
theorem pack_ok {F : List UInt8 → A8u8} (hF : IdF F) (p : Pk) (fu : Nat) (hfu : 6000 ≤ fu) : ∃ e, f_lumref_PacketErr fu p = some e ∧ ((e = 0 ∧ f_line_Pack fu p = some (packV F p, 0) ∧ f_lumref_PacketText fu p = some (packV F p) ∧ p.Text.length ≤ 1024) ∨ (e ≠ 0 ∧ f_line_Pack fu p = some ([], e))) := by
  obtain ⟨kind, seq, text⟩ := p
  unfold f_lumref_PacketErr f_line_Pack f_lumref_PacketText
  simp only [lt_of]
  by_cases hk : kind = 1 ∨ kind = 2
  · have gk : (bif kind != 1 then kind != 2 else false) = false := by
      rcases hk with rfl | rfl <;> rfl
    obtain ⟨k, rfl⟩ : ∃ k : Nat, kind = k := ⟨kind.toNat, by omega⟩
    have hk2 : k = 1 ∨ k = 2 := by omega
    have c1 : ∀ {α : Type} (x y : α), (bif (k : Int) != 1 then (bif (k : Int) != 2 then x else y) else (bif false then x else y)) = y := by
      intro α x y
      rcases hk2 with rfl | rfl <;> rfl
    rw [c1, c1]
    by_cases hs : 0 ≤ seq ∧ seq ≤ 2000
    · obtain ⟨q, rfl⟩ : ∃ q : Nat, seq = q := ⟨seq.toNat, by omega⟩
      rw [decide_eq_false (show ¬ ((q : Int) < 0) by omega), decide_eq_false (show ¬ ((q : Int) > 2000) by omega)]
      simp only [cond_false]
      by_cases ht : k = 2 ∧ text ≠ []
      · obtain ⟨rfl, ht⟩ := ht
        have z : (!(text == ([] : List UInt8))) = true := by simpa using ht
        rw [z, show ((((2 : Nat) : Int)) == 2) = true from rfl]
        exact ⟨1, rfl, .inr ⟨by decide, rfl⟩⟩
      · have c2 : ∀ {α : Type} (x y : α), (bif (k : Int) == 2 then (bif !(text == ([] : List UInt8)) then x else y) else y) = y := by
          intro α x y
          rcases hk2 with rfl | rfl
          · rfl
          · have : text = [] := by simpa using ht
            subst this; rfl
        rw [c2, c2]
        by_cases hl : text.length ≤ 1024
        · obtain ⟨t1, t2⟩ := putT_ok text hl fu
          have hp := putV_len q
          have ht := txtV_len text
          rw [decide_eq_false (show ¬ ((text.length : Int) > 1024) by omega), t1, t2, opt_of, opt_of, cond_ff rfl]
          dsimp only
          rw [show ((0 : Int) != 0) = false from rfl, cond_ff rfl, u8w_in (x := k) (by omega), uw (n := q) (by omega), put_ok q (by omega), rput_ok q (by omega) fu (by omega)]
          obtain ⟨X, hX⟩ : ∃ X, X = ([(UInt8.ofNat ((k : Int)).toNat)] ++ putV q) ++ txtV text := ⟨_, rfl⟩
          have hXl : X.length ≤ 4000 := by rw [hX, List.length_append, List.length_append, List.length_singleton]; omega
          obtain ⟨i1, i2⟩ := hF fu X (by omega) (by omega) (by omega)
          have hh : headV ⟨(k : Int), (q : Int), text⟩ = X := by rw [hX]; rfl
          have hpk : packV F ⟨(k : Int), (q : Int), text⟩ = X ++ lA8u8 (F X) := by unfold packV; rw [hh]
          rw [hpk]
          have r0 : 0 ≤ (k : Int) ∧ (k : Int) ≤ 255 := ⟨by omega, by omega⟩
          have r1 : ([(UInt8.ofNat ((k : Int)).toNat)] : List UInt8).length + (putV q).length ≤ 9223372036854775807 := by rw [List.length_singleton]; omega
          have r2 : (([(UInt8.ofNat ((k : Int)).toNat)] : List UInt8) ++ putV q).length + (txtV text).length ≤ 9223372036854775807 := by rw [List.length_append, List.length_singleton]; omega
          have r3 : X.length + (lA8u8 (F X)).length ≤ 9223372036854775807 := by rw [show (lA8u8 (F X)).length = 8 from rfl]; omega
          simp only [opt_of, req_pos r0, req_pos r1, req_pos r2, ← hX, i1, i2, req_pos r3]
          exact ⟨0, rfl, .inl ⟨rfl, trivial, trivial, hl⟩⟩
        · obtain ⟨t1, t2⟩ := putT_large text (by omega) fu
          rw [decide_eq_true (show ((text.length : Int) > 1024) by omega), t1, opt_of, cond_tt rfl]
          exact ⟨2, rfl, .inr ⟨by decide, rfl⟩⟩
    · have c3 : ∀ {α : Type} (x y : α), (bif decide (seq < 0) then x else (bif decide (seq > 2000) then x else y)) = x := by
        intro α x y
        by_cases h : seq < 0
        · rw [decide_eq_true h]; rfl
        · rw [decide_eq_false h, decide_eq_true (show seq > 2000 by omega)]; rfl
      simp only [cond_true]
      rw [c3, c3]
      exact ⟨1, rfl, .inr ⟨by decide, rfl⟩⟩
  · have c1 : ∀ {α : Type} (x y : α), (bif kind != 1 then (bif kind != 2 then x else y) else (bif false then x else y)) = x := by
      intro α x y
      have z1 : (kind != 1) = true := by simp; omega
      have z2 : (kind != 2) = true := by simp; omega
      rw [z1, z2]; rfl
    rw [c1, c1]
    exact ⟨5, rfl, .inr ⟨by decide, rfl⟩⟩
def P0 : Pk := S_api_Packet.mk (0 : Int) (0 : Int) ([] : List UInt8)
theorem pack0 {F : List UInt8 → A8u8} (hF : IdF F) (fu : Nat) (hfu : 6000 ≤ fu) : ∃ e, e ≠ 0 ∧ f_line_Pack fu P0 = some ([], e) := ⟨5, by decide, rfl⟩
def jt (fu : Nat) (s : List UInt8) (p : Pk) : Option (Pk × Int) := (opt (f_line_Pack fu p) fun (r17 : ((List UInt8) × Int)) => (lt (fun (j18b42 : Bool) => (bif j18b42 then (some ((S_api_Packet.mk (0 : Int) (0 : Int) ([] : List UInt8)), (4 : Int))) else (some (p, (0 : Int))))) fun (kk19 : Bool → Option (S_api_Packet × Int)) => (bif (r17.2 != (0 : Int)) then (kk19 true) else (kk19 (!(r17.1 == s))))))
theorem jt_bad {fu : Nat} {s : List UInt8} {p : Pk} {t : List UInt8} {e : Int} (he : e ≠ 0) (h : f_line_Pack fu p = some (t, e)) : jt fu s p = some (P0, 4) := by
  unfold jt
  rw [h, opt_of, lt_of]
  dsimp only
  rw [cond_tt (show (e != 0) = true from by simpa using he), cond_tt rfl]
  rfl
theorem jt_good {fu : Nat} {s : List UInt8} {p : Pk} {t : List UInt8} (h : f_line_Pack fu p = some (t, 0)) : jt fu s p = bif !(t == s) then some (P0, 4) else some (p, 0) := by
  unfold jt
  rw [h, opt_of, lt_of]
  dsimp only
  rw [cond_ff (show ((0 : Int) != 0) = false from rfl)]
  rfl
theorem decode_bad (c : UInt8) (y : List UInt8) (hy : y.length ≤ 9223372036854775806) (fu : Nat) (hf : 9 ≤ fu) (h : (getV y).2.2 ≠ 0 ∨ (getV y).1 > 2000) : f_line_decode fu (c :: y) = some P0 := by
  unfold f_line_decode
  have z : ((c :: y) == ([] : List UInt8)) = false := rfl
  rw [z, cond_ff rfl, req_pos ⟨by omega, by rw [List.length_cons]; omega⟩, show (c :: y).drop ((1 : Int)).toNat = y from rfl, get_ok y fu hf, opt_of, lt_of]
  by_cases he : (getV y).2.2 = 0
  · rw [cond_ff (show ((getV y).2.2 != 0) = false from by rw [he]; rfl), decide_eq_true (show (getV y).1 > 2000 from h.resolve_left (fun e => e he))]
    rfl
  · rw [cond_tt (show ((getV y).2.2 != 0) = true from by simpa using he)]
    rfl
theorem decode_good (c : UInt8) (y : List UInt8) (hy : y.length ≤ 9223372036854775806) (fu : Nat) (hf : 9 ≤ fu) {v k : Nat} (hg : getV y = ((v : Int), (k : Int), 0)) (hv : v ≤ 2000) (hk : k ≤ y.length) {r : List UInt8 × Int × Int} (hr : f_num_GetText fu (y.drop k) = some r) :
    f_line_decode fu (c :: y) = some ⟨(c.toNat : Int), (v : Int), r.1⟩ := by
  unfold f_line_decode
  have z : ((c :: y) == ([] : List UInt8)) = false := rfl
  have hb := c.toNat_lt
  rw [z, cond_ff rfl, req_pos ⟨by omega, by rw [List.length_cons]; omega⟩, show (c :: y).drop ((1 : Int)).toNat = y from rfl, get_ok y fu hf, opt_of, lt_of, hg]
  dsimp only
  rw [cond_ff (show ((0 : Int) != 0) = false from rfl), decide_eq_false (show ¬ ((v : Int) > 2000) by omega), cond_ff rfl]
  have e1 : IntKind.i64.wrap ((1 : Int) + (k : Int)) = ((k + 1 : Nat) : Int) := by rw [show (1 : Int) + (k : Int) = ((k + 1 : Nat) : Int) by omega, iw (by omega)]
  rw [e1, req_pos ⟨by omega, by rw [List.length_cons]; omega⟩, Int.toNat_natCast, List.drop_succ_cons, hr, opt_of, req_pos ⟨by omega, by rw [List.length_cons]; omega⟩, iw (n := v) (by omega)]
  rw [show En.bAt (c :: y) (0 : Int) = ((c.toNat : Nat) : Int) from rfl, iw (n := c.toNat) (by omega)]
def Fine (p : Pk) : Prop := (0 ≤ p.Kind ∧ p.Kind ≤ 255) ∧ (0 ≤ p.Seq ∧ p.Seq ≤ 2000) ∧ p.Text.length ≤ 1024
theorem fine0 : Fine P0 := ⟨⟨by decide, by decide⟩, ⟨by decide, by decide⟩, by decide⟩
/-- what the reference does with the packet that it read -/
def rt (fu : Nat) (s : List UInt8) (p : Pk) (e : Int) : Option (Pk × Int) := (lt (fun (j22b77 : Bool) => (bif j22b77 then (some ((S_api_Packet.mk (0 : Int) (0 : Int) ([] : List UInt8)), (4 : Int))) else (some (p, (0 : Int))))) fun (kk23 : Bool → Option (S_api_Packet × Int)) => (bif (e != (0 : Int)) then (kk23 true) else (opt (f_lumref_PacketErr fu p) fun (r27 : Int) => (bif (r27 != (0 : Int)) then (kk23 true) else (opt (f_lumref_PacketText fu p) fun (r30 : (List UInt8)) => (kk23 (!(r30 == s))))))))
theorem tails {F : List UInt8 → A8u8} (hF : IdF F) (fu : Nat) (hfu : 6000 ≤ fu) (s : List UInt8) (p : Pk) (hp : Fine p) : ∃ q e, Fine q ∧ jt fu s p = some (q, e) ∧ rt fu s p 0 = some (q, e) := by
  obtain ⟨e, h1, h2⟩ := pack_ok hF p fu hfu
  unfold rt
  rw [lt_of, cond_ff (show ((0 : Int) != 0) = false from rfl), h1, opt_of]
  rcases h2 with ⟨rfl, h3, h4, _⟩ | ⟨he, h3⟩
  · rw [jt_good h3, cond_ff (show ((0 : Int) != 0) = false from rfl), h4, opt_of]
    cases (packV F p == s)
    · exact ⟨P0, 4, fine0, rfl, rfl⟩
    · exact ⟨p, 0, hp, rfl, rfl⟩
  · rw [jt_bad he h3, cond_tt (show (e != 0) = true from by simpa using he)]
    exact ⟨P0, 4, fine0, rfl, rfl⟩
theorem rt_bad (fu : Nat) (s : List UInt8) (p : Pk) {e : Int} (he : e ≠ 0) : rt fu s p e = some (P0, 4) := by
  unfold rt
  rw [lt_of, cond_tt (show (e != 0) = true from by simpa using he)]
  rfl
theorem append_same {a b c d : List UInt8} (h : a ++ b = c ++ d) (hl : b.length = d.length) : a = c := by
  have h1 := congrArg List.length h
  rw [List.length_append, List.length_append] at h1
  exact (List.append_inj h (by omega)).1
theorem read_ok {F : List UInt8 → A8u8} (hF : IdF F) (x tl : List UInt8) (htl : tl.length = 8) (hs : x.length + 8 ≤ 9223372036854775807) (fu : Nat) (hfu : 6000 + x.length ≤ fu) :
    ∃ q e, Fine q ∧ f_line_Read fu (x ++ tl) = some (q, e) ∧ f_lumref_PacketRead fu (x ++ tl) = some (q, e) := by
  have hlen : (x ++ tl).length = x.length + 8 := by rw [List.length_append, htl]
  have ew : IntKind.i64.wrap (((x ++ tl).length : Int) - (8 : Int)) = (x.length : Int) := by rw [hlen, show ((x.length + 8 : Nat) : Int) - (8 : Int) = (x.length : Int) by omega, iw (by omega)]
  obtain ⟨i1, i2⟩ := hF fu x (by omega) (by omega) (by omega)
  unfold f_line_Read f_lumref_PacketRead
  rw [decide_eq_false (show ¬ (((x ++ tl).length : Int) < 8) by omega), cond_ff rfl, cond_ff rfl, ew, Int.toNat_natCast, List.take_left, List.drop_left]
  rw [req_pos (by omega), req_pos (by omega), req_pos (by omega), req_pos (by omega), i1, opt_of, req_pos (by omega), i2, opt_of]
  by_cases hsum : tl = lA8u8 (F x)
  · have q1 : (!(F x == ofA8u8 tl)) = false := by rw [sum_eq _ _ htl]; simp [← hsum]
    have q2 : (!(lA8u8 (F x) == tl)) = false := by simp [← hsum]
    rw [q1, q2, cond_ff rfl, req_pos (by omega), req_pos (by omega), cond_ff rfl]
    show ∃ q e, Fine q ∧ (opt (f_line_decode fu x) fun r14 => jt fu (x ++ tl) r14) = some (q, e) ∧ _ = some (q, e)
    cases x with
    | nil =>
      obtain ⟨e, he, hp⟩ := pack0 hF fu (by omega)
      refine ⟨P0, 4, fine0, ?_, rfl⟩
      rw [show f_line_decode fu [] = some P0 from rfl, opt_of]
      exact jt_bad he hp
    | cons c y =>
      have hcl : (c :: y).length = y.length + 1 := rfl
      rw [hcl] at hs hfu hlen ⊢
      have hb := c.toNat_lt
      have hz : (((y.length + 1 : Nat) : Int) == (0 : Int)) = false := by rw [beq_eq_false_iff_ne]; omega
      rw [hz, cond_ff rfl, req_pos (by omega)]
      have hc1 : cut (c :: y ++ tl) (1 : Int) ((y.length + 1 : Nat) : Int) = y := by
        show ((c :: y ++ tl).take (y.length + 1)).drop 1 = y
        rw [List.cons_append, List.take_succ_cons, List.take_left]; rfl
      rw [hc1, rget_ok y fu (by omega), opt_of, lt_of]
      by_cases he : (getV y).2.2 = 0
      · obtain ⟨v, k, hg, hk, hput, hv, hk1, hk9⟩ := getV_canon y he
        by_cases hv2 : v ≤ 2000
        · obtain ⟨r, t1, t2, t3, t4, t5⟩ := PTreeText.txt_ex (y.drop k) (by rw [List.length_drop]; omega) fu (by omega)
          rw [decode_good c y (by omega) fu (by omega) hg hv2 hk t1, opt_of, hg]
          dsimp only
          rw [cond_ff (show ((0 : Int) != 0) = false from rfl), decide_eq_false (show ¬ ((v : Int) > 2000) by omega), cond_ff rfl]
          have e1 : IntKind.i64.wrap ((1 : Int) + (k : Int)) = ((k + 1 : Nat) : Int) := by rw [show (1 : Int) + (k : Int) = ((k + 1 : Nat) : Int) by omega, iw (by omega)]
          have hck : cut (c :: y ++ tl) ((k + 1 : Nat) : Int) ((y.length + 1 : Nat) : Int) = y.drop k := by
            show ((c :: y ++ tl).take (y.length + 1)).drop (k + 1) = y.drop k
            rw [List.cons_append, List.take_succ_cons, List.take_left, List.drop_succ_cons]
          rw [e1, hck, req_pos (by omega), t2, opt_of, req_pos (by omega), iw (n := v) (by omega), show En.bAt (c :: y ++ tl) (0 : Int) = ((c.toNat : Nat) : Int) from rfl, iw (n := c.toNat) (by omega)]
          have hfine : Fine ⟨(c.toNat : Int), (v : Int), r.1⟩ := ⟨⟨by show (0 : Int) ≤ ((c.toNat : Nat) : Int); omega, by show ((c.toNat : Nat) : Int) ≤ 255; omega⟩, ⟨by show (0 : Int) ≤ ((v : Nat) : Int); omega, by show ((v : Nat) : Int) ≤ 2000; omega⟩, t3⟩
          show ∃ q e, Fine q ∧ jt fu (c :: y ++ tl) ⟨(c.toNat : Int), (v : Int), r.1⟩ = some (q, e) ∧ rt fu (c :: y ++ tl) ⟨(c.toNat : Int), (v : Int), r.1⟩ r.2.2 = some (q, e)
          by_cases hr0 : r.2.2 = 0
          · rw [hr0]
            exact tails hF fu (by omega) _ _ hfine
          · refine ⟨P0, 4, fine0, ?_, rt_bad fu _ _ hr0⟩
            obtain ⟨e, _, h2⟩ := pack_ok hF ⟨(c.toNat : Int), (v : Int), r.1⟩ fu (by omega)
            rcases h2 with ⟨rfl, h3, _, _⟩ | ⟨he, h3⟩
            · rw [jt_good h3]
              have hne : packV F ⟨(c.toNat : Int), (v : Int), r.1⟩ ≠ c :: y ++ tl := by
                intro h9
                have h10 := append_same h9 (by rw [htl]; rfl)
                have hrn := t5 hr0
                rw [hrn] at h10
                have h11 : ([(UInt8.ofNat ((c.toNat : Int)).toNat)] ++ putV v) ++ txtV [] = c :: y := h10
                rw [txtV_nil] at h11
                have h12 : putV v ++ [0, 0] = y := by
                  have := List.cons.inj (show UInt8.ofNat ((c.toNat : Int)).toNat :: (putV v ++ [0, 0]) = c :: y from h11)
                  exact this.2
                have h13 : y.drop k = [0, 0] := by
                  have hl : (putV v).length = k := by rw [← hput, List.length_take]; omega
                  rw [← h12, ← hl, List.drop_left]
                rw [h13] at t1
                obtain ⟨f, rfl⟩ : ∃ f, fu = f + 5 := ⟨fu - 5, by omega⟩
                rw [PTreeText.txt_00 f] at t1
                have := Option.some.inj t1
                rw [← this] at hr0
                exact hr0 rfl
              have hb2 : (packV F ⟨(c.toNat : Int), (v : Int), r.1⟩ == c :: y ++ tl) = false := beq_eq_false_iff_ne.2 hne
              rw [hb2]; rfl
            · exact jt_bad he h3
        · obtain ⟨e, hee, hp⟩ := pack0 hF fu (by omega)
          refine ⟨P0, 4, fine0, ?_, ?_⟩
          · rw [decode_bad c y (by omega) fu (by omega) (.inr (by rw [hg]; show (v : Int) > 2000; omega)), opt_of]
            exact jt_bad hee hp
          · rw [hg]
            dsimp only
            rw [cond_ff (show ((0 : Int) != 0) = false from rfl), decide_eq_true (show ((v : Int) > 2000) by omega), cond_tt rfl]
            rfl
      · obtain ⟨e, hee, hp⟩ := pack0 hF fu (by omega)
        refine ⟨P0, 4, fine0, ?_, ?_⟩
        · rw [decode_bad c y (by omega) fu (by omega) (.inl he), opt_of]
          exact jt_bad hee hp
        · rw [cond_tt (show ((getV y).2.2 != 0) = true from by simpa using he)]
          rfl
  · have q1 : (!(F x == ofA8u8 tl)) = true := by rw [sum_eq _ _ htl]; simpa using hsum
    have q2 : (!(lA8u8 (F x) == tl)) = true := by simpa using fun e : lA8u8 (F x) = tl => hsum e.symm
    have hreq : 0 ≤ (x.length : Int) ∧ (x.length : Int) ≤ ((x ++ tl).length : Int) := ⟨by omega, by omega⟩
    simp only [q1, q2, cond_true, req_pos hreq]
    exact ⟨P0, 6, fine0, by first | rfl | trivial, by first | rfl | trivial⟩
theorem wf_i64 {x : Int} (h0 : 0 ≤ x) (h1 : x ≤ 2000) : (Lit.int .i64 x).wf = true := by
  simp [Lit.wf, IntKind.min, IntKind.max, IntKind.signed, IntKind.bits]; omega
theorem law_ok (p : Pk) (s : List UInt8) (hs : s.length ≤ 9223372036854775807) (fu : Nat) (hfu : 6000 + s.length ≤ fu) : f_lumlaw_LinePackets fu p s = some true := by
  obtain ⟨F, hF⟩ := id_ex
  obtain ⟨e, h1, h2⟩ := pack_ok hF p fu (by omega)
  have hread : ∃ q e, Fine q ∧ f_line_Read fu s = some (q, e) ∧ f_lumref_PacketRead fu s = some (q, e) := by
    by_cases h8 : s.length < 8
    · refine ⟨P0, 3, fine0, ?_, ?_⟩
      · unfold f_line_Read; rw [decide_eq_true (show ((s.length : Int) < 8) by omega)]; rfl
      · unfold f_lumref_PacketRead; rw [decide_eq_true (show ((s.length : Int) < 8) by omega)]; rfl
    · have := read_ok hF (s.take (s.length - 8)) (s.drop (s.length - 8)) (by rw [List.length_drop]; omega) (by rw [List.length_take]; omega) fu (by rw [List.length_take]; omega)
      rw [List.take_append_drop] at this
      exact this
  obtain ⟨q, e2, hq, g1, g2⟩ := hread
  obtain ⟨⟨f1, f2⟩, ⟨f3, f4⟩, f5⟩ := hq
  have w1 := wf_i64 f1 (by omega)
  have w2 := wf_i64 f3 (by omega)
  have tail : ∀ (a b : List UInt8) (i : Int), a = b → (lt (fun (j6s8 : (List UInt8)) => (opt (f_line_Read fu s) fun (r9 : (S_api_Packet × Int)) => (opt (f_lumref_PacketRead fu s) fun (r12 : (S_api_Packet × Int)) => (lt (fun (j14b4 : Bool) => (some j14b4)) fun (kk15 : Bool → Option Bool) => (bif (a == j6s8) then (bif (i == e) then (req ((Lit.int .i64 r9.1.Kind).wf = true) (req ((Lit.int .i64 r9.1.Seq).wf = true) (req (r9.1.Text.length ≤ 9223372036854775807) (req ((Lit.int .i64 r12.1.Kind).wf = true) (req ((Lit.int .i64 r12.1.Seq).wf = true) (req (r12.1.Text.length ≤ 9223372036854775807) (bif ((S_api_Packet.mk r9.1.Kind r9.1.Seq r9.1.Text) == (S_api_Packet.mk r12.1.Kind r12.1.Seq r12.1.Text)) then (kk15 (r9.2 == r12.2)) else (kk15 false)))))))) else (kk15 false)) else (kk15 false)))))) fun (kk7 : (List UInt8) → Option Bool) => kk7 b) = (bif (i == e) then some true else some false) := by
    intro a b i hab
    subst hab
    rw [g1, g2]
    simp only [lt_of, opt_of]
    rw [cond_tt (beq_self_eq_true a)]
    rw [req_pos w1, req_pos w2, req_pos (by omega), req_pos w1, req_pos w2, req_pos (by omega), cond_tt (beq_self_eq_true _), beq_self_eq_true]
  unfold f_lumlaw_LinePackets
  rw [h1, opt_of]
  rcases h2 with ⟨rfl, h3, h4, _⟩ | ⟨he, h3⟩
  · rw [h3, opt_of]
    have t := tail (packV F p) (packV F p) 0 rfl
    rw [cond_tt (beq_self_eq_true _)] at t
    refine Eq.trans ?_ t
    rw [lt_of, lt_of, cond_tt (beq_self_eq_true _), h4, opt_of]
  · rw [h3, opt_of]
    have t := tail [] [] e rfl
    rw [cond_tt (beq_self_eq_true _)] at t
    refine Eq.trans ?_ t
    rw [lt_of, lt_of, cond_ff (show (e == 0) = false from by simpa using he)]
def fuel (_ : Pk) (s : List UInt8) : Nat := 6000 + s.length
theorem says (p : Pk) (s : List UInt8) (ok0 : okS_api_Packet p) (ok1 : s.length ≤ 9223372036854775807) : f_lumlaw_LinePackets (fuel p s) p s = some true := law_ok p s ok1 _ (Nat.le_refl _)
end Go.Proofs.YtjbgahmcobcojaaDoor.PLinePackets
