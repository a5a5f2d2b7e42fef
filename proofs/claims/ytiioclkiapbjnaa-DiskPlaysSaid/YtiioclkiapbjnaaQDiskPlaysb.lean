/- What DiskPlays leans on, part 2. No condition. -/
import Derived.Test.YtiioclkiapbjnaaQDiskPlaysa
import Derived.Test.YtiioclkiapbjnaaChecked
namespace Go.Proofs.Ytiioclkiapbjnaa
open Go.RowKit Go.Maps Go.Sort Go.Shelf Ytiioclkiapbjnaa.En
set_option linter.unusedVariables false
set_option linter.unusedSimpArgs false
abbrev MStr := List (List UInt8 × List UInt8)
abbrev oMS (g : Nat) (l : MStr) : Own := oMapK Try.prog 9 g str str l
theorem f_maps_Clone_SS_ok (gm : Nat) (l : MStr) : FnOk Try.prog 59 [(.map (some gm))] [] [oMS gm l] (fun g : Nat => { val := .map (some g), own := [oMS gm l, oMS g l] }) := by
  intro w Z hZ hnd hX hpre hoin
  obtain ⟨es, clock, hh, he, hn, hk, hst⟩ := hoin _ (.head _)
  have hlt : gm < w.heap.size := (Array.getElem?_eq_some_iff.1 hh).1
  refine (AnyW.maps_Clone Try.laysClone gm es clock w hh).mono fun e w' h9 => ?_
  obtain ⟨rfl, rfl⟩ := h9
  have hB : Below w.heap.size w (w.alloc (.map es clock)) := (Below.refl _ w).alloc (Nat.le_refl _) _
  refine ⟨w.heap.size, rfl, Bel.of hB, by simp [oMS, oMapK]; omega, fun b hb => ?_, fun Z' hZ' => ⟨fun o ho => ?_, fun f hf => by cases hf⟩⟩
  · simp only [oMS, oMapK, List.flatMap_cons, List.flatMap_nil, List.append_nil, List.mem_append, List.mem_singleton] at hb
    rcases hb with rfl | rfl
    · exact .inl (by simp [oMS, oMapK])
    · exact .inr (Nat.le_refl _)
  · simp only [List.mem_cons, List.not_mem_nil, or_false] at ho
    rcases ho with rfl | rfl
    · exact ⟨es, clock, (Below.heap_alloc _ _ gm hlt).trans hh, he, hn, hk, hst⟩
    · exact ⟨es, clock, (Go.MapKept.heap_alloc w _).1, he, hn, hk, hst⟩
theorem f_maps_Keys_SS_ok (gm : Nat) : FnOk Try.prog 63 [(.map (some gm))] [] [] (fun g : Nat => { val := .func (.func 79) #[] #[ptr g 0], own := [oBox g 51 [.map (some gm)]] }) := by
  intro w Z hZ hnd hX hpre hoin
  refine ((callsIn_wide (n := 5)).1 (AnyZ.keys_in Try.laysKeys Fence.wide 5 trivial rfl (some gm) w)).mono fun e w' h9 => ?_
  obtain ⟨rfl, rfl⟩ := h9
  have hB : Below w.heap.size w (w.alloc (.cells #[.map (some gm)] 51)) := (Below.refl _ w).alloc (Nat.le_refl _) _
  refine ⟨w.heap.size, rfl, Bel.of hB, by simp [oBox], fun b hb => .inr (by simp [oBox] at hb; omega), fun Z' hZ' => ⟨fun o ho => ?_, fun f hf => by cases hf⟩⟩
  rw [List.mem_singleton.1 ho]
  exact heap_alloc_new w _
theorem keys_eq : ∀ {es : List MapEntry} {l : MStr}, eMapK str str l es → ∀ (f : MapEntry → List UInt8), (∀ x ∈ es, x.key = str (f x)) → es.map f = l.map Prod.fst
  | [], [], _, _, _ => rfl
  | [], _ :: _, h, _, _ => by cases h
  | _ :: _, [], h, _, _ => by cases h
  | x :: es, y :: l, h, f, hf => by
    unfold eMapK at h
    rw [List.map_cons, List.map_cons] at h
    obtain ⟨h1, h2⟩ := List.cons.inj h
    have h3 := hf x (by simp)
    rw [List.map_cons, List.map_cons, keys_eq h2 f (fun z hz => hf z (by simp [hz]))]
    rw [str_inj (f x) y.1 (h3.symm.trans (Prod.mk.inj h1).1)]
theorem u_str {Z : Nat → Prop} {w : World} : ∀ (xs : List (List UInt8)), RepL tyStr Z w (xs.map encStr) xs
  | [] => rfl
  | x :: xs => ⟨[_], _, rfl, rfl, u_str xs⟩
def f_slices_Sorted_SS (l : MStr) : Option (List (List UInt8)) := req (l.length ≤ 8796093022208) (some ((l.map Prod.fst).mergeSort (fun x y => decide (x ≤ y))))
theorem keyOf_s {k : List UInt8} {t : Lit} (h : keyOf Try.prog 9 (str k) = some t) : t = .string k := by
  unfold keyOf str at h
  simp [Try.underlying9, mapKey] at h
  exact h.2.symm
set_option maxRecDepth 10000 in
theorem f_slices_Sorted_SS_ok (gm g : Nat) (l : MStr) {r : List (List UInt8)} (h : f_slices_Sorted_SS l = some r) : FnOk Try.prog 62 [(.func (.func 79) #[] #[ptr g 0])] [] [oBox g 51 [.map (some gm)], oMS gm l] (fun v : Value => { val := v, own := [oRow v 9 tyStr r, oMS gm l] }) := by
  unfold f_slices_Sorted_SS at h
  obtain ⟨hc, h⟩ := req_some h
  obtain rfl := Option.some.inj h
  intro w Z hZ hnd hX hpre hoin
  have hbx : w.heap[g]? = some (.cells #[.map (some gm)] 51) := hoin _ (.head _)
  obtain ⟨es, clock, hh, he, hn, hk, hst⟩ := hoin _ (.tail _ (.head _))
  have hlt : gm < w.heap.size := (Array.getElem?_eq_some_iff.1 hh).1
  have hgl : g < w.heap.size := (Array.getElem?_eq_some_iff.1 hbx).1
  have hes : es.size = l.length := by have := congrArg List.length he; simpa using this
  let R : Value → Option (DataW Unit × List MemPlace) := fun _ => some (.nil, [])
  have hrd : ∀ x ∈ es.toList, ∃ k : List UInt8, x.key = str k ∧ Go.WideElems.rd Try.prog 9 R x = some (.string k, .nil) := fun x hx => by
    obtain ⟨y, hy, hye⟩ := eMapK_keys he x hx
    obtain ⟨t, ht⟩ := hk y hy
    have hts := keyOf_s ht
    subst hts
    exact ⟨y.1, hye, by unfold Go.WideElems.rd; rw [hye, ht]; rfl⟩
  have hfit : Go.WideElems.Fit Try.prog 9 R es clock := ⟨by rw [hes]; show l.length ≤ 9223372036854775807; omega, hst, fun x hx => by obtain ⟨k, _, h2⟩ := hrd x hx; exact ⟨_, h2⟩⟩
  have hown : w.ownsMap Try.prog 9 R gm es.size (.map ((es.toList.map (Go.WideElems.rg Try.prog 9 R)).foldr DataW.insert [])) := ⟨es, clock, hh, hfit, Nat.le_refl _, rfl⟩
  have hsz : Maps.size (DataW.map (H := Unit) ((es.toList.map (Go.WideElems.rg Try.prog 9 R)).foldr DataW.insert [])) = l.length := by
    rw [size_eq]
    rw [(Go.WideShapes.sorted_perm _).length_eq, List.length_map, Array.length_toList, hes]
  have hkeys : (strKeys (DataW.map (H := Unit) ((es.toList.map (Go.WideElems.rg Try.prog 9 R)).foldr DataW.insert []))).Perm (l.map Prod.fst) := by
    show (List.map (fun p : Lit × DataW Unit => strOf p.1) _).Perm _
    refine ((Go.WideShapes.sorted_perm _).map _).trans ?_
    have e : (es.toList.map (Go.WideElems.rg Try.prog 9 R)).map (fun p => strOf p.1) = l.map Prod.fst := by
      rw [List.map_map]
      refine keys_eq he _ fun x hx => ?_
      obtain ⟨k, q1, q2⟩ := hrd x hx
      have q3 := Go.WideElems.rg_of q2
      rw [q1]
      have q4 : ((fun p : Lit × DataW Unit => strOf p.1) ∘ Go.WideElems.rg Try.prog 9 R) x = k := by rw [Function.comp_apply, q3]; rfl
      rw [q4]
    rw [e]
  have hseq : Go.SeqGives Fence.wide 2 Try.prog 79 #[.pointer (some ⟨g, 0, none⟩)] encStr (fun ss => ss.Perm (strKeys (DataW.map (H := Unit) ((es.toList.map (Go.WideElems.rg Try.prog 9 R)).foldr DataW.insert [])))) (Maps.size (DataW.map (H := Unit) ((es.toList.map (Go.WideElems.rg Try.prog 9 R)).foldr DataW.insert []))) w :=
    AnyZ.keys_gives (ρ := Try.laysKeys_ren) { Try.laysKeys with } Fence.wide _ trivial rfl (by omega) g gm es.size _ w hgl (by simp [World.cell?, hbx]) hown
  have hsorts : AnyZ.SortsIn Try.prog Try.laysSorted_ren Fence.wide 4 :=
    ⟨fun blk off cap ss W hH hblk hsz => callsIn_wide.2 (AnyM.slices_Sort_string Try.laysSortM blk off cap ss W hH hblk hsz), fun p cap W => callsIn_wide.2 (AnyM.slices_Sort_string_none Try.laysSortM p cap W)⟩
  have cS := AnyZ.sorted_in Try.laysSorted Fence.wide 5 trivial trivial trivial trivial rfl (by omega) hsorts (enters_of Try.func78 (by kernel_rfl) rfl) 79 #[.pointer (some ⟨g, 0, none⟩)] trivial (enters_of Try.func79 (by kernel_rfl) rfl) _ _ (by rw [hsz]; show l.length ≤ 9223372036854775807; omega) (by rw [hsz]; omega) w hseq
  refine (callsIn_wide.1 cS).mono fun e w' h9 => ?_
  obtain ⟨v, ss, rfl, hS, hrow, hnil, hb⟩ := h9
  have hms : ss.mergeSort (fun x y => decide (x ≤ y)) = (l.map Prod.fst).mergeSort (fun x y => decide (x ≤ y)) := mergeSort_of_perm (hS.trans hkeys)
  rw [hms] at hrow
  have hlen : ss.length = ((l.map Prod.fst).mergeSort (fun x y => decide (x ≤ y))).length := by rw [List.length_mergeSort, (hS.trans hkeys).length_eq]
  have hgg : g ≠ gm := by
    intro e0
    subst e0
    rw [hbx] at hh; cases hh
  have hblk : ∀ b, b ∈ (oRow v 9 tyStr ((l.map Prod.fst).mergeSort (fun x y => decide (x ≤ y)))).blk → w.heap.size ≤ b := fun b hb' => by
    rcases hrow.2 with ⟨rfl, _⟩ | ⟨gb, cap, cur, rfl, hle, _⟩
    · simp [oRow, Value.ownBlock] at hb'
    · simp [oRow, Value.ownBlock] at hb'
      omega
  refine ⟨v, rfl, Bel.of hb, ?_, fun b hb' => ?_, fun Z' hZ' => ⟨fun o ho => ?_, fun f hf => by cases hf⟩⟩
  · rw [List.flatMap_cons, List.flatMap_cons, List.flatMap_nil, List.append_nil, List.nodup_append]
    refine ⟨?_, by simp [oMS, oMapK], fun a ha b hb' => ?_⟩
    · show (Option.toList _).Nodup
      cases v.ownBlock <;> simp
    · have h1 := hblk a ha
      have h2 : b = gm := by simpa [oMS, oMapK] using hb'
      omega
  · rw [List.flatMap_cons, List.flatMap_cons, List.flatMap_nil, List.append_nil, List.mem_append] at hb'
    rcases hb' with hb' | hb'
    · exact .inr (hblk b hb')
    · exact .inl (by
        have h2 : b = gm := by simpa [oMS, oMapK] using hb'
        rw [h2]; simp [oMS, oMapK, oBox])
  · simp only [List.mem_cons, List.not_mem_nil, or_false] at ho
    rcases ho with rfl | rfl
    · refine ⟨_, ?_, u_str _⟩
      rw [← hlen]
      show w'.ownsRow 0 _ 1 _ _ _
      exact ownsRow_base_a hrow (Nat.zero_le _)
    · exact ⟨es, clock, (hb.block gm hlt).trans hh, he, hn, hk, hst⟩
end Go.Proofs.Ytiioclkiapbjnaa
namespace Go.Proofs.Ytiioclkiapbjnaa
open Go.RowKit Ytiioclkiapbjnaa.En
set_option linter.unusedVariables false
set_option linter.unusedSimpArgs false
open Go.Value (int bool)
structure S_lumref_File where
  Name : (List UInt8)
  Bytes : (List UInt8)
  deriving DecidableEq
def tyS_lumref_File : Ty S_lumref_File := tyVia (fun x => (x.Name, x.Bytes)) (tyPair tyStr tyStr)
theorem subS_lumref_File_0 : Sub tyS_lumref_File 0 tyStr (fun x => x.Name) := Sub.via (Sub.fst (Sub.whole _))
theorem flatS_lumref_File : FlatTy tyS_lumref_File := flat_via (flat_pair flat_enc flat_enc)
theorem encS_lumref_File {Z w cs} {x : S_lumref_File} (h : tyS_lumref_File.rep Z w cs x) : cs = [(str x.Name), (str x.Bytes)] := by
  obtain ⟨c0, d0, rfl, p0, q0⟩ := h
  rw [show _ = _ from p0]
  rw [show _ = _ from q0]
  rfl
theorem mkS_lumref_File {Z w cs} {x : S_lumref_File} (h : cs = [(str x.Name), (str x.Bytes)]) : tyS_lumref_File.rep Z w cs x := by
  subst h
  exact ⟨_, _, (List.take_append_drop 1 _).symm, rfl, rfl⟩
structure S_api_Deed where
  Kind : Int
  Name : (List UInt8)
  Text : (List UInt8)
  N : Int
  Keep : (List Int)
  deriving DecidableEq
def tyS_api_Deed : Ty S_api_Deed := tyVia (fun x => (x.Kind, (x.Name, (x.Text, (x.N, x.Keep))))) (tyPair (tyInt .i64) (tyPair tyStr (tyPair tyStr (tyPair (tyInt .i64) (tyList (tyInt .i64))))))
theorem encnS_api_Deed {cs} {x : S_api_Deed} : ∀ Z w, (fDat tyS_api_Deed cs x).p Z w → ∃ j : Value, cs = [(int .i64 x.Kind), (str x.Name), (str x.Text), (int .i64 x.N), j] ∧ ∀ g ∈ [(fDat (tyList (tyInt .i64)) [j] x.Keep)], g.p Z w := by
  intro Z w h
  obtain ⟨c0, d0, rfl, p0, q0⟩ := h
  obtain ⟨c1, d1, rfl, p1, q1⟩ := q0
  obtain ⟨c2, d2, rfl, p2, q2⟩ := q1
  obtain ⟨c3, d3, rfl, p3, q3⟩ := q2
  obtain rfl : c0 = [(int .i64 x.Kind)] := p0
  obtain rfl : c1 = [(str x.Name)] := p1
  obtain rfl : c2 = [(str x.Text)] := p2
  obtain rfl : c3 = [(int .i64 x.N)] := p3
  obtain ⟨v4, rfl⟩ := one_of q3
  exact ⟨v4, rfl, (fall_cons q3 fall_nil)⟩
theorem mknS_api_Deed {Z w cs} {x : S_api_Deed} {v0 : Value} (hc : cs = [(int .i64 x.Kind), (str x.Name), (str x.Text), (int .i64 x.N), v0]) (h0 : (tyList (tyInt .i64)).rep Z w [v0] x.Keep) : tyS_api_Deed.rep Z w cs x := by
  subst hc
  exact ⟨_, _, (List.take_append_drop 1 _).symm, rfl, ⟨_, _, (List.take_append_drop 1 _).symm, rfl, ⟨_, _, (List.take_append_drop 1 _).symm, rfl, ⟨_, _, (List.take_append_drop 1 _).symm, rfl, h0⟩⟩⟩⟩
structure S_disk_write where
  name : (List UInt8)
  s : (List UInt8)
  deriving DecidableEq
structure S_disk_rename where
  from_ : (List UInt8)
  to_ : (List UInt8)
  deriving DecidableEq
structure S_disk_remove where
  name : (List UInt8)
  deriving DecidableEq
inductive I114 where
  | nil
  | t95 (x : S_disk_write)
  | t98 (x : S_disk_rename)
  | t105 (x : S_disk_remove)
  deriving DecidableEq
def encI114 : I114 → Value
  | .nil => Value.nilIface
  | .t95 x => Value.iface 95 (ag [(str x.name), (str x.s)])
  | .t98 x => Value.iface 98 (ag [(str x.from_), (str x.to_)])
  | .t105 x => Value.iface 105 (ag [(str x.name)])
def tyI114 : Ty I114 := tyEnc 1 (fun x => [encI114 x]) (fun _ => rfl) (fun x v hv => by rw [List.mem_singleton.1 hv]; cases x <;> rfl)
theorem me95 : methOf Try.prog 95 "lumberroom/disk.apply" = some 124 := by kernel_rfl
theorem me98 : methOf Try.prog 98 "lumberroom/disk.apply" = some 125 := by kernel_rfl
theorem me105 : methOf Try.prog 105 "lumberroom/disk.apply" = some 126 := by kernel_rfl
structure D_disk_Disk where
  room : Int
  files : (List ((List UInt8) × (List UInt8)))
  durable : (List ((List UInt8) × (List UInt8)))
  changes : (List I114)
  fused : Bool
  left : Int
  deriving DecidableEq
structure D_lumref_Disk where
  Room : Int
  Seen : (List S_lumref_File)
  Safe : (List S_lumref_File)
  Ops : (List S_api_Deed)
  Left : Int
  deriving DecidableEq
theorem sz3 : szOf Try.prog 3 = some 1 := by kernel_rfl
theorem sz4 : szOf Try.prog 4 = some 1 := by kernel_rfl
theorem sz9 : szOf Try.prog 9 = some 1 := by kernel_rfl
theorem to9 : tyOf Try.prog 9 = some (1, 16, some (str ([] : List UInt8))) := by kernel_rfl
theorem sz22 : szOf Try.prog 22 = some 1 := by kernel_rfl
theorem sz30 : szOf Try.prog 30 = some 1 := by kernel_rfl
theorem sz32 : szOf Try.prog 32 = some 5 := by kernel_rfl
theorem to32 : tyOf Try.prog 32 = some (5, 72, some (ag [(int .i64 (0 : Int)), (str ([] : List UInt8)), (str ([] : List UInt8)), (int .i64 (0 : Int)), (Value.slice none 0 0)])) := by kernel_rfl
theorem sz51 : szOf Try.prog 51 = some 1 := by kernel_rfl
theorem sz52 : szOf Try.prog 52 = some 1 := by kernel_rfl
theorem sz55 : szOf Try.prog 55 = some 1 := by kernel_rfl
theorem sz101 : szOf Try.prog 101 = some 2 := by kernel_rfl
theorem to101 : tyOf Try.prog 101 = some (2, 32, some (ag [(str ([] : List UInt8)), (str ([] : List UInt8))])) := by kernel_rfl
theorem sz114 : szOf Try.prog 114 = some 1 := by kernel_rfl
theorem to114 : tyOf Try.prog 114 = some (1, 16, some Value.nilIface) := by kernel_rfl
theorem mixed : Try.prog.follows .mixedOrders = true := by kernel_rfl
theorem kd9 : Go.Maps.Keyed Try.prog 9 := Go.Maps.string_keyed Try.underlying9
def okS_api_Deed (x : S_api_Deed) : Prop := ((Lit.int .i64 x.Kind).wf = true) ∧ (x.Name.length ≤ 9223372036854775807) ∧ (x.Text.length ≤ 9223372036854775807) ∧ ((Lit.int .i64 x.N).wf = true) ∧ (okL (fun y => (Lit.int .i64 y).wf = true) x.Keep)
set_option maxRecDepth 100000 in
theorem opnS_api_Deed {H : Type} : Opn H Try.prog 32 tyS_api_Deed okS_api_Deed := opn_struct (fun x => (x.Kind, (x.Name, (x.Text, (x.N, x.Keep))))) (fun y => S_api_Deed.mk y.1 y.2.1 y.2.2.1 y.2.2.2.1 y.2.2.2.2) (fun _ => rfl) Try.underlying32 sz32 (fields_cons sz3 (opn_int Try.underlying3) (fields_cons sz9 (opn_str Try.underlying9) (fields_cons sz9 (opn_str Try.underlying9) (fields_cons sz3 (opn_int Try.underlying3) (fields_one sz30 (opn_list Try.underlying30 sz3 rfl (opn_int Try.underlying3)))))))
def f_disk_New (fu : Nat) (a0 : Int) : Option ((Option D_disk_Disk) × Int) := (lt (fun (j1b9 : Bool) => (bif j1b9 then (some ((none : (Option D_disk_Disk)), (1 : Int))) else (some ((some (D_disk_Disk.mk a0 ([] : List ((List UInt8) × (List UInt8))) ([] : List ((List UInt8) × (List UInt8))) ([] : (List I114)) false (0 : Int))), (0 : Int))))) fun (kk2 : Bool → Option ((Option D_disk_Disk) × Int)) => (bif (decide (a0 < (0 : Int))) then (kk2 true) else (kk2 (decide (a0 > (1099511627776 : Int))))))
set_option maxHeartbeats 2000000 in
set_option maxRecDepth 100000 in
theorem f_disk_New_ok_none (fu : Nat) (a0 : Int) {r : ((Option D_disk_Disk) × Int)} {e : Int} (h : f_disk_New fu a0 = some r) (hr : r = (none, e)) : FnOk Try.prog 5 [(int .i64 a0)] [] [] (fun (i : Unit) => { val := (Value.tuple #[(Value.pointer none), (int .i64 e)]) }) := by
 unfold f_disk_New at h
 refine fn_enter Try.func5 rfl Try.ntmps5 rfl (fun w0 Z0 => ?_)
 refine aw_sr ?_
 refine as_ ?_
 refine an_ ?_
 refine aw_seq ?_
 obtain ⟨kk2, hkk2, h⟩ := lt_some h
 refine aw_seq_join (ι := Bool) (fun i => (memOf w0 Z0 [] [] [])) (fun i => (tab [(0, (iq a0)), (9, (bool i))])) (fun i => kk2 i = some r) ?_ ?_
 rintro j1b9 h
 have h : kk2 j1b9 = some r := h
 rw [hkk2] at h
 dsimp only at h
 clear hkk2
 refine aw_show (m := (memOf w0 Z0 [] [] [])) (S := _) ?_
 refine aw_cond rfl (fun hb3 => ?_) (fun hb3 => ?_)
 replace h := bif_t hb3 h
 refine aw_sr ?_
 refine as_ ?_
 refine an_ ?_
 refine aw_ret ?_
 refine aq_then_ret ?_
 cases h
 cases hr
 exact fr2_
 replace h := bif_f hb3 h
 refine aw_skip ?_
 refine aq_tr ?_
 refine mv_ ?_
 refine al_makeMapK (ν := (List UInt8)) 9 str str rfl (fun g4 => ?_)
 refine al_makeMapK (ν := (List UInt8)) 9 str str rfl (fun g5 => ?_)
 refine al_val (ov_build (cells := ([(iq a0), (Value.map (some g4)), (Value.map (some g5)), nS, (bool false), (iq (0 : Int))] : List Value).toArray) (cs := [(iq a0), (Value.map (some g4)), (Value.map (some g5)), nS, (bool false), (iq (0 : Int))]) rfl (fun w a hm hs => by simp only [List.map_toArray, List.map_cons, List.map_nil, List.toList_toArray, hs.ev (x := .tmp 10) rfl, hs.ev (x := .tmp 11) rfl, hs.ev (x := .tmp 12) rfl]; kernel_rfl)) ?_
 refine al_box (vs := [(iq a0), (Value.map (some g4)), (Value.map (some g5)), nS, (bool false), (iq (0 : Int))]) rfl (cv_rfl rfl) rfl (fun g6 => ?_)
 refine as_ ?_
 refine an_ ?_
 refine aw_ret ?_
 cases h
 cases hr
 clear hkk2
 refine aw_region ?_
 refine mv_ ?_
 refine in_ ?_
 refine mv_ ?_
 refine al_caseB 6 rfl (fun hb7 => ?_) (fun hb7 => ?_)
 replace h := bif_t hb7 h
 refine al_skip ?_
 refine al_skip ?_
 refine al_val (ov_pick_t rfl rfl rfl) ?_
 refine al_nil ?_
 exact aq_join true h (nm_ [] [] (by decide) ⟨rfl, rfl, trivial⟩)
 replace h := bif_f hb7 h
 refine mv_ ?_
 refine in_ ?_
 refine al_val (ov_pick_f rfl rfl rfl) ?_
 refine al_nil ?_
 exact aq_join (decide (a0 > (1099511627776 : Int))) h (nm_ [] [] (by decide) ⟨rfl, rfl, trivial⟩)
set_option maxHeartbeats 2000000 in
set_option maxRecDepth 100000 in
theorem f_disk_New_ok_some (fu : Nat) (a0 : Int) {r : ((Option D_disk_Disk) × Int)} {x : D_disk_Disk} {e : Int} (h : f_disk_New fu a0 = some r) (hr : r = (some x, e)) : FnOk Try.prog 5 [(int .i64 a0)] [] [] (fun (i : Nat × Nat × Nat × Value) => { val := (Value.tuple #[(ptr i.1 0), (int .i64 e)]), own := [(oBox i.1 54 [(int .i64 x.room), (Value.map (some i.2.1)), (Value.map (some i.2.2.1)), i.2.2.2, (bool x.fused), (int .i64 x.left)]), (oMapK Try.prog 9 i.2.1 str str x.files), (oMapK Try.prog 9 i.2.2.1 str str x.durable), (oRow i.2.2.2 114 tyI114 x.changes)] }) := by
 unfold f_disk_New at h
 refine fn_enter Try.func5 rfl Try.ntmps5 rfl (fun w0 Z0 => ?_)
 refine aw_sr ?_
 refine as_ ?_
 refine an_ ?_
 refine aw_seq ?_
 obtain ⟨kk2, hkk2, h⟩ := lt_some h
 refine aw_seq_join (ι := Bool) (fun i => (memOf w0 Z0 [] [] [])) (fun i => (tab [(0, (iq a0)), (9, (bool i))])) (fun i => kk2 i = some r) ?_ ?_
 rintro j1b9 h
 have h : kk2 j1b9 = some r := h
 rw [hkk2] at h
 dsimp only at h
 clear hkk2
 refine aw_show (m := (memOf w0 Z0 [] [] [])) (S := _) ?_
 refine aw_cond rfl (fun hb3 => ?_) (fun hb3 => ?_)
 replace h := bif_t hb3 h
 refine aw_sr ?_
 refine as_ ?_
 refine an_ ?_
 refine aw_ret ?_
 refine aq_then_ret ?_
 cases h
 cases hr
 replace h := bif_f hb3 h
 refine aw_skip ?_
 refine aq_tr ?_
 refine mv_ ?_
 refine al_makeMapK (ν := (List UInt8)) 9 str str rfl (fun g4 => ?_)
 refine al_makeMapK (ν := (List UInt8)) 9 str str rfl (fun g5 => ?_)
 refine al_val (ov_build (cells := ([(iq a0), (Value.map (some g4)), (Value.map (some g5)), nS, (bool false), (iq (0 : Int))] : List Value).toArray) (cs := [(iq a0), (Value.map (some g4)), (Value.map (some g5)), nS, (bool false), (iq (0 : Int))]) rfl (fun w a hm hs => by simp only [List.map_toArray, List.map_cons, List.map_nil, List.toList_toArray, hs.ev (x := .tmp 10) rfl, hs.ev (x := .tmp 11) rfl, hs.ev (x := .tmp 12) rfl]; kernel_rfl)) ?_
 refine al_box (vs := [(iq a0), (Value.map (some g4)), (Value.map (some g5)), nS, (bool false), (iq (0 : Int))]) rfl (cv_rfl rfl) rfl (fun g6 => ?_)
 refine as_ ?_
 refine an_ ?_
 refine aw_ret ?_
 refine aq_nilR 114 tyI114 ?_
 cases h
 cases hr
 exact fn_ret (g6, g4, g5, nS) [1, 3, 2, 0] [] rfl rfl rfl rfl (res2 rfl rfl rfl) rfl rfl rfl (by decide)
 clear hkk2
 refine aw_region ?_
 refine mv_ ?_
 refine in_ ?_
 refine mv_ ?_
 refine al_caseB 6 rfl (fun hb7 => ?_) (fun hb7 => ?_)
 replace h := bif_t hb7 h
 refine al_skip ?_
 refine al_skip ?_
 refine al_val (ov_pick_t rfl rfl rfl) ?_
 refine al_nil ?_
 exact aq_join true h (nm_ [] [] (by decide) ⟨rfl, rfl, trivial⟩)
 replace h := bif_f hb7 h
 refine mv_ ?_
 refine in_ ?_
 refine al_val (ov_pick_f rfl rfl rfl) ?_
 refine al_nil ?_
 exact aq_join (decide (a0 > (1099511627776 : Int))) h (nm_ [] [] (by decide) ⟨rfl, rfl, trivial⟩)
def f_lumref_NewDisk (fu : Nat) (a0 : Int) : Option ((Option D_lumref_Disk) × Int) := (lt (fun (j1b9 : Bool) => (bif j1b9 then (some ((none : (Option D_lumref_Disk)), (1 : Int))) else (some ((some (D_lumref_Disk.mk a0 ([] : (List S_lumref_File)) ([] : (List S_lumref_File)) ([] : (List S_api_Deed)) (-1 : Int))), (0 : Int))))) fun (kk2 : Bool → Option ((Option D_lumref_Disk) × Int)) => (bif (decide (a0 < (0 : Int))) then (kk2 true) else (kk2 (decide (a0 > (1099511627776 : Int))))))
set_option maxHeartbeats 2000000 in
set_option maxRecDepth 100000 in
theorem f_lumref_NewDisk_ok_none (fu : Nat) (a0 : Int) {r : ((Option D_lumref_Disk) × Int)} {e : Int} (h : f_lumref_NewDisk fu a0 = some r) (hr : r = (none, e)) : FnOk Try.prog 6 [(int .i64 a0)] [] [] (fun (i : Unit) => { val := (Value.tuple #[(Value.pointer none), (int .i64 e)]) }) := by
 unfold f_lumref_NewDisk at h
 refine fn_enter Try.func6 rfl Try.ntmps6 rfl (fun w0 Z0 => ?_)
 refine aw_sr ?_
 refine as_ ?_
 refine an_ ?_
 refine aw_seq ?_
 obtain ⟨kk2, hkk2, h⟩ := lt_some h
 refine aw_seq_join (ι := Bool) (fun i => (memOf w0 Z0 [] [] [])) (fun i => (tab [(0, (iq a0)), (9, (bool i))])) (fun i => kk2 i = some r) ?_ ?_
 rintro j1b9 h
 have h : kk2 j1b9 = some r := h
 rw [hkk2] at h
 dsimp only at h
 clear hkk2
 refine aw_show (m := (memOf w0 Z0 [] [] [])) (S := _) ?_
 refine aw_cond rfl (fun hb3 => ?_) (fun hb3 => ?_)
 replace h := bif_t hb3 h
 refine aw_sr ?_
 refine as_ ?_
 refine an_ ?_
 refine aw_ret ?_
 refine aq_then_ret ?_
 cases h
 cases hr
 exact fr2_
 replace h := bif_f hb3 h
 refine aw_skip ?_
 refine aq_tr ?_
 refine mv_ ?_
 refine al_val (ov_build (cells := ([(iq a0), nS, nS, nS, (iq (-1 : Int))] : List Value).toArray) (cs := [(iq a0), nS, nS, nS, (iq (-1 : Int))]) rfl (fun w a hm hs => by simp only [List.map_toArray, List.map_cons, List.map_nil, List.toList_toArray, hs.ev (x := .tmp 10) rfl, hs.ev (x := .const (iq (-1 : Int))) rfl]; kernel_rfl)) ?_
 refine al_box (vs := [(iq a0), nS, nS, nS, (iq (-1 : Int))]) rfl (cv_rfl rfl) rfl (fun g4 => ?_)
 refine as_ ?_
 refine an_ ?_
 refine aw_ret ?_
 cases h
 cases hr
 clear hkk2
 refine aw_region ?_
 refine mv_ ?_
 refine in_ ?_
 refine mv_ ?_
 refine al_caseB 6 rfl (fun hb5 => ?_) (fun hb5 => ?_)
 replace h := bif_t hb5 h
 refine al_skip ?_
 refine al_skip ?_
 refine al_val (ov_pick_t rfl rfl rfl) ?_
 refine al_nil ?_
 exact aq_join true h (nm_ [] [] (by decide) ⟨rfl, rfl, trivial⟩)
 replace h := bif_f hb5 h
 refine mv_ ?_
 refine in_ ?_
 refine al_val (ov_pick_f rfl rfl rfl) ?_
 refine al_nil ?_
 exact aq_join (decide (a0 > (1099511627776 : Int))) h (nm_ [] [] (by decide) ⟨rfl, rfl, trivial⟩)
set_option maxHeartbeats 2000000 in
set_option maxRecDepth 100000 in
theorem f_lumref_NewDisk_ok_some (fu : Nat) (a0 : Int) {r : ((Option D_lumref_Disk) × Int)} {x : D_lumref_Disk} {e : Int} (h : f_lumref_NewDisk fu a0 = some r) (hr : r = (some x, e)) : FnOk Try.prog 6 [(int .i64 a0)] [] [] (fun (i : Nat × Value × Value × Value) => { val := (Value.tuple #[(ptr i.1 0), (int .i64 e)]), own := [(oBox i.1 57 [(int .i64 x.Room), i.2.1, i.2.2.1, i.2.2.2, (int .i64 x.Left)]), (oRow i.2.2.2 32 tyS_api_Deed x.Ops)], fz := [(fDat (tyList tyS_lumref_File) [i.2.1] x.Seen), (fDat (tyList tyS_lumref_File) [i.2.2.1] x.Safe)] }) := by
 unfold f_lumref_NewDisk at h
 refine fn_enter Try.func6 rfl Try.ntmps6 rfl (fun w0 Z0 => ?_)
 refine aw_sr ?_
 refine as_ ?_
 refine an_ ?_
 refine aw_seq ?_
 obtain ⟨kk2, hkk2, h⟩ := lt_some h
 refine aw_seq_join (ι := Bool) (fun i => (memOf w0 Z0 [] [] [])) (fun i => (tab [(0, (iq a0)), (9, (bool i))])) (fun i => kk2 i = some r) ?_ ?_
 rintro j1b9 h
 have h : kk2 j1b9 = some r := h
 rw [hkk2] at h
 dsimp only at h
 clear hkk2
 refine aw_show (m := (memOf w0 Z0 [] [] [])) (S := _) ?_
 refine aw_cond rfl (fun hb3 => ?_) (fun hb3 => ?_)
 replace h := bif_t hb3 h
 refine aw_sr ?_
 refine as_ ?_
 refine an_ ?_
 refine aw_ret ?_
 refine aq_then_ret ?_
 cases h
 cases hr
 replace h := bif_f hb3 h
 refine aw_skip ?_
 refine aq_tr ?_
 refine mv_ ?_
 refine al_val (ov_build (cells := ([(iq a0), nS, nS, nS, (iq (-1 : Int))] : List Value).toArray) (cs := [(iq a0), nS, nS, nS, (iq (-1 : Int))]) rfl (fun w a hm hs => by simp only [List.map_toArray, List.map_cons, List.map_nil, List.toList_toArray, hs.ev (x := .tmp 10) rfl, hs.ev (x := .const (iq (-1 : Int))) rfl]; kernel_rfl)) ?_
 refine al_box (vs := [(iq a0), nS, nS, nS, (iq (-1 : Int))]) rfl (cv_rfl rfl) rfl (fun g4 => ?_)
 refine as_ ?_
 refine an_ ?_
 refine aw_ret ?_
 refine aq_nilD tyS_lumref_File ?_
 refine aq_nilR 32 tyS_api_Deed ?_
 cases h
 cases hr
 exact fn_ret (g4, nS, nS, nS) [1, 0] [0, 0] rfl rfl rfl rfl (res2 rfl rfl rfl) rfl rfl rfl (by decide)
 clear hkk2
 refine aw_region ?_
 refine mv_ ?_
 refine in_ ?_
 refine mv_ ?_
 refine al_caseB 6 rfl (fun hb5 => ?_) (fun hb5 => ?_)
 replace h := bif_t hb5 h
 refine al_skip ?_
 refine al_skip ?_
 refine al_val (ov_pick_t rfl rfl rfl) ?_
 refine al_nil ?_
 exact aq_join true h (nm_ [] [] (by decide) ⟨rfl, rfl, trivial⟩)
 replace h := bif_f hb5 h
 refine mv_ ?_
 refine in_ ?_
 refine al_val (ov_pick_f rfl rfl rfl) ?_
 refine al_nil ?_
 exact aq_join (decide (a0 > (1099511627776 : Int))) h (nm_ [] [] (by decide) ⟨rfl, rfl, trivial⟩)
 -- STUCK (*lumberroom/disk.Disk).down: lty ['pointer', 54]
 -- STUCK (*lumberroom/disk.Disk).begin: lty ['pointer', 54]
def f_disk_right (fu : Nat) (a0 : (List UInt8)) : Option Bool := (lt (fun (j1b2 : Bool) => (some j1b2)) fun (kk2 : Bool → Option Bool) => (bif (decide ((a0.length : Int) ≥ (1 : Int))) then (kk2 (decide ((a0.length : Int) ≤ (24 : Int)))) else (kk2 false)))
set_option maxHeartbeats 2000000 in
set_option maxRecDepth 100000 in
theorem f_disk_right_ok (fu : Nat) (a0 : (List UInt8)) {r : Bool} (h : f_disk_right fu a0 = some r) : FnOk Try.prog 53 [(str a0)] [] [] (fun (i : Unit) => { val := (bool r) }) := by
 unfold f_disk_right at h
 refine fn_enter Try.func53 rfl Try.ntmps53 rfl (fun w0 Z0 => ?_)
 refine aw_sr ?_
 refine an_ ?_
 obtain ⟨kk2, hkk2, h⟩ := lt_some h
 refine aw_seq_join (ι := Bool) (fun i => (memOf w0 Z0 [] [] [])) (fun i => (tab [(2, (bool i))])) (fun i => kk2 i = some r) ?_ ?_
 rintro j1b2 h
 have h : kk2 j1b2 = some r := h
 rw [hkk2] at h
 dsimp only at h
 clear hkk2
 refine aw_show (m := (memOf w0 Z0 [] [] [])) (S := _) ?_
 refine aw_ret ?_
 cases h
 exact fr1_
 clear hkk2
 refine aw_region ?_
 refine mv_ ?_
 refine al_val (ov_strLen Try.underlying9 rfl rfl) ?_
 refine in_ ?_
 refine mv_ ?_
 refine al_caseB 6 rfl (fun hb3 => ?_) (fun hb3 => ?_)
 replace h := bif_t hb3 h
 refine mv_ ?_
 refine al_val (ov_strLen Try.underlying9 rfl rfl) ?_
 refine in_ ?_
 refine al_val (ov_pick_t rfl rfl rfl) ?_
 refine as_ ?_
 refine al_nil ?_
 exact aq_join (decide ((a0.length : Int) ≤ (24 : Int))) h (nm_ [] [] (by decide) ⟨rfl, trivial⟩)
 replace h := bif_f hb3 h
 iterate 3 refine al_skip ?_
 refine al_val (ov_pick_f rfl rfl rfl) ?_
 refine as_ ?_
 refine al_nil ?_
 exact aq_join false h (nm_ [] [] (by decide) ⟨rfl, trivial⟩)
 -- STUCK (*lumberroom/disk.Disk).do: lty ['pointer', 54]
 -- STUCK (*lumberroom/disk.Disk).Write: lty ['pointer', 54]
def f_lumref_fileErr (fu : Nat) (a0 : (List UInt8)) : Option Int := (lt (fun (j1b9 : Bool) => (bif j1b9 then (some (8 : Int)) else (some (0 : Int)))) fun (kk2 : Bool → Option Int) => (bif (a0 == ([] : List UInt8)) then (kk2 true) else (kk2 (decide ((a0.length : Int) > (24 : Int))))))
set_option maxHeartbeats 2000000 in
set_option maxRecDepth 100000 in
theorem f_lumref_fileErr_ok (fu : Nat) (a0 : (List UInt8)) {r : Int} (h : f_lumref_fileErr fu a0 = some r) : FnOk Try.prog 55 [(str a0)] [] [] (fun (i : Unit) => { val := (int .i64 r) }) := by
 unfold f_lumref_fileErr at h
 refine fn_enter Try.func55 rfl Try.ntmps55 rfl (fun w0 Z0 => ?_)
 refine aw_sr ?_
 refine an_ ?_
 refine aw_seq ?_
 obtain ⟨kk2, hkk2, h⟩ := lt_some h
 refine aw_seq_join (ι := Bool) (fun i => (memOf w0 Z0 [] [] [])) (fun i => (tab [(9, (bool i))])) (fun i => kk2 i = some r) ?_ ?_
 rintro j1b9 h
 have h : kk2 j1b9 = some r := h
 rw [hkk2] at h
 dsimp only at h
 clear hkk2
 refine aw_show (m := (memOf w0 Z0 [] [] [])) (S := _) ?_
 refine aw_cond rfl (fun hb3 => ?_) (fun hb3 => ?_)
 replace h := bif_t hb3 h
 refine aw_sr ?_
 refine an_ ?_
 refine aw_ret ?_
 refine aq_then_ret ?_
 cases h
 exact fr1_
 replace h := bif_f hb3 h
 refine aw_skip ?_
 refine aq_tr ?_
 refine an_ ?_
 refine aw_ret ?_
 cases h
 exact fr1_
 clear hkk2
 refine aw_region ?_
 refine mv_ ?_
 refine al_val (ov_strCmp rfl rfl rfl rfl) ?_
 refine mv_ ?_
 refine al_caseB 5 rfl (fun hb4 => ?_) (fun hb4 => ?_)
 replace h := bif_t hb4 h
 iterate 3 refine al_skip ?_
 refine al_val (ov_pick_t rfl rfl rfl) ?_
 refine al_nil ?_
 exact aq_join true h (nm_ [] [] (by decide) ⟨rfl, trivial⟩)
 replace h := bif_f hb4 h
 refine mv_ ?_
 refine al_val (ov_strLen Try.underlying9 rfl rfl) ?_
 refine in_ ?_
 refine al_val (ov_pick_f rfl rfl rfl) ?_
 refine al_nil ?_
 exact aq_join (decide ((a0.length : Int) > (24 : Int))) h (nm_ [] [] (by decide) ⟨rfl, trivial⟩)
def f_lumref_gone_L5 (a0 : (List S_lumref_File)) (a1 : (List UInt8)) (kk2 : ((List S_lumref_File) → Option (List S_lumref_File))) : Nat → (List S_lumref_File) → Int → Option (List S_lumref_File)
  | 0, _, _ => none
  | k4 + 1, l3x5, l3i10 => (bif (decide (l3i10 < (a0.length : Int))) then (lt (fun (j7x5 : (List S_lumref_File)) => (f_lumref_gone_L5 a0 a1 kk2 k4 j7x5 (IntKind.i64.wrap (l3i10 + (1 : Int))))) fun (kk8 : (List S_lumref_File) → Option (List S_lumref_File)) => (opt (at? a0 l3i10) fun (u9 : S_lumref_File) => (bif (!(u9.Name == a1)) then (req (((l3x5.length + ([u9]).length) * 32 : Nat) ≤ 140737488355328 ∧ l3x5.length + ([u9]).length ≤ 9223372036854775807) (kk8 (l3x5 ++ ([u9])))) else (kk8 l3x5)))) else (kk2 l3x5))
def f_lumref_gone (fu : Nat) (a0 : (List S_lumref_File)) (a1 : (List UInt8)) : Option (List S_lumref_File) := (lt (fun (j1x5 : (List S_lumref_File)) => (some j1x5)) fun (kk2 : (List S_lumref_File) → Option (List S_lumref_File)) => (f_lumref_gone_L5 a0 a1 kk2 fu ([] : List S_lumref_File) (0 : Int)))
set_option maxHeartbeats 2000000 in
set_option maxRecDepth 100000 in
theorem f_lumref_gone_ok (fu : Nat) (v0_0 : Value) (a0 : (List S_lumref_File)) (a1 : (List UInt8)) {r : (List S_lumref_File)} (h : f_lumref_gone fu a0 a1 = some r) : FnOk Try.prog 56 [v0_0, (str a1)] [(fDat (tyList tyS_lumref_File) [v0_0] a0)] [] (fun (i : Value) => { val := i, own := [(oRow i 101 tyS_lumref_File r)] }) := by
 unfold f_lumref_gone at h
 refine fn_enter Try.func56 rfl Try.ntmps56 rfl (fun w0 Z0 => ?_)
 refine aw_sr ?_
 refine an_ ?_
 refine aw_sr ?_
 refine an_ ?_
 obtain ⟨kk2, hkk2, h⟩ := lt_some h
 refine aw_seq_join (ι := Value × (List S_lumref_File)) (fun i => (memOf w0 Z0 [] [(oRow i.1 101 tyS_lumref_File i.2)] [(fDat (tyList tyS_lumref_File) [v0_0] a0)])) (fun i => (tab [(5, i.1)])) (fun i => kk2 i.2 = some r) ?_ ?_
 rintro ⟨j1v5, j1x5⟩ h
 have h : kk2 j1x5 = some r := h
 rw [hkk2] at h
 dsimp only at h
 clear hkk2
 refine aw_show (m := (memOf w0 Z0 [] [(oRow j1v5 101 tyS_lumref_File j1x5)] [(fDat (tyList tyS_lumref_File) [v0_0] a0)])) (S := _) ?_
 refine sm_ ?_
 refine an_ ?_
 refine aw_ret ?_
 cases h
 exact fn_ret j1v5 [0] [] rfl rfl rfl rfl (res1 rfl rfl) rfl rfl rfl (by decide)
 clear hkk2
 refine sm_ ?_
 refine al_val (ov_lenD 0 rfl rfl Try.underlying55 rfl) ?_
 refine mv_ ?_
 refine al_nt ?_
 refine aw_block ?_
 refine aw_nilR 101 tyS_lumref_File ?_
 refine aw_state (aw_loop (ι := Value × (List S_lumref_File) × Int) (fun i => (memOf w0 Z0 [] [(oRow i.1 101 tyS_lumref_File i.2.1)] [(fDat (tyList tyS_lumref_File) [v0_0] a0)])) (fun i => (tab [(1, (str a1)), (5, i.1), (8, v0_0), (9, (iq (a0.length : Int))), (10, (iq i.2.2))])) (fun q i => f_lumref_gone_L5 a0 a1 kk2 q i.2.1 i.2.2 = some r) ?_ fu (nS, ([] : List S_lumref_File), (0 : Int)) h) (nm_ [0] [0] (by decide) ⟨rfl, rfl, rfl, rfl, rfl, trivial⟩)
 clear h
 rintro k4 ⟨l3v5, l3x5, l3i10⟩ h
 have h : f_lumref_gone_L5 a0 a1 kk2 k4 l3x5 l3i10 = some r := h
 obtain _ | k4 := k4
 rw [f_lumref_gone_L5] at h; cases h
 rw [f_lumref_gone_L5] at h
 refine aw_show (m := (memOf w0 Z0 [] [(oRow l3v5 101 tyS_lumref_File l3x5)] [(fDat (tyList tyS_lumref_File) [v0_0] a0)])) (S := _) ?_
 refine aw_sr ?_
 refine im_ ?_
 refine aw_seq ?_
 refine aw_cond rfl (fun hb6 => ?_) (fun hb6 => ?_)
 replace h := bif_t hb6 h
 refine aw_skip ?_
 refine aq_then ?_
 obtain ⟨kk8, hkk8, h⟩ := lt_some h
 refine aw_seq_join (ι := Value × (List S_lumref_File)) (fun i => (memOf w0 Z0 [] [(oRow i.1 101 tyS_lumref_File i.2)] [(fDat (tyList tyS_lumref_File) [v0_0] a0)])) (fun i => (tab [(1, (str a1)), (5, i.1), (8, v0_0), (9, (iq (a0.length : Int))), (10, (iq l3i10))])) (fun i => kk8 i.2 = some r) ?_ ?_
 rintro ⟨j7v5, j7x5⟩ h
 have h : kk8 j7x5 = some r := h
 rw [hkk8] at h
 dsimp only at h
 clear hkk8
 refine aw_show (m := (memOf w0 Z0 [] [(oRow j7v5 101 tyS_lumref_File j7x5)] [(fDat (tyList tyS_lumref_File) [v0_0] a0)])) (S := _) ?_
 refine aw_region ?_
 refine in_ ?_
 refine mv_ ?_
 refine al_nil ?_
 exact aq_again k4 (j7v5, j7x5, (wq (l3i10 + (1 : Int)))) (Nat.lt_succ_self _) h (nm_ [0] [0] (by decide) ⟨rfl, rfl, rfl, rfl, rfl, trivial⟩)
 clear hkk8
 refine aw_block ?_
 refine aw_sr ?_
 obtain ⟨u9, hu10, h⟩ := opt_some h
 refine al_idxD 0 hu10 rfl rfl rfl Try.underlying55 sz101 rfl (fun p11 => ?_)
 refine al_val (ov_loadP (ds := [(str u9.Name), (str u9.Bytes)]) 0 rfl encS_lumref_File rfl Try.underlying101 sz101 rfl rfl rfl) ?_
 refine al_alloc (zs := [(str ([] : List UInt8)), (str ([] : List UInt8))]) (zeroOf_to to101) rfl rfl (fun g12 => ?_)
 refine al_store (i := 0) (vs := [(str u9.Name), (str u9.Bytes)]) (cs' := [(str u9.Name), (str u9.Bytes)]) rfl rfl rfl sz101 (cv_rfl rfl) rfl (co_val rfl (co_val rfl co_nil)) (Nat.le_of_ble_eq_true rfl) rfl rfl ?_
 refine al_nt ?_
 refine aw_sr ?_
 refine al_val (ov_fieldA (p := 0) rfl Try.underlying101 rfl sz9 rfl rfl rfl) ?_
 refine al_val (ov_load (i := 0) (v := (str u9.Name)) rfl rfl Try.underlying9 sz9 rfl rfl rfl rfl) ?_
 refine mv_ ?_
 refine al_val (ov_strCmp rfl rfl rfl rfl) ?_
 refine al_nt ?_
 refine aw_cond rfl (fun hb13 => ?_) (fun hb13 => ?_)
 replace h := bif_t hb13 h
 refine aw_region ?_
 refine mv_ ?_
 refine al_val (ov_load (i := 0) (v := (ag [(str u9.Name), (str u9.Bytes)])) rfl rfl Try.underlying101 sz101 rfl rfl rfl rfl) ?_
 refine al_buildSlice (τ := tyS_lumref_File) (e := 101) (k := 1) (sz := 0) (by_ := 0) (z := undef) (cs := [(str u9.Name), (str u9.Bytes)]) (xs := [u9]) rfl (by decide) (fun w a hm hs => ⟨([(str u9.Name), (str u9.Bytes)]).toArray, rfl, by simp only [List.map_toArray, List.map_cons, List.map_nil, hs.ev (x := .tmp 19) rfl]; exact run_bs [(ag [(str u9.Name), (str u9.Bytes)])] [(str u9.Name), (str u9.Bytes)] Try.underlying55 to101 rfl rfl (bs_cons (l := [(str u9.Name), (str u9.Bytes)]) (cs := []) (cv_rfl rfl) rfl bs_nil) hm⟩) (fun hm => ⟨_, _, rfl, (fun _ => mkS_lumref_File rfl) hm, rfl⟩) rfl (fun v14 => ?_)
 obtain ⟨hc15, h⟩ := req_some h
 refine al_append 2 hc15.1 hc15.2 rfl (src_own (i := 2) 0 rfl) rfl rfl Try.underlying55 to101 rfl rfl rfl (fun v16 => ?_)
 refine as_ ?_
 refine al_nil ?_
 refine aq_block ?_
 exact aq_join (v16, (l3x5 ++ ([u9]))) h (nm_ [2] [1] (by decide) ⟨rfl, rfl, rfl, rfl, rfl, trivial⟩)
 replace h := bif_f hb13 h
 refine aw_skip ?_
 refine aq_block ?_
 exact aq_join (l3v5, l3x5) h (nm_ [1] [1] (by decide) ⟨rfl, rfl, rfl, rfl, rfl, trivial⟩)
 replace h := bif_f hb6 h
 refine aw_exit ?_
 refine aq_then_exit ?_
 refine aq_then_exit ?_
 refine aq_block_exit ?_
 exact aq_join (l3v5, l3x5) h (nm_ [0] [0] (by decide) ⟨rfl, trivial⟩)
def f_lumref_look_L5 (a0 : (List S_lumref_File)) (a1 : (List UInt8)) (kk2 : (Unit → Option ((List UInt8) × Bool))) : Nat → Int → Option ((List UInt8) × Bool)
  | 0, _ => none
  | k4 + 1, l3i10 => (bif (decide (l3i10 < (a0.length : Int))) then (opt (at? a0 l3i10) fun (u7 : S_lumref_File) => (bif (u7.Name == a1) then (some (u7.Bytes, true)) else (f_lumref_look_L5 a0 a1 kk2 k4 (IntKind.i64.wrap (l3i10 + (1 : Int)))))) else (kk2 ()))
def f_lumref_look (fu : Nat) (a0 : (List S_lumref_File)) (a1 : (List UInt8)) : Option ((List UInt8) × Bool) := (lt (fun (_ : Unit) => (some (([] : List UInt8), false))) fun (kk2 : Unit → Option ((List UInt8) × Bool)) => (f_lumref_look_L5 a0 a1 kk2 fu (0 : Int)))
set_option maxHeartbeats 2000000 in
set_option maxRecDepth 100000 in
theorem f_lumref_look_ok (fu : Nat) (v0_0 : Value) (a0 : (List S_lumref_File)) (a1 : (List UInt8)) {r : ((List UInt8) × Bool)} (h : f_lumref_look fu a0 a1 = some r) : FnOk Try.prog 57 [v0_0, (str a1)] [(fDat (tyList tyS_lumref_File) [v0_0] a0)] [] (fun (i : Unit) => { val := (Value.tuple #[(str r.1), (bool r.2)]) }) := by
 unfold f_lumref_look at h
 refine fn_enter Try.func57 rfl Try.ntmps57 rfl (fun w0 Z0 => ?_)
 refine aw_sr ?_
 refine as_ ?_
 refine an_ ?_
 obtain ⟨kk2, hkk2, h⟩ := lt_some h
 refine aw_seq_join (ι := Unit) (fun i => (memOf w0 Z0 [] [] [(fDat (tyList tyS_lumref_File) [v0_0] a0)])) (fun i => (tab [])) (fun i => kk2 () = some r) ?_ ?_
 rintro _ h
 have h : kk2 () = some r := h
 rw [hkk2] at h
 dsimp only at h
 clear hkk2
 refine aw_show (m := (memOf w0 Z0 [] [] [(fDat (tyList tyS_lumref_File) [v0_0] a0)])) (S := _) ?_
 refine aw_sr ?_
 refine as_ ?_
 refine an_ ?_
 refine aw_ret ?_
 cases h
 exact fr2_
 clear hkk2
 refine sm_ ?_
 refine al_val (ov_lenD 0 rfl rfl Try.underlying55 rfl) ?_
 refine mv_ ?_
 refine al_nt ?_
 refine aw_block ?_
 refine aw_state (aw_loop (ι := Int) (fun i => (memOf w0 Z0 [] [] [(fDat (tyList tyS_lumref_File) [v0_0] a0)])) (fun i => (tab [(1, (str a1)), (8, v0_0), (9, (iq (a0.length : Int))), (10, (iq i))])) (fun q i => f_lumref_look_L5 a0 a1 kk2 q i = some r) ?_ fu (0 : Int) h) (nm_ [] [0] (by decide) ⟨rfl, rfl, rfl, rfl, trivial⟩)
 clear h
 rintro k4 l3i10 h
 have h : f_lumref_look_L5 a0 a1 kk2 k4 l3i10 = some r := h
 obtain _ | k4 := k4
 rw [f_lumref_look_L5] at h; cases h
 rw [f_lumref_look_L5] at h
 refine aw_show (m := (memOf w0 Z0 [] [] [(fDat (tyList tyS_lumref_File) [v0_0] a0)])) (S := _) ?_
 refine aw_sr ?_
 refine im_ ?_
 refine aw_seq ?_
 refine aw_cond rfl (fun hb6 => ?_) (fun hb6 => ?_)
 replace h := bif_t hb6 h
 refine aw_skip ?_
 refine aq_then ?_
 refine aw_seq ?_
 refine aw_block ?_
 refine aw_sr ?_
 obtain ⟨u7, hu8, h⟩ := opt_some h
 refine al_idxD 0 hu8 rfl rfl rfl Try.underlying55 sz101 rfl (fun p9 => ?_)
 refine al_val (ov_loadP (ds := [(str u7.Name), (str u7.Bytes)]) 0 rfl encS_lumref_File rfl Try.underlying101 sz101 rfl rfl rfl) ?_
 refine al_alloc (zs := [(str ([] : List UInt8)), (str ([] : List UInt8))]) (zeroOf_to to101) rfl rfl (fun g10 => ?_)
 refine al_store (i := 0) (vs := [(str u7.Name), (str u7.Bytes)]) (cs' := [(str u7.Name), (str u7.Bytes)]) rfl rfl rfl sz101 (cv_rfl rfl) rfl (co_val rfl (co_val rfl co_nil)) (Nat.le_of_ble_eq_true rfl) rfl rfl ?_
 refine al_nt ?_
 refine aw_sr ?_
 refine al_val (ov_fieldA (p := 0) rfl Try.underlying101 rfl sz9 rfl rfl rfl) ?_
 refine al_val (ov_load (i := 0) (v := (str u7.Name)) rfl rfl Try.underlying9 sz9 rfl rfl rfl rfl) ?_
 refine mv_ ?_
 refine al_val (ov_strCmp rfl rfl rfl rfl) ?_
 refine al_nt ?_
 refine aw_cond rfl (fun hb11 => ?_) (fun hb11 => ?_)
 replace h := bif_t hb11 h
 refine aw_sr ?_
 refine al_val (ov_fieldA (p := 1) rfl Try.underlying101 rfl sz9 rfl rfl rfl) ?_
 refine al_val (ov_load (i := 0) (v := (str u7.Bytes)) rfl rfl Try.underlying9 sz9 rfl rfl rfl rfl) ?_
 refine as_ ?_
 refine an_ ?_
 refine aw_ret ?_
 refine aq_block_ret ?_
 refine aq_then_ret ?_
 refine aq_then_ret ?_
 refine aq_block_ret ?_
 refine aq_then_ret ?_
 cases h
 exact fr2_
 replace h := bif_f hb11 h
 refine aw_skip ?_
 refine aq_block ?_
 refine aq_then ?_
 refine aw_region ?_
 refine in_ ?_
 refine mv_ ?_
 refine al_nil ?_
 exact aq_again k4 (wq (l3i10 + (1 : Int))) (Nat.lt_succ_self _) h (nm_ [] [1] (by decide) ⟨rfl, rfl, rfl, rfl, trivial⟩)
 replace h := bif_f hb6 h
 refine aw_exit ?_
 refine aq_then_exit ?_
 refine aq_then_exit ?_
 refine aq_block_exit ?_
 exact aq_join () h (nm_ [] [0] (by decide) trivial)
 -- STUCK slices.Reverse[[]lumberroom/lumref.File,lumberroom/lumref.File]: a region that draws: no head: slices.go:485 [open: slices.go:485: store: store to ('o', 'p11')]
 -- STUCK slices.rotateLeft[lumberroom/lumref.File]: slices.go:446: call: no contract of slices.Reverse[[]lumberroom/lumref.File,lumberroom/lumref.File]
 -- STUCK slices.rotateRight[lumberroom/lumref.File]: slices.go:451: call: no contract of slices.rotateLeft[lumberroom/lumref.File]
 -- STUCK slices.Insert[[]lumberroom/lumref.File,lumberroom/lumref.File]: slices.go:145: call: append to data
def f_slices_Insert___lumref_File_lumref_File__own_own (fu : Nat) (a0 : (List S_lumref_File)) (a1 : Int) (a2 : (List S_lumref_File)) : Option (List S_lumref_File) := (req (0 ≤ a1 ∧ a1 ≤ (a0.length : Int)) (bif ((a2.length : Int) == (0 : Int)) then (some a0) else (bif (a1 == (a0.length : Int)) then (req (((a0.length + a2.length) * 32 : Nat) ≤ 140737488355328 ∧ a0.length + a2.length ≤ 9223372036854775807) (some (a0 ++ a2))) else (both (req (0 ≤ a1 ∧ a1 ≤ (a0.length : Int)) (req ((a1).toNat ≤ a0.length ∧ 0 < (IntKind.i64.wrap ((IntKind.i64.wrap ((a0.length : Int) + (a2.length : Int))) - a1)) ∧ (((a1).toNat : Nat) : Int) + (IntKind.i64.wrap ((IntKind.i64.wrap ((a0.length : Int) + (a2.length : Int))) - a1)) = (IntKind.i64.wrap ((a0.length : Int) + (a2.length : Int))) ∧ (IntKind.i64.wrap ((a0.length : Int) + (a2.length : Int))) * 32 ≤ 140737488355328 ∧ (IntKind.i64.wrap ((a0.length : Int) + (a2.length : Int))) ≤ 9223372036854775807) (req (0 ≤ a1 ∧ a1 ≤ ((a0.take (a1).toNat ++ List.replicate ((IntKind.i64.wrap ((IntKind.i64.wrap ((a0.length : Int) + (a2.length : Int))) - a1))).toNat (S_lumref_File.mk ([] : (List UInt8)) ([] : (List UInt8)))).length : Int)) (req ((a1).toNat < (a0.take (a1).toNat ++ List.replicate ((IntKind.i64.wrap ((IntKind.i64.wrap ((a0.length : Int) + (a2.length : Int))) - a1))).toNat (S_lumref_File.mk ([] : (List UInt8)) ([] : (List UInt8)))).length ∧ 0 < a2.length) (req (0 ≤ (IntKind.i64.wrap (a1 + (a2.length : Int))) ∧ (IntKind.i64.wrap (a1 + (a2.length : Int))) ≤ (((a0.take (a1).toNat ++ List.replicate ((IntKind.i64.wrap ((IntKind.i64.wrap ((a0.length : Int) + (a2.length : Int))) - a1))).toNat (S_lumref_File.mk ([] : (List UInt8)) ([] : (List UInt8)))).take ((a1).toNat) ++ (a2.take ((a0.take (a1).toNat ++ List.replicate ((IntKind.i64.wrap ((IntKind.i64.wrap ((a0.length : Int) + (a2.length : Int))) - a1))).toNat (S_lumref_File.mk ([] : (List UInt8)) ([] : (List UInt8)))).length - ((a1).toNat)) ++ (a0.take (a1).toNat ++ List.replicate ((IntKind.i64.wrap ((IntKind.i64.wrap ((a0.length : Int) + (a2.length : Int))) - a1))).toNat (S_lumref_File.mk ([] : (List UInt8)) ([] : (List UInt8)))).drop (((a1).toNat) + a2.length))).length : Int)) (req (0 ≤ a1 ∧ a1 ≤ (a0.length : Int)) (req (((IntKind.i64.wrap (a1 + (a2.length : Int)))).toNat < ((a0.take (a1).toNat ++ List.replicate ((IntKind.i64.wrap ((IntKind.i64.wrap ((a0.length : Int) + (a2.length : Int))) - a1))).toNat (S_lumref_File.mk ([] : (List UInt8)) ([] : (List UInt8)))).take ((a1).toNat) ++ (a2.take ((a0.take (a1).toNat ++ List.replicate ((IntKind.i64.wrap ((IntKind.i64.wrap ((a0.length : Int) + (a2.length : Int))) - a1))).toNat (S_lumref_File.mk ([] : (List UInt8)) ([] : (List UInt8)))).length - ((a1).toNat)) ++ (a0.take (a1).toNat ++ List.replicate ((IntKind.i64.wrap ((IntKind.i64.wrap ((a0.length : Int) + (a2.length : Int))) - a1))).toNat (S_lumref_File.mk ([] : (List UInt8)) ([] : (List UInt8)))).drop (((a1).toNat) + a2.length))).length ∧ 0 < (a0.drop ((a1).toNat)).length) (some (((a0.take (a1).toNat ++ List.replicate ((IntKind.i64.wrap ((IntKind.i64.wrap ((a0.length : Int) + (a2.length : Int))) - a1))).toNat (S_lumref_File.mk ([] : (List UInt8)) ([] : (List UInt8)))).take ((a1).toNat) ++ (a2.take ((a0.take (a1).toNat ++ List.replicate ((IntKind.i64.wrap ((IntKind.i64.wrap ((a0.length : Int) + (a2.length : Int))) - a1))).toNat (S_lumref_File.mk ([] : (List UInt8)) ([] : (List UInt8)))).length - ((a1).toNat)) ++ (a0.take (a1).toNat ++ List.replicate ((IntKind.i64.wrap ((IntKind.i64.wrap ((a0.length : Int) + (a2.length : Int))) - a1))).toNat (S_lumref_File.mk ([] : (List UInt8)) ([] : (List UInt8)))).drop (((a1).toNat) + a2.length))).take (((IntKind.i64.wrap (a1 + (a2.length : Int)))).toNat) ++ ((a0.drop ((a1).toNat)).take (((a0.take (a1).toNat ++ List.replicate ((IntKind.i64.wrap ((IntKind.i64.wrap ((a0.length : Int) + (a2.length : Int))) - a1))).toNat (S_lumref_File.mk ([] : (List UInt8)) ([] : (List UInt8)))).take ((a1).toNat) ++ (a2.take ((a0.take (a1).toNat ++ List.replicate ((IntKind.i64.wrap ((IntKind.i64.wrap ((a0.length : Int) + (a2.length : Int))) - a1))).toNat (S_lumref_File.mk ([] : (List UInt8)) ([] : (List UInt8)))).length - ((a1).toNat)) ++ (a0.take (a1).toNat ++ List.replicate ((IntKind.i64.wrap ((IntKind.i64.wrap ((a0.length : Int) + (a2.length : Int))) - a1))).toNat (S_lumref_File.mk ([] : (List UInt8)) ([] : (List UInt8)))).drop (((a1).toNat) + a2.length))).length - (((IntKind.i64.wrap (a1 + (a2.length : Int)))).toNat)) ++ ((a0.take (a1).toNat ++ List.replicate ((IntKind.i64.wrap ((IntKind.i64.wrap ((a0.length : Int) + (a2.length : Int))) - a1))).toNat (S_lumref_File.mk ([] : (List UInt8)) ([] : (List UInt8)))).take ((a1).toNat) ++ (a2.take ((a0.take (a1).toNat ++ List.replicate ((IntKind.i64.wrap ((IntKind.i64.wrap ((a0.length : Int) + (a2.length : Int))) - a1))).toNat (S_lumref_File.mk ([] : (List UInt8)) ([] : (List UInt8)))).length - ((a1).toNat)) ++ (a0.take (a1).toNat ++ List.replicate ((IntKind.i64.wrap ((IntKind.i64.wrap ((a0.length : Int) + (a2.length : Int))) - a1))).toNat (S_lumref_File.mk ([] : (List UInt8)) ([] : (List UInt8)))).drop (((a1).toNat) + a2.length))).drop ((((IntKind.i64.wrap (a1 + (a2.length : Int)))).toNat) + (a0.drop ((a1).toNat)).length))))))))))) (req (0 ≤ (IntKind.i64.wrap ((a0.length : Int) + (a2.length : Int)))) (req (0 ≤ (IntKind.i64.wrap (a1 + (a2.length : Int))) ∧ (IntKind.i64.wrap (a1 + (a2.length : Int))) ≤ ((((IntKind.i64.wrap ((a0.length : Int) + (a2.length : Int)))).toNat : Nat) : Int)) (req (0 < a2.length ∧ 0 < a0.length) (req (0 ≤ (IntKind.i64.wrap (a1 + (a2.length : Int))) ∧ (IntKind.i64.wrap (a1 + (a2.length : Int))) ≤ ((((IntKind.i64.wrap ((a0.length : Int) + (a2.length : Int)))).toNat : Nat) : Int)) (req (0 ≤ a1 ∧ a1 ≤ ((((IntKind.i64.wrap ((a0.length : Int) + (a2.length : Int)))).toNat : Nat) : Int)) (req (((a1).toNat) < a0.length ∧ (((IntKind.i64.wrap (a1 + (a2.length : Int)))).toNat) ≤ a0.length ∧ ((a1).toNat) ≤ (((IntKind.i64.wrap (a1 + (a2.length : Int)))).toNat) ∧ (((IntKind.i64.wrap (a1 + (a2.length : Int)))).toNat) + (a0.length - ((a1).toNat)) = (((IntKind.i64.wrap ((a0.length : Int) + (a2.length : Int)))).toNat)) (req (0 ≤ a1 ∧ a1 ≤ ((a0.take (((IntKind.i64.wrap (a1 + (a2.length : Int)))).toNat) ++ a0.drop ((a1).toNat)).length : Int)) (req ((a1).toNat < (a0.take (((IntKind.i64.wrap (a1 + (a2.length : Int)))).toNat) ++ a0.drop ((a1).toNat)).length ∧ 0 < a2.length) (some ((a0.take (((IntKind.i64.wrap (a1 + (a2.length : Int)))).toNat) ++ a0.drop ((a1).toNat)).take ((a1).toNat) ++ (a2.take ((a0.take (((IntKind.i64.wrap (a1 + (a2.length : Int)))).toNat) ++ a0.drop ((a1).toNat)).length - ((a1).toNat)) ++ (a0.take (((IntKind.i64.wrap (a1 + (a2.length : Int)))).toNat) ++ a0.drop ((a1).toNat)).drop (((a1).toNat) + a2.length))))))))))))))))
set_option maxHeartbeats 2000000 in
set_option maxRecDepth 100000 in
theorem f_slices_Insert___lumref_File_lumref_File__own_own_ok (fu : Nat) (v0_0 : Value) (a0 : (List S_lumref_File)) (a1 : Int) (v2_0 : Value) (a2 : (List S_lumref_File)) {r : (List S_lumref_File)} (h : f_slices_Insert___lumref_File_lumref_File__own_own fu a0 a1 a2 = some r) : FnOk Try.prog 83 [v0_0, (int .i64 a1), v2_0] [] [(oRow v0_0 101 tyS_lumref_File a0), (oRow v2_0 101 tyS_lumref_File a2)] (fun (i : Value) => { val := i, own := [(oRow i 101 tyS_lumref_File r)] }) := by
 unfold f_slices_Insert___lumref_File_lumref_File__own_own at h
 refine fn_enter Try.func83 rfl Try.ntmps83 rfl (fun w0 Z0 => ?_)
 refine aw_sr ?_
 refine an_ ?_
 refine sm_ ?_
 refine mv_ ?_
 obtain ⟨hc1, h⟩ := req_some h
 refine al_winR 0 hc1.1 hc1.2 rfl rfl rfl Try.underlying55 sz101 rfl (fun s2 hw3 => ?_)
 refine al_nt ?_
 refine sm_ ?_
 refine al_val (ov_lenR 1 rfl rfl Try.underlying55 rfl) ?_
 refine an_ ?_
 refine aw_seq ?_
 refine sm_ ?_
 refine im_ ?_
 refine aw_cond rfl (fun hb4 => ?_) (fun hb4 => ?_)
 replace h := bif_t hb4 h
 refine sm_ ?_
 refine an_ ?_
 refine aw_ret ?_
 refine aq_then_ret ?_
 cases h
 exact fn_ret v0_0 [0] [] rfl rfl rfl rfl (res1 rfl rfl) rfl rfl rfl (by decide)
 replace h := bif_f hb4 h
 refine aw_skip ?_
 refine aq_tr ?_
 refine mv_ ?_
 refine al_val (ov_lenR 0 rfl rfl Try.underlying55 rfl) ?_
 refine an_ ?_
 refine aw_seq ?_
 refine sm_ ?_
 refine mv_ ?_
 refine im_ ?_
 refine aw_cond rfl (fun hb5 => ?_) (fun hb5 => ?_)
 replace h := bif_t hb5 h
 refine sm_ ?_
 refine mv_ ?_
 obtain ⟨hc6, h⟩ := req_some h
 refine al_append 0 hc6.1 hc6.2 rfl (src_own (i := 0) 1 rfl) rfl rfl Try.underlying55 to101 rfl rfl rfl (fun v7 => ?_)
 refine an_ ?_
 refine aw_ret ?_
 refine aq_then_ret ?_
 cases h
 exact fn_ret v7 [0] [] rfl rfl rfl rfl (res1 rfl rfl) rfl rfl rfl (by decide)
 replace h := bif_f hb5 h
 refine aw_skip ?_
 refine aq_then ?_
 refine aw_seq ?_
 refine sm_ ?_
 refine mv_ ?_
 refine in_ ?_
 refine mv_ ?_
 refine al_capR 0 rfl rfl Try.underlying55 rfl (fun cp8 hcp9 => ?_)
 refine im_ ?_
 refine aw_cond rfl (fun hb10 => ?_) (fun hb10 => ?_)
 replace h := (both_some h).1
 refine sm_ ?_
 refine mv_ ?_
 obtain ⟨hc13, h⟩ := req_some h
 refine al_cutK 0 hcp9 hc13.1 (Int.le_trans hc13.2 hcp9.le) rfl rfl rfl Try.underlying55 sz101 rfl (fun s11 hct12 => ?_)
 refine mv_ ?_
 refine mv_ ?_
 refine in_ ?_
 refine mv_ ?_
 refine in_ ?_
 obtain ⟨hc14, h⟩ := req_some h
 refine al_appendZK (τ := tyS_lumref_File) (x0 := (S_lumref_File.mk ([] : (List UInt8)) ([] : (List UInt8)))) (T := (wq ((a0.length : Int) + (a2.length : Int)))) 0 hcp9 hct12 hc14.1 hc14.2.1 hc14.2.2.1 (of_decide_eq_true hb10) hc14.2.2.2.1 hc14.2.2.2.2 rfl rfl rfl Try.underlying55 Try.underlying3 to101 (fun _ _ => mkS_lumref_File rfl) rfl rfl (fun v15 => ?_)
 refine an_ ?_
 refine sm_ ?_
 refine mv_ ?_
 obtain ⟨hc16, h⟩ := req_some h
 refine al_winR 0 hc16.1 hc16.2 rfl rfl rfl Try.underlying55 sz101 rfl (fun s17 hw18 => ?_)
 refine mv_ ?_
 obtain ⟨hc19, h⟩ := req_some h
 refine al_copyW 0 hc19.1 hc19.2 rfl hw18 (src_own (i := 0) 2 rfl) rfl rfl Try.underlying55 sz101 rfl (fun q20 => ?_)
 refine al_nt ?_
 refine aw_seq ?_
 obtain ⟨hc21, h⟩ := req_some h
 obtain ⟨hc24, h⟩ := req_some h
 refine aw_region_draw 8 [(46, (fE v15)), (47, (fE (iq a1))), (48, (fE (iq (a2.length : Int)))), (49, (fE (iq (wq (a1 + (a2.length : Int)))))), (50, (fun s => fWin v15 s (((wq (a1 + (a2.length : Int)))).toNat) (Ty.size tyS_lumref_File))), (51, (fE v0_0)), (52, (fE (iq a1))), (53, (fun s => fWin v0_0 s ((a1).toNat) (Ty.size tyS_lumref_File)))] (tab [(0, v0_0), (1, (iq a1)), (7, (iq (a2.length : Int))), (9, v15)]) mixed (by kernel_rfl) rfl rfl rfl (fun a hs => hs.tab _ (allT_mem ⟨rfl, rfl, rfl, rfl, trivial⟩)) ⟨⟨rfl, ld_val (ov_move rfl rfl)⟩, ⟨rfl, ld_val (ov_move rfl rfl)⟩, ⟨rfl, ld_val (ov_move rfl rfl)⟩, ⟨rfl, ld_eq (j := 1) rfl rfl (ld_eq (j := 2) rfl rfl (ld_val (ov_int rfl rfl rfl rfl)))⟩, ⟨rfl, ld_eq (j := 0) rfl rfl (ld_eq (j := 3) rfl rfl (ld_of (of_winR 0 hc21.1 hc21.2 rfl rfl rfl Try.underlying55 sz101 rfl)))⟩, ⟨rfl, ld_val (ov_move rfl rfl)⟩, ⟨rfl, ld_val (ov_move rfl rfl)⟩, ⟨rfl, ld_eq (j := 5) rfl rfl (ld_eq (j := 6) rfl rfl (ld_of (of_winR 1 hc24.1 hc24.2 rfl rfl rfl Try.underlying55 sz101 rfl)))⟩, trivial⟩ ?_
 refine tl_win 4 rfl (fun s22 hw23 => ?_)
 refine tl_win 7 rfl (fun s25 hw26 => ?_)
 refine tl_done ?_
 obtain ⟨hc27, h⟩ := req_some h
 refine al_copyW 0 hc27.1 hc27.2 rfl hw23 (src_win (i := 0) 1 rfl hw26) rfl rfl Try.underlying55 sz101 rfl (fun q28 => ?_)
 refine al_nt ?_
 refine sm_ ?_
 refine an_ ?_
 refine aw_ret ?_
 refine aq_then_ret ?_
 cases h
 exact fn_ret v15 [0] [] rfl rfl rfl rfl (res1 rfl rfl) rfl rfl rfl (by decide)
 replace h := (both_some h).2
 refine aw_skip ?_
 refine aq_tr ?_
 refine mv_ ?_
 refine mv_ ?_
 refine mv_ ?_
 refine in_ ?_
 obtain ⟨hc31, h⟩ := req_some h
 refine al_cutK 0 hcp9 hc31 (Int.not_lt.1 (of_decide_eq_false hb10)) rfl rfl rfl Try.underlying55 sz101 rfl (fun s29 hct30 => ?_)
 refine an_ ?_
 refine aw_seq ?_
 refine sm_ ?_
 refine mv_ ?_
 refine mv_ ?_
 refine mv_ ?_
 refine in_ ?_
 obtain ⟨hc34, h⟩ := req_some h
 refine al_winC (sz := Ty.size tyS_lumref_File) hct30 hc34.1 hc34.2 rfl rfl Try.underlying55 sz101 rfl (fun s32 hw33 => ?_)
 obtain ⟨hc35, h⟩ := req_some h
 refine al_val (v := bool false) (ov_overlapsF (tS := 55) (tR := 4) 0 1 rfl hc35.1 hc35.2 rfl rfl hw33 rfl rfl Try.underlying55 sz101 rfl Try.func87 rfl rfl rfl (by kernel_rfl) rfl) ?_
 refine al_val (ov_not rfl rfl) ?_
 refine al_nt ?_
 refine aw_cond_t rfl ?_
 refine aw_seq ?_
 obtain ⟨hc38, h⟩ := req_some h
 obtain ⟨hc41, h⟩ := req_some h
 refine aw_region_draw 8 [(69, (fE s29)), (70, (fE (iq a1))), (71, (fE (iq (a2.length : Int)))), (72, (fE (iq (wq (a1 + (a2.length : Int)))))), (73, (fun s => fPure (CutWin v0_0 s (((wq (a1 + (a2.length : Int)))).toNat) (((wq ((a0.length : Int) + (a2.length : Int)))).toNat) (Ty.size tyS_lumref_File)))), (74, (fE s29)), (75, (fE (iq a1))), (76, (fun s => fPure (CutWin v0_0 s ((a1).toNat) (((wq ((a0.length : Int) + (a2.length : Int)))).toNat) (Ty.size tyS_lumref_File))))] (tab [(0, s29), (1, (iq a1)), (2, v2_0), (7, (iq (a2.length : Int)))]) mixed (by kernel_rfl) rfl rfl rfl (fun a hs => hs.tab _ (allT_mem ⟨rfl, rfl, rfl, rfl, trivial⟩)) ⟨⟨rfl, ld_val (ov_move rfl rfl)⟩, ⟨rfl, ld_val (ov_move rfl rfl)⟩, ⟨rfl, ld_val (ov_move rfl rfl)⟩, ⟨rfl, ld_eq (j := 1) rfl rfl (ld_eq (j := 2) rfl rfl (ld_val (ov_int rfl rfl rfl rfl)))⟩, ⟨rfl, ld_eq (j := 0) rfl rfl (ld_eq (j := 3) rfl rfl (ld_of (of_winC (sz := Ty.size tyS_lumref_File) hct30 hc38.1 hc38.2 rfl rfl Try.underlying55 sz101 rfl)))⟩, ⟨rfl, ld_val (ov_move rfl rfl)⟩, ⟨rfl, ld_val (ov_move rfl rfl)⟩, ⟨rfl, ld_eq (j := 5) rfl rfl (ld_eq (j := 6) rfl rfl (ld_of (of_winC (sz := Ty.size tyS_lumref_File) hct30 hc41.1 hc41.2 rfl rfl Try.underlying55 sz101 rfl)))⟩, trivial⟩ ?_
 refine tl_pure 4 rfl (fun s36 hw37 => ?_)
 refine tl_pure 7 rfl (fun s39 hw40 => ?_)
 refine tl_done ?_
 obtain ⟨hc42, h⟩ := req_some h
 refine al_copyExt 0 hc42.1 hc42.2.1 hc42.2.2.1 hc42.2.2.2 rfl hct30 hw37 hw40 rfl rfl Try.underlying55 sz101 rfl (fun q43 => ?_)
 refine al_nt ?_
 refine sm_ ?_
 refine mv_ ?_
 obtain ⟨hc44, h⟩ := req_some h
 refine al_winR 0 hc44.1 hc44.2 rfl rfl rfl Try.underlying55 sz101 rfl (fun s45 hw46 => ?_)
 refine mv_ ?_
 obtain ⟨hc47, h⟩ := req_some h
 refine al_copyW 0 hc47.1 hc47.2 rfl hw46 (src_own (i := 0) 1 rfl) rfl rfl Try.underlying55 sz101 rfl (fun q48 => ?_)
 refine al_nt ?_
 refine sm_ ?_
 refine an_ ?_
 refine aw_ret ?_
 refine aq_then_ret ?_
 cases h
 exact fn_ret s29 [0] [] rfl rfl rfl rfl (res1 rfl rfl) rfl rfl rfl (by decide)
def f_lumref_set_L12 (a1 : (List UInt8)) (r2 : (List S_lumref_File)) (kk5 : (Int → Option (List S_lumref_File))) : Nat → Int → Option (List S_lumref_File)
  | 0, _ => none
  | k11 + 1, l10i7 => (lt (fun (j13b23 : Bool) => (bif j13b23 then (f_lumref_set_L12 a1 r2 kk5 k11 (IntKind.i64.wrap (l10i7 + (1 : Int)))) else (kk5 l10i7))) fun (kk14 : Bool → Option (List S_lumref_File)) => (bif (decide (l10i7 < (r2.length : Int))) then (opt (at? r2 l10i7) fun (u17 : S_lumref_File) => (kk14 (Op.bytesLess u17.Name a1))) else (kk14 false)))
def f_lumref_set (fu : Nat) (a0 : (List S_lumref_File)) (a1 : (List UInt8)) (a2 : (List UInt8)) : Option (List S_lumref_File) := (opt (f_lumref_gone fu a0 a1) fun (r2 : (List S_lumref_File)) => (lt (fun (j4i7 : Int) => (opt (f_slices_Insert___lumref_File_lumref_File__own_own fu r2 j4i7 ([(S_lumref_File.mk a1 a2)])) fun (r8 : (List S_lumref_File)) => (some r8))) fun (kk5 : Int → Option (List S_lumref_File)) => (f_lumref_set_L12 a1 r2 kk5 fu (0 : Int))))
set_option maxHeartbeats 2000000 in
set_option maxRecDepth 100000 in
theorem f_lumref_set_ok (fu : Nat) (v0_0 : Value) (a0 : (List S_lumref_File)) (a1 : (List UInt8)) (a2 : (List UInt8)) {r : (List S_lumref_File)} (h : f_lumref_set fu a0 a1 a2 = some r) : FnOk Try.prog 75 [v0_0, (str a1), (str a2)] [(fDat (tyList tyS_lumref_File) [v0_0] a0)] [] (fun (i : Value) => { val := i, own := [(oRow i 101 tyS_lumref_File r)] }) := by
 unfold f_lumref_set at h
 refine fn_enter Try.func75 rfl Try.ntmps75 rfl (fun w0 Z0 => ?_)
 refine aw_sr ?_
 refine an_ ?_
 refine sm_ ?_
 refine mv_ ?_
 obtain ⟨r2, hc1, h⟩ := opt_some h
 refine al_call (vs := [v0_0, (str a1)]) (f_lumref_gone_ok fu v0_0 a0 a1 hc1) [] [] [] (pre_fz 0 rfl pre_nil) rfl (by simp) (by decide) (.inl rfl) rfl Try.func56 rfl rfl rfl (fun v3 => ?_)
 refine an_ ?_
 refine aw_sr ?_
 refine an_ ?_
 obtain ⟨kk5, hkk5, h⟩ := lt_some h
 refine aw_seq_join (ι := Int) (fun i => (memOf w0 Z0 [] [(oRow v3 101 tyS_lumref_File r2)] [(fDat (tyList tyS_lumref_File) [v0_0] a0)])) (fun i => (tab [(0, v3), (1, (str a1)), (2, (str a2)), (7, (iq i))])) (fun i => kk5 i = some r) ?_ ?_
 rintro j4i7 h
 have h : kk5 j4i7 = some r := h
 rw [hkk5] at h
 dsimp only at h
 clear hkk5
 refine aw_show (m := (memOf w0 Z0 [] [(oRow v3 101 tyS_lumref_File r2)] [(fDat (tyList tyS_lumref_File) [v0_0] a0)])) (S := _) ?_
 refine sm_ ?_
 refine mv_ ?_
 refine mv_ ?_
 refine mv_ ?_
 refine al_val (ov_build (cells := ([(str a1), (str a2)] : List Value).toArray) (cs := [(str a1), (str a2)]) rfl (fun w a hm hs => by simp only [List.map_toArray, List.map_cons, List.map_nil, List.toList_toArray, hs.ev (x := .tmp 28) rfl, hs.ev (x := .tmp 29) rfl]; kernel_rfl)) ?_
 refine al_buildSlice (τ := tyS_lumref_File) (e := 101) (k := 1) (sz := 0) (by_ := 0) (z := undef) (cs := [(str a1), (str a2)]) (xs := [(S_lumref_File.mk a1 a2)]) rfl (by decide) (fun w a hm hs => ⟨([(str a1), (str a2)]).toArray, rfl, by simp only [List.map_toArray, List.map_cons, List.map_nil, hs.ev (x := .tmp 30) rfl]; exact run_bs [(ag [(str a1), (str a2)])] [(str a1), (str a2)] Try.underlying55 to101 rfl rfl (bs_cons (l := [(str a1), (str a2)]) (cs := []) (cv_rfl rfl) rfl bs_nil) hm⟩) (fun hm => ⟨_, _, rfl, (fun _ => mkS_lumref_File rfl) hm, rfl⟩) rfl (fun v6 => ?_)
 obtain ⟨r8, hc7, h⟩ := opt_some h
 refine al_call (vs := [v3, (iq j4i7), v6]) (f_slices_Insert___lumref_File_lumref_File__own_own_ok fu v3 r2 j4i7 v6 ([(S_lumref_File.mk a1 a2)]) hc7) [] [1, 0] [] pre_nil rfl (by simp) (by decide) (.inl rfl) rfl Try.func83 rfl rfl rfl (fun v9 => ?_)
 refine an_ ?_
 refine aw_ret ?_
 cases h
 exact fn_ret v9 [0] [] rfl rfl rfl rfl (res1 rfl rfl) rfl rfl rfl (by decide)
 clear hkk5
 refine aw_block ?_
 refine aw_state (aw_loop (ι := Int) (fun i => (memOf w0 Z0 [] [(oRow v3 101 tyS_lumref_File r2)] [(fDat (tyList tyS_lumref_File) [v0_0] a0)])) (fun i => (tab [(0, v3), (1, (str a1)), (2, (str a2)), (7, (iq i))])) (fun q i => f_lumref_set_L12 a1 r2 kk5 q i = some r) ?_ fu (0 : Int) h) (nm_ [0] [0] (by decide) ⟨rfl, rfl, rfl, rfl, trivial⟩)
 clear h
 rintro k11 l10i7 h
 have h : f_lumref_set_L12 a1 r2 kk5 k11 l10i7 = some r := h
 obtain _ | k11 := k11
 rw [f_lumref_set_L12] at h; cases h
 rw [f_lumref_set_L12] at h
 refine aw_show (m := (memOf w0 Z0 [] [(oRow v3 101 tyS_lumref_File r2)] [(fDat (tyList tyS_lumref_File) [v0_0] a0)])) (S := _) ?_
 refine aw_seq ?_
 obtain ⟨kk14, hkk14, h⟩ := lt_some h
 refine aw_seq_join (ι := Bool) (fun i => (memOf w0 Z0 [] [(oRow v3 101 tyS_lumref_File r2)] [(fDat (tyList tyS_lumref_File) [v0_0] a0)])) (fun i => (tab [(0, v3), (1, (str a1)), (2, (str a2)), (7, (iq l10i7)), (23, (bool i))])) (fun i => kk14 i = some r) ?_ ?_
 rintro j13b23 h
 have h : kk14 j13b23 = some r := h
 rw [hkk14] at h
 dsimp only at h
 clear hkk14
 refine aw_show (m := (memOf w0 Z0 [] [(oRow v3 101 tyS_lumref_File r2)] [(fDat (tyList tyS_lumref_File) [v0_0] a0)])) (S := _) ?_
 refine aw_cond rfl (fun hb15 => ?_) (fun hb15 => ?_)
 replace h := bif_t hb15 h
 refine aw_skip ?_
 refine aq_then ?_
 refine aw_block ?_
 refine aw_region ?_
 refine mv_ ?_
 refine in_ ?_
 refine as_ ?_
 refine al_nil ?_
 refine aq_block ?_
 exact aq_again k11 (wq (l10i7 + (1 : Int))) (Nat.lt_succ_self _) h (nm_ [0] [0] (by decide) ⟨rfl, rfl, rfl, rfl, trivial⟩)
 replace h := bif_f hb15 h
 refine aw_exit ?_
 refine aq_then_exit ?_
 refine aq_then_exit ?_
 refine aq_block_exit ?_
 exact aq_join l10i7 h (nm_ [0] [0] (by decide) ⟨rfl, rfl, rfl, rfl, trivial⟩)
 clear hkk14
 refine aw_region ?_
 refine mv_ ?_
 refine mv_ ?_
 refine al_val (ov_lenR 0 rfl rfl Try.underlying55 rfl) ?_
 refine in_ ?_
 refine mv_ ?_
 refine al_caseB 15 rfl (fun hb16 => ?_) (fun hb16 => ?_)
 replace h := bif_t hb16 h
 refine mv_ ?_
 refine mv_ ?_
 obtain ⟨u17, hu18, h⟩ := opt_some h
 refine al_idxR 0 (at_some hu18).1 (at_some hu18).2.1 rfl rfl rfl Try.underlying55 sz101 rfl (fun p19 hp20 => ?_)
 refine al_fieldR hp20 rfl Try.underlying101 rfl sz9 rfl rfl (fun p21 hp22 => ?_)
 refine al_val (ov_loadF (ds := [(str u17.Name)]) 0 rfl hp22 (at_some hu18).2.2 subS_lumref_File_0 (fun h => h) rfl Try.underlying9 sz9 rfl rfl rfl) ?_
 refine mv_ ?_
 refine al_val (ov_strCmp rfl rfl rfl rfl) ?_
 refine al_val (ov_pick_t rfl rfl rfl) ?_
 refine al_nil ?_
 exact aq_join (Op.bytesLess u17.Name a1) h (nm_ [0] [0] (by decide) ⟨rfl, rfl, rfl, rfl, rfl, trivial⟩)
 replace h := bif_f hb16 h
 iterate 7 refine al_skip ?_
 refine al_val (ov_pick_f rfl rfl rfl) ?_
 refine al_nil ?_
 exact aq_join false h (nm_ [0] [0] (by decide) ⟨rfl, rfl, rfl, rfl, rfl, trivial⟩)
def f_lumref_after (fu : Nat) (a0 : (List S_lumref_File)) (a1 : S_api_Deed) (a2 : Int) : Option (List S_lumref_File) := (bif (a1.Kind == (1 : Int)) then (req (0 ≤ (if (a1.Text.length : Int) < a2 then (a1.Text.length : Int) else a2) ∧ (if (a1.Text.length : Int) < a2 then (a1.Text.length : Int) else a2) ≤ (a1.Text.length : Int)) (opt (f_lumref_set fu a0 a1.Name (a1.Text.take ((if (a1.Text.length : Int) < a2 then (a1.Text.length : Int) else a2)).toNat)) fun (r5 : (List S_lumref_File)) => (some r5))) else (bif (a1.Kind == (2 : Int)) then (opt (f_lumref_look fu a0 a1.Name) fun (r9 : ((List UInt8) × Bool)) => (bif r9.2 then (opt (f_lumref_gone fu a0 a1.Name) fun (r12 : (List S_lumref_File)) => (opt (f_lumref_set fu r12 a1.Text r9.1) fun (r15 : (List S_lumref_File)) => (some r15))) else (some a0))) else (opt (f_lumref_gone fu a0 a1.Name) fun (r18 : (List S_lumref_File)) => (some r18))))
set_option maxHeartbeats 2000000 in
set_option maxRecDepth 100000 in
theorem f_lumref_after_ok (fu : Nat) (v0_0 : Value) (a0 : (List S_lumref_File)) (v1_4 : Value) (a1 : S_api_Deed) (a2 : Int) {r : (List S_lumref_File)} (h : f_lumref_after fu a0 a1 a2 = some r) : FnOk Try.prog 58 [v0_0, (ag [(int .i64 a1.Kind), (str a1.Name), (str a1.Text), (int .i64 a1.N), v1_4]), (int .i64 a2)] [(fDat (tyList tyS_lumref_File) [v0_0] a0), (fDat (tyList (tyInt .i64)) [v1_4] a1.Keep)] [] (fun (i : Value) => { val := i, fz := [(fDat (tyList tyS_lumref_File) [i] r)] }) := by
 unfold f_lumref_after at h
 refine fn_enter Try.func58 rfl Try.ntmps58 rfl (fun w0 Z0 => ?_)
 refine aw_sr ?_
 refine al_box (vs := [(iq a1.Kind), (str a1.Name), (str a1.Text), (iq a1.N), v1_4]) rfl (cv_rfl rfl) rfl (fun g1 => ?_)
 refine an_ ?_
 refine aw_seq ?_
 refine aw_sr ?_
 refine al_val (ov_fieldA (p := 0) rfl Try.underlying32 rfl sz3 rfl rfl rfl) ?_
 refine al_val (ov_load (i := 0) (v := (iq a1.Kind)) rfl rfl Try.underlying3 sz3 rfl rfl rfl rfl) ?_
 refine al_nt ?_
 refine aw_block ?_
 refine aw_sr ?_
 refine in_ ?_
 refine an_ ?_
 refine aw_cond rfl (fun hb2 => ?_) (fun hb2 => ?_)
 replace h := bif_t hb2 h
 refine aw_seq ?_
 obtain ⟨hc3, h⟩ := req_some h
 obtain ⟨r5, hc4, h⟩ := opt_some h
 refine aw_region_draw 12 [(13, (fE v0_0)), (14, (fE (ptr g1 1))), (15, (fE (str a1.Name))), (16, (fE (ptr g1 2))), (17, (fE (str a1.Text))), (18, (fE (iq a2))), (19, (fE (ptr g1 2))), (20, (fE (str a1.Text))), (21, (fE (iq (a1.Text.length : Int)))), (22, (fE (iq (if (a1.Text.length : Int) < a2 then (a1.Text.length : Int) else a2)))), (23, (fE (str (a1.Text.take ((if (a1.Text.length : Int) < a2 then (a1.Text.length : Int) else a2)).toNat)))), (24, (fun v6 => (fDat (tyList tyS_lumref_File) [v6] r5)))] (tab [(0, v0_0), (2, (iq a2)), (4, (pq g1)), (6, nS)]) mixed (by kernel_rfl) rfl rfl rfl (fun a hs => hs.tab _ (allT_mem ⟨rfl, rfl, rfl, rfl, trivial⟩)) ⟨⟨rfl, ld_val (ov_move rfl rfl)⟩, ⟨rfl, ld_val (ov_fieldA (p := 1) rfl Try.underlying32 rfl sz9 rfl rfl rfl)⟩, ⟨rfl, ld_eq (j := 1) rfl rfl (ld_val (ov_load (i := 0) (v := (str a1.Name)) rfl rfl Try.underlying9 sz9 rfl rfl rfl rfl))⟩, ⟨rfl, ld_val (ov_fieldA (p := 2) rfl Try.underlying32 rfl sz9 rfl rfl rfl)⟩, ⟨rfl, ld_eq (j := 3) rfl rfl (ld_val (ov_load (i := 0) (v := (str a1.Text)) rfl rfl Try.underlying9 sz9 rfl rfl rfl rfl))⟩, ⟨rfl, ld_val (ov_move rfl rfl)⟩, ⟨rfl, ld_val (ov_fieldA (p := 2) rfl Try.underlying32 rfl sz9 rfl rfl rfl)⟩, ⟨rfl, ld_eq (j := 6) rfl rfl (ld_val (ov_load (i := 0) (v := (str a1.Text)) rfl rfl Try.underlying9 sz9 rfl rfl rfl rfl))⟩, ⟨rfl, ld_eq (j := 7) rfl rfl (ld_val (ov_strLen Try.underlying9 rfl rfl))⟩, ⟨rfl, ld_eq (j := 5) rfl rfl (ld_eq (j := 8) rfl rfl (ld_val (ov_min rfl rfl rfl)))⟩, ⟨rfl, ld_eq (j := 4) rfl rfl (ld_eq (j := 9) rfl rfl (ld_val (ov_strTo hc3.1 hc3.2 Try.underlying9 rfl rfl rfl)))⟩, ⟨rfl, ld_eq (j := 0) rfl rfl (ld_eq (j := 2) rfl rfl (ld_eq (j := 10) rfl rfl (ld_callR (vs := [v0_0, (str a1.Name), (str (a1.Text.take ((if (a1.Text.length : Int) < a2 then (a1.Text.length : Int) else a2)).toNat))]) flatS_lumref_File (f_lumref_set_ok fu v0_0 a0 a1.Name (a1.Text.take ((if (a1.Text.length : Int) < a2 then (a1.Text.length : Int) else a2)).toNat) hc4) [] (pre_fz 0 rfl pre_nil) rfl Try.func75 rfl rfl rfl)))⟩, trivial⟩ ?_
 refine tl_fact 11 rfl (fun v6 => ?_)
 refine tl_done ?_
 refine an_ ?_
 refine aw_ret ?_
 refine aq_block_ret ?_
 refine aq_then_ret ?_
 cases h
 exact fn_ret v6 [] [0] rfl rfl rfl rfl (res1 rfl rfl) rfl rfl rfl (by decide)
 replace h := bif_f hb2 h
 refine aw_sr ?_
 refine in_ ?_
 refine an_ ?_
 refine aw_cond rfl (fun hb7 => ?_) (fun hb7 => ?_)
 replace h := bif_t hb7 h
 refine aw_seq ?_
 refine sm_ ?_
 refine al_val (ov_fieldA (p := 1) rfl Try.underlying32 rfl sz9 rfl rfl rfl) ?_
 refine al_val (ov_load (i := 0) (v := (str a1.Name)) rfl rfl Try.underlying9 sz9 rfl rfl rfl rfl) ?_
 obtain ⟨r9, hc8, h⟩ := opt_some h
 refine al_call (vs := [v0_0, (str a1.Name)]) (f_lumref_look_ok fu v0_0 a0 a1.Name hc8) [] [] [0] (pre_fz 0 rfl pre_nil) rfl (by simp) (by decide) (.inl rfl) rfl Try.func57 rfl rfl rfl (fun _ => ?_)
 refine mv_ ?_
 refine al_ex rfl rfl rfl ?_
 refine al_ex rfl rfl rfl ?_
 refine as_ ?_
 refine an_ ?_
 refine sm_ ?_
 refine al_nt ?_
 refine aw_cond rfl (fun hb10 => ?_) (fun hb10 => ?_)
 replace h := bif_t hb10 h
 refine aw_seq ?_
 obtain ⟨r12, hc11, h⟩ := opt_some h
 obtain ⟨r15, hc14, h⟩ := opt_some h
 refine aw_region_draw 8 [(35, (fE v0_0)), (36, (fE (ptr g1 1))), (37, (fE (str a1.Name))), (38, (fun v13 => (fDat (tyList tyS_lumref_File) [v13] r12))), (39, (fE (ptr g1 2))), (40, (fE (str a1.Text))), (41, (fE (str r9.1))), (42, (fun v16 => (fDat (tyList tyS_lumref_File) [v16] r15)))] (tab [(0, v0_0), (4, (pq g1)), (6, nS), (7, (str r9.1))]) mixed (by kernel_rfl) rfl rfl rfl (fun a hs => hs.tab _ (allT_mem ⟨rfl, rfl, rfl, rfl, trivial⟩)) ⟨⟨rfl, ld_val (ov_move rfl rfl)⟩, ⟨rfl, ld_val (ov_fieldA (p := 1) rfl Try.underlying32 rfl sz9 rfl rfl rfl)⟩, ⟨rfl, ld_eq (j := 1) rfl rfl (ld_val (ov_load (i := 0) (v := (str a1.Name)) rfl rfl Try.underlying9 sz9 rfl rfl rfl rfl))⟩, ⟨rfl, ld_eq (j := 0) rfl rfl (ld_eq (j := 2) rfl rfl (ld_callR (vs := [v0_0, (str a1.Name)]) flatS_lumref_File (f_lumref_gone_ok fu v0_0 a0 a1.Name hc11) [] (pre_fz 0 rfl pre_nil) rfl Try.func56 rfl rfl rfl))⟩, ⟨rfl, ld_val (ov_fieldA (p := 2) rfl Try.underlying32 rfl sz9 rfl rfl rfl)⟩, ⟨rfl, ld_eq (j := 4) rfl rfl (ld_val (ov_load (i := 0) (v := (str a1.Text)) rfl rfl Try.underlying9 sz9 rfl rfl rfl rfl))⟩, ⟨rfl, ld_val (ov_move rfl rfl)⟩, ⟨rfl, ld_fact (j := 3) rfl rfl (fun v13 => ld_eq (j := 5) rfl rfl (ld_eq (j := 6) rfl rfl (ld_callR (vs := [v13, (str a1.Text), (str r9.1)]) flatS_lumref_File (f_lumref_set_ok fu v13 r12 a1.Text r9.1 hc14) [] (pre_fz 0 rfl pre_nil) rfl Try.func75 rfl rfl rfl)))⟩, trivial⟩ ?_
 refine tl_fact 7 rfl (fun v16 => ?_)
 refine tl_done ?_
 refine an_ ?_
 refine aw_ret ?_
 refine aq_then_ret ?_
 refine aq_block_ret ?_
 refine aq_then_ret ?_
 cases h
 exact fn_ret v16 [] [0] rfl rfl rfl rfl (res1 rfl rfl) rfl rfl rfl (by decide)
 replace h := bif_f hb10 h
 refine aw_skip ?_
 refine aq_tr ?_
 refine mv_ ?_
 refine an_ ?_
 refine aw_ret ?_
 refine aq_block_ret ?_
 refine aq_then_ret ?_
 cases h
 exact fn_ret v0_0 [] [0] rfl rfl rfl rfl (res1 rfl rfl) rfl rfl rfl (by decide)
 replace h := bif_f hb7 h
 refine aw_skip ?_
 refine aq_block ?_
 refine aq_tr ?_
 refine mv_ ?_
 refine al_val (ov_fieldA (p := 1) rfl Try.underlying32 rfl sz9 rfl rfl rfl) ?_
 refine al_val (ov_load (i := 0) (v := (str a1.Name)) rfl rfl Try.underlying9 sz9 rfl rfl rfl rfl) ?_
 obtain ⟨r18, hc17, h⟩ := opt_some h
 refine al_call (vs := [v0_0, (str a1.Name)]) (f_lumref_gone_ok fu v0_0 a0 a1.Name hc17) [] [] [0] (pre_fz 0 rfl pre_nil) rfl (by simp) (by decide) (.inl rfl) rfl Try.func56 rfl rfl rfl (fun v19 => ?_)
 refine an_ ?_
 refine aw_ret ?_
 refine aq_freeze 0 rfl rfl ?_
 cases h
 exact fn_ret v19 [] [0] rfl rfl rfl rfl (res1 rfl rfl) rfl rfl rfl (by decide)
 -- STUCK (*lumberroom/lumref.Disk).Change: lty ['pointer', 57]
 -- STUCK (*lumberroom/lumref.Disk).Write: lty ['pointer', 57]
 -- STUCK (*lumberroom/disk.Disk).Rename: lty ['pointer', 54]
 -- STUCK (*lumberroom/disk.Disk).Remove: lty ['pointer', 54]
 -- STUCK maps.Clone[map[string]string,string,string]: maps.go:52: bin: bin eql of ('m', 'gm0'), ('nil', 'map')
 -- STUCK (*lumberroom/disk.Disk).Sync: lty ['pointer', 54]
def f_slices_Clone___lumref_File_lumref_File_ (fu : Nat) (a0 : (List S_lumref_File)) : Option (List S_lumref_File) := (amb (a0.isEmpty) (some ([] : List S_lumref_File)) (req (((([] : List S_lumref_File).length + a0.length) * 32 : Nat) ≤ 140737488355328 ∧ ([] : List S_lumref_File).length + a0.length ≤ 9223372036854775807) (some (([] : List S_lumref_File) ++ a0))))
set_option maxHeartbeats 2000000 in
set_option maxRecDepth 100000 in
theorem f_slices_Clone___lumref_File_lumref_File__ok (fu : Nat) (v0_0 : Value) (a0 : (List S_lumref_File)) {r : (List S_lumref_File)} (h : f_slices_Clone___lumref_File_lumref_File_ fu a0 = some r) : FnOk Try.prog 60 [v0_0] [(fDat (tyList tyS_lumref_File) [v0_0] a0)] [] (fun (i : Value) => { val := i, own := [(oRow i 101 tyS_lumref_File r)] }) := by
 unfold f_slices_Clone___lumref_File_lumref_File_ at h
 refine fn_enter Try.func60 rfl Try.ntmps60 rfl (fun w0 Z0 => ?_)
 refine aw_sr ?_
 refine an_ ?_
 refine aw_seq ?_
 refine sm_ ?_
 refine al_isNilD 0 rfl rfl rfl Try.underlying55 rfl (fun nb1 hn2 => ?_)
 refine al_nt ?_
 refine aw_cond rfl (fun hb3 => ?_) (fun hb3 => ?_)
 replace h := (amb_some h).2 (isEmpty_of (hn2 hb3))
 refine aw_sr ?_
 refine an_ ?_
 refine aw_ret ?_
 refine aq_then_ret ?_
 refine aq_nilR 101 tyS_lumref_File ?_
 cases h
 exact fn_ret nS [0] [] rfl rfl rfl rfl (res1 rfl rfl) rfl rfl rfl (by decide)
 replace h := (amb_some h).1
 refine aw_skip ?_
 refine aq_tr ?_
 refine al_buildSlice (τ := tyS_lumref_File) (e := 101) (k := 0) (sz := 0) (by_ := 0) (z := undef) (cs := []) (xs := ([] : List S_lumref_File)) rfl (by decide) (fun w a hm hs => ⟨([]).toArray, rfl, by simp only [List.map_toArray, List.map_cons, List.map_nil]; exact run_bs [] [] Try.underlying55 to101 rfl rfl bs_nil hm⟩) (fun hm => rfl) rfl (fun v4 => ?_)
 refine mv_ ?_
 obtain ⟨hc5, h⟩ := req_some h
 refine al_append 0 hc5.1 hc5.2 rfl (src_dat (i := 0) 0 rfl) rfl rfl Try.underlying55 to101 rfl rfl rfl (fun v6 => ?_)
 refine an_ ?_
 refine aw_ret ?_
 cases h
 exact fn_ret v6 [0] [] rfl rfl rfl rfl (res1 rfl rfl) rfl rfl rfl (by decide)
 -- STUCK (*lumberroom/lumref.Disk).Sync: lty ['pointer', 57]
 -- STUCK (*lumberroom/disk.Disk).Read: lty ['pointer', 54]
 -- STUCK (*lumberroom/lumref.Disk).Read: lty ['pointer', 57]
 -- STUCK maps.Keys[map[string]string,string,string]$1: lty ['func', [9], [4], False]
 -- STUCK maps.Keys[map[string]string,string,string]: cellof
 -- STUCK slices.AppendSeq[[]string,string]: lty ['func', [92], [], False]
 -- STUCK slices.Collect[string]: lty ['func', [92], [], False]
def f_slices_Equal___string_string__L6 (a0 : (List (List UInt8))) (a1 : (List (List UInt8))) (kk3 : (Unit → Option Bool)) : Nat → Int → Option Bool
  | 0, _ => none
  | k5 + 1, l4i13 => (bif (decide (l4i13 < (a0.length : Int))) then (opt (at? a0 l4i13) fun (u8 : (List UInt8)) => (opt (at? a1 l4i13) fun (u11 : (List UInt8)) => (bif (!(u8 == u11)) then (some false) else (f_slices_Equal___string_string__L6 a0 a1 kk3 k5 (IntKind.i64.wrap (l4i13 + (1 : Int))))))) else (kk3 ()))
def f_slices_Equal___string_string_ (fu : Nat) (a0 : (List (List UInt8))) (a1 : (List (List UInt8))) : Option Bool := (bif ((a0.length : Int) != (a1.length : Int)) then (some false) else (lt (fun (_ : Unit) => (some true)) fun (kk3 : Unit → Option Bool) => (f_slices_Equal___string_string__L6 a0 a1 kk3 fu (0 : Int))))
set_option maxHeartbeats 2000000 in
set_option maxRecDepth 100000 in
theorem f_slices_Equal___string_string__ok (fu : Nat) (v0_0 : Value) (a0 : (List (List UInt8))) (v1_0 : Value) (a1 : (List (List UInt8))) {r : Bool} (h : f_slices_Equal___string_string_ fu a0 a1 = some r) : FnOk Try.prog 28 [v0_0, v1_0] [(fDat (tyList tyStr) [v0_0] a0), (fDat (tyList tyStr) [v1_0] a1)] [] (fun (i : Unit) => { val := (bool r) }) := by
 unfold f_slices_Equal___string_string_ at h
 refine fn_enter Try.func28 rfl Try.ntmps28 rfl (fun w0 Z0 => ?_)
 refine aw_sr ?_
 refine an_ ?_
 refine aw_seq ?_
 refine sm_ ?_
 refine al_val (ov_lenD 0 rfl rfl Try.underlying64 rfl) ?_
 refine mv_ ?_
 refine al_val (ov_lenD 1 rfl rfl Try.underlying64 rfl) ?_
 refine im_ ?_
 refine aw_cond rfl (fun hb1 => ?_) (fun hb1 => ?_)
 replace h := bif_t hb1 h
 refine aw_sr ?_
 refine an_ ?_
 refine aw_ret ?_
 refine aq_then_ret ?_
 cases h
 exact fr1_
 replace h := bif_f hb1 h
 refine aw_skip ?_
 refine aq_then ?_
 obtain ⟨kk3, hkk3, h⟩ := lt_some h
 refine aw_seq_join (ι := Unit) (fun i => (memOf w0 Z0 [] [] [(fDat (tyList tyStr) [v0_0] a0), (fDat (tyList tyStr) [v1_0] a1)])) (fun i => (tab [])) (fun i => kk3 () = some r) ?_ ?_
 rintro _ h
 have h : kk3 () = some r := h
 rw [hkk3] at h
 dsimp only at h
 clear hkk3
 refine aw_show (m := (memOf w0 Z0 [] [] [(fDat (tyList tyStr) [v0_0] a0), (fDat (tyList tyStr) [v1_0] a1)])) (S := _) ?_
 refine aw_sr ?_
 refine an_ ?_
 refine aw_ret ?_
 cases h
 exact fr1_
 clear hkk3
 refine sm_ ?_
 refine al_val (ov_lenD 0 rfl rfl Try.underlying64 rfl) ?_
 refine mv_ ?_
 refine al_nt ?_
 refine aw_block ?_
 refine aw_state (aw_loop (ι := Int) (fun i => (memOf w0 Z0 [] [] [(fDat (tyList tyStr) [v0_0] a0), (fDat (tyList tyStr) [v1_0] a1)])) (fun i => (tab [(0, v0_0), (1, v1_0), (12, (iq (a0.length : Int))), (13, (iq i))])) (fun q i => f_slices_Equal___string_string__L6 a0 a1 kk3 q i = some r) ?_ fu (0 : Int) h) (nm_ [] [0, 1] (by decide) ⟨rfl, rfl, rfl, rfl, trivial⟩)
 clear h
 rintro k5 l4i13 h
 have h : f_slices_Equal___string_string__L6 a0 a1 kk3 k5 l4i13 = some r := h
 obtain _ | k5 := k5
 rw [f_slices_Equal___string_string__L6] at h; cases h
 rw [f_slices_Equal___string_string__L6] at h
 refine aw_show (m := (memOf w0 Z0 [] [] [(fDat (tyList tyStr) [v0_0] a0), (fDat (tyList tyStr) [v1_0] a1)])) (S := _) ?_
 refine aw_sr ?_
 refine im_ ?_
 refine aw_seq ?_
 refine aw_cond rfl (fun hb7 => ?_) (fun hb7 => ?_)
 replace h := bif_t hb7 h
 refine aw_skip ?_
 refine aq_then ?_
 refine aw_seq ?_
 refine aw_block ?_
 refine sm_ ?_
 refine an_ ?_
 refine aw_seq ?_
 obtain ⟨u8, hu9, h⟩ := opt_some h
 obtain ⟨u11, hu12, h⟩ := opt_some h
 refine aw_region_draw 8 [(16, (fE v0_0)), (17, (fE (iq l4i13))), (18, (fun p10 => (fPtr tyStr p10 u8))), (19, (fE (str u8))), (20, (fE v1_0)), (21, (fE (iq l4i13))), (22, (fun p13 => (fPtr tyStr p13 u11))), (23, (fE (str u11)))] (tab [(0, v0_0), (1, v1_0), (5, (iq l4i13)), (12, (iq (a0.length : Int))), (13, (iq l4i13))]) mixed (by kernel_rfl) rfl rfl rfl (fun a hs => hs.tab _ (allT_mem ⟨rfl, rfl, rfl, rfl, rfl, trivial⟩)) ⟨⟨rfl, ld_val (ov_move rfl rfl)⟩, ⟨rfl, ld_val (ov_move rfl rfl)⟩, ⟨rfl, ld_eq (j := 0) rfl rfl (ld_eq (j := 1) rfl rfl (ld_of (of_idxD 0 hu9 rfl rfl rfl Try.underlying64 sz9 rfl)))⟩, ⟨rfl, ld_fact (j := 2) rfl rfl (fun p10 => ld_val (ov_loadP (ds := [(str u8)]) 0 rfl (fun h => h) rfl Try.underlying9 sz9 rfl rfl rfl))⟩, ⟨rfl, ld_val (ov_move rfl rfl)⟩, ⟨rfl, ld_val (ov_move rfl rfl)⟩, ⟨rfl, ld_eq (j := 4) rfl rfl (ld_eq (j := 5) rfl rfl (ld_of (of_idxD 1 hu12 rfl rfl rfl Try.underlying64 sz9 rfl)))⟩, ⟨rfl, ld_fact (j := 6) rfl rfl (fun p13 => ld_val (ov_loadP (ds := [(str u11)]) 0 rfl (fun h => h) rfl Try.underlying9 sz9 rfl rfl rfl))⟩, trivial⟩ ?_
 refine tl_eq 3 rfl ?_
 refine tl_eq 7 rfl ?_
 refine tl_done ?_
 refine al_val (ov_strCmp rfl rfl rfl rfl) ?_
 refine al_nt ?_
 refine aw_cond rfl (fun hb14 => ?_) (fun hb14 => ?_)
 replace h := bif_t hb14 h
 refine aw_sr ?_
 refine an_ ?_
 refine aw_ret ?_
 refine aq_block_ret ?_
 refine aq_then_ret ?_
 refine aq_then_ret ?_
 refine aq_block_ret ?_
 refine aq_then_ret ?_
 cases h
 exact fr1_
 replace h := bif_f hb14 h
 refine aw_skip ?_
 refine aq_block ?_
 refine aq_then ?_
 refine aw_region ?_
 refine in_ ?_
 refine mv_ ?_
 refine al_nil ?_
 exact aq_again k5 (wq (l4i13 + (1 : Int))) (Nat.lt_succ_self _) h (nm_ [] [0, 1] (by decide) ⟨rfl, rfl, rfl, rfl, trivial⟩)
 replace h := bif_f hb7 h
 refine aw_exit ?_
 refine aq_then_exit ?_
 refine aq_then_exit ?_
 refine aq_block_exit ?_
 exact aq_join () h (nm_ [] [0, 1] (by decide) trivial)
 -- STUCK (*lumberroom/disk.Disk).Fuse: lty ['pointer', 54]
 -- STUCK (*lumberroom/lumref.Disk).Fuse: lty ['pointer', 57]
 -- STUCK (*lumberroom/disk.Disk).Crash: lty ['pointer', 54]
 -- STUCK (*lumberroom/lumref.Disk).Crash: lty ['pointer', 57]
 -- STUCK lumberroom/lumlaw.sameDeed: lty ['pointer', 54]
 -- STUCK lumberroom/lumlaw.SameFiles: lty ['pointer', 54]
def f___disk_Disk__down (fu : Nat) (a0 : D_disk_Disk) : Option (Bool × D_disk_Disk) := (lt (fun (j1b2 : Bool) => (some (j1b2, a0))) fun (kk2 : Bool → Option (Bool × D_disk_Disk)) => (bif a0.fused then (kk2 (a0.left == (0 : Int))) else (kk2 false)))
abbrev mm4 (w0 : World) (Z0 : Nat → Prop) (a0 : D_disk_Disk) (bx0 : Nat) (gm0_1 : Nat) (gm0_2 : Nat) (v0_3 : Value) : Mem := memOf w0 Z0 [(oBox bx0 54 [(int .i64 a0.room), (Value.map (some gm0_1)), (Value.map (some gm0_2)), v0_3, (bool a0.fused), (int .i64 a0.left)]), (oMapK Try.prog 9 gm0_1 str str a0.files), (oMapK Try.prog 9 gm0_2 str str a0.durable), (oRow v0_3 114 tyI114 a0.changes)] [(oMapK Try.prog 9 gm0_1 str str a0.files), (oMapK Try.prog 9 gm0_2 str str a0.durable), (oRow v0_3 114 tyI114 a0.changes), (oBox bx0 54 [(int .i64 a0.room), (Value.map (some gm0_1)), (Value.map (some gm0_2)), v0_3, (bool a0.fused), (int .i64 a0.left)])] []
set_option maxHeartbeats 2000000 in
set_option maxRecDepth 100000 in
theorem f___disk_Disk__down_ok (fu : Nat) (bx0 : Nat) (gm0_1 : Nat) (gm0_2 : Nat) (v0_3 : Value) (a0 : D_disk_Disk) {r : (Bool × D_disk_Disk)} (h : f___disk_Disk__down fu a0 = some r) : FnOk Try.prog 61 [(ptr bx0 0)] [] [(oBox bx0 54 [(int .i64 a0.room), (Value.map (some gm0_1)), (Value.map (some gm0_2)), v0_3, (bool a0.fused), (int .i64 a0.left)]), (oMapK Try.prog 9 gm0_1 str str a0.files), (oMapK Try.prog 9 gm0_2 str str a0.durable), (oRow v0_3 114 tyI114 a0.changes)] (fun (i : Nat × Nat × Value) => { val := (bool r.1), own := [(oBox bx0 54 [(int .i64 r.2.room), (Value.map (some i.1)), (Value.map (some i.2.1)), i.2.2, (bool r.2.fused), (int .i64 r.2.left)]), (oMapK Try.prog 9 i.1 str str r.2.files), (oMapK Try.prog 9 i.2.1 str str r.2.durable), (oRow i.2.2 114 tyI114 r.2.changes)] }) := by
 unfold f___disk_Disk__down at h
 refine fn_enter Try.func61 rfl Try.ntmps61 rfl (fun w0 Z0 => ?_)
 refine aw_sr ?_
 refine an_ ?_
 obtain ⟨kk2, hkk2, h⟩ := lt_some h
 refine aw_seq_join (ι := Bool) (fun i => (mm4 w0 Z0 a0 bx0 gm0_1 gm0_2 v0_3)) (fun i => (tab [(0, (pq bx0)), (2, (bool i))])) (fun i => kk2 i = some r) ?_ ?_
 rintro j1b2 h
 have h : kk2 j1b2 = some r := h
 rw [hkk2] at h
 dsimp only at h
 clear hkk2
 refine aw_show (m := (mm4 w0 Z0 a0 bx0 gm0_1 gm0_2 v0_3)) (S := _) ?_
 refine aw_ret ?_
 cases h
 exact fn_ret (gm0_1, gm0_2, v0_3) [3, 0, 1, 2] [] rfl rfl rfl rfl (res1 rfl rfl) rfl rfl rfl (by decide)
 clear hkk2
 refine aw_region ?_
 refine mv_ ?_
 refine al_val (ov_nilCheck rfl rfl) ?_
 refine al_val (ov_fieldA (p := 4) rfl Try.underlying54 rfl sz4 rfl rfl rfl) ?_
 refine al_val (ov_load (i := 0) (v := (bool a0.fused)) rfl rfl Try.underlying4 sz4 rfl rfl rfl rfl) ?_
 refine mv_ ?_
 refine al_caseB 7 rfl (fun hb3 => ?_) (fun hb3 => ?_)
 replace h := bif_t hb3 h
 refine mv_ ?_
 refine al_val (ov_nilCheck rfl rfl) ?_
 refine al_val (ov_fieldA (p := 5) rfl Try.underlying54 rfl sz3 rfl rfl rfl) ?_
 refine al_val (ov_load (i := 0) (v := (iq a0.left)) rfl rfl Try.underlying3 sz3 rfl rfl rfl rfl) ?_
 refine in_ ?_
 refine al_val (ov_pick_t rfl rfl rfl) ?_
 refine as_ ?_
 refine al_nil ?_
 exact aq_join (a0.left == (0 : Int)) h (nm_ [1, 2, 3, 0] [] (by decide) ⟨rfl, rfl, trivial⟩)
 replace h := bif_f hb3 h
 iterate 5 refine al_skip ?_
 refine al_val (ov_pick_f rfl rfl rfl) ?_
 refine as_ ?_
 refine al_nil ?_
 exact aq_join false h (nm_ [1, 2, 3, 0] [] (by decide) ⟨rfl, rfl, trivial⟩)
def f___disk_Disk__begin (fu : Nat) (a0 : D_disk_Disk) : Option (Int × D_disk_Disk) := (opt (f___disk_Disk__down fu a0) fun (r2 : (Bool × D_disk_Disk)) => (bif r2.1 then (some ((17 : Int), r2.2)) else (lt (fun (j7i0_5 : Int) => (some ((0 : Int), (D_disk_Disk.mk r2.2.room r2.2.files r2.2.durable r2.2.changes r2.2.fused j7i0_5)))) fun (kk8 : Int → Option (Int × D_disk_Disk)) => (bif r2.2.fused then (kk8 (IntKind.i64.wrap (r2.2.left - (1 : Int)))) else (kk8 r2.2.left)))))
abbrev mm5 (w0 : World) (Z0 : Nat → Prop) (a0 : D_disk_Disk) (bx0 : Nat) (g3 : Nat) (g4 : Nat) (gm0_1 : Nat) (gm0_2 : Nat) (j7i0_5 : Int) (r2 : (Bool × D_disk_Disk)) (v0_3 : Value) (v5 : Value) : Mem := memOf w0 Z0 [(oBox bx0 54 [(int .i64 a0.room), (Value.map (some gm0_1)), (Value.map (some gm0_2)), v0_3, (bool a0.fused), (int .i64 a0.left)]), (oMapK Try.prog 9 gm0_1 str str a0.files), (oMapK Try.prog 9 gm0_2 str str a0.durable), (oRow v0_3 114 tyI114 a0.changes)] [(oMapK Try.prog 9 g3 str str r2.2.files), (oMapK Try.prog 9 g4 str str r2.2.durable), (oRow v5 114 tyI114 r2.2.changes), (oBox bx0 54 [(int .i64 r2.2.room), (Value.map (some g3)), (Value.map (some g4)), v5, (bool r2.2.fused), (int .i64 j7i0_5)])] []
set_option maxHeartbeats 2000000 in
set_option maxRecDepth 100000 in
theorem f___disk_Disk__begin_ok (fu : Nat) (bx0 : Nat) (gm0_1 : Nat) (gm0_2 : Nat) (v0_3 : Value) (a0 : D_disk_Disk) {r : (Int × D_disk_Disk)} (h : f___disk_Disk__begin fu a0 = some r) : FnOk Try.prog 52 [(ptr bx0 0)] [] [(oBox bx0 54 [(int .i64 a0.room), (Value.map (some gm0_1)), (Value.map (some gm0_2)), v0_3, (bool a0.fused), (int .i64 a0.left)]), (oMapK Try.prog 9 gm0_1 str str a0.files), (oMapK Try.prog 9 gm0_2 str str a0.durable), (oRow v0_3 114 tyI114 a0.changes)] (fun (i : Nat × Nat × Value) => { val := (int .i64 r.1), own := [(oBox bx0 54 [(int .i64 r.2.room), (Value.map (some i.1)), (Value.map (some i.2.1)), i.2.2, (bool r.2.fused), (int .i64 r.2.left)]), (oMapK Try.prog 9 i.1 str str r.2.files), (oMapK Try.prog 9 i.2.1 str str r.2.durable), (oRow i.2.2 114 tyI114 r.2.changes)] }) := by
 unfold f___disk_Disk__begin at h
 refine fn_enter Try.func52 rfl Try.ntmps52 rfl (fun w0 Z0 => ?_)
 refine aw_sr ?_
 refine an_ ?_
 refine aw_seq ?_
 refine sm_ ?_
 obtain ⟨r2, hc1, h⟩ := opt_some h
 refine al_call (vs := [(pq bx0)]) (f___disk_Disk__down_ok fu bx0 gm0_1 gm0_2 v0_3 a0 hc1) [] [0, 1, 2, 3] [] pre_nil rfl (by simp) (by decide) (.inl rfl) rfl Try.func61 rfl rfl rfl (fun ⟨g3, g4, v5⟩ => ?_)
 refine al_nt ?_
 refine aw_cond rfl (fun hb6 => ?_) (fun hb6 => ?_)
 replace h := bif_t hb6 h
 refine aw_sr ?_
 refine an_ ?_
 refine aw_ret ?_
 refine aq_then_ret ?_
 cases h
 exact fn_ret (g3, g4, v5) [0, 1, 2, 3] [] rfl rfl rfl rfl (res1 rfl rfl) rfl rfl rfl (by decide)
 replace h := bif_f hb6 h
 refine aw_skip ?_
 refine aq_then ?_
 obtain ⟨kk8, hkk8, h⟩ := lt_some h
 refine aw_seq_join (ι := Int) (fun i => (mm5 w0 Z0 a0 bx0 g3 g4 gm0_1 gm0_2 i r2 v0_3 v5)) (fun i => (tab [(0, (pq bx0))])) (fun i => kk8 i = some r) ?_ ?_
 rintro j7i0_5 h
 have h : kk8 j7i0_5 = some r := h
 rw [hkk8] at h
 dsimp only at h
 clear hkk8
 refine aw_show (m := (mm5 w0 Z0 a0 bx0 g3 g4 gm0_1 gm0_2 j7i0_5 r2 v0_3 v5)) (S := _) ?_
 refine aw_sr ?_
 refine an_ ?_
 refine aw_ret ?_
 cases h
 exact fn_ret (g3, g4, v5) [3, 0, 1, 2] [] rfl rfl rfl rfl (res1 rfl rfl) rfl rfl rfl (by decide)
 clear hkk8
 refine sm_ ?_
 refine al_val (ov_nilCheck rfl rfl) ?_
 refine al_val (ov_fieldA (p := 4) rfl Try.underlying54 rfl sz4 rfl rfl rfl) ?_
 refine al_val (ov_load (i := 0) (v := (bool r2.2.fused)) rfl rfl Try.underlying4 sz4 rfl rfl rfl rfl) ?_
 refine al_nt ?_
 refine aw_cond rfl (fun hb9 => ?_) (fun hb9 => ?_)
 replace h := bif_t hb9 h
 refine aw_region ?_
 refine mv_ ?_
 refine al_val (ov_nilCheck rfl rfl) ?_
 refine al_val (ov_fieldA (p := 5) rfl Try.underlying54 rfl sz3 rfl rfl rfl) ?_
 refine al_val (ov_load (i := 0) (v := (iq r2.2.left)) rfl rfl Try.underlying3 sz3 rfl rfl rfl rfl) ?_
 refine in_ ?_
 refine al_val (ov_nilCheck rfl rfl) ?_
 refine al_val (ov_fieldA (p := 5) rfl Try.underlying54 rfl sz3 rfl rfl rfl) ?_
 refine al_store (i := 0) (vs := [(iq (wq (r2.2.left - (1 : Int))))]) (cs' := [(iq r2.2.room), (Value.map (some g3)), (Value.map (some g4)), v5, (bool r2.2.fused), (iq (wq (r2.2.left - (1 : Int))))]) rfl rfl rfl sz3 (cv_rfl rfl) rfl (co_val rfl co_nil) (Nat.le_of_ble_eq_true rfl) rfl rfl ?_
 refine al_nil ?_
 exact aq_join (wq (r2.2.left - (1 : Int))) h (nm_ [1, 2, 3, 0] [] (by decide) ⟨rfl, trivial⟩)
 replace h := bif_f hb9 h
 refine aw_skip ?_
 exact aq_join r2.2.left h (nm_ [1, 2, 3, 0] [] (by decide) ⟨rfl, trivial⟩)
def f__disk_write__apply (fu : Nat) (a0 : S_disk_write) (a1 : (List ((List UInt8) × (List UInt8)))) (a2 : Int) : Option (List ((List UInt8) × (List UInt8))) := (req (0 ≤ (if (a0.s.length : Int) < a2 then (a0.s.length : Int) else a2) ∧ (if (a0.s.length : Int) < a2 then (a0.s.length : Int) else a2) ≤ (a0.s.length : Int)) (req (a0.name.length ≤ 9223372036854775807) (some (gset a1 a0.name (a0.s.take ((if (a0.s.length : Int) < a2 then (a0.s.length : Int) else a2)).toNat)))))
set_option maxRecDepth 100000 in
theorem f__disk_write__apply_ok (fu : Nat) (a0 : S_disk_write) (gm1 : Nat) (a1 : (List ((List UInt8) × (List UInt8)))) (a2 : Int) {r : (List ((List UInt8) × (List UInt8)))} (h : f__disk_write__apply fu a0 a1 a2 = some r) : FnOk Try.prog 124 [(ag [(str a0.name), (str a0.s)]), (Value.map (some gm1)), (int .i64 a2)] [] [(oMapK Try.prog 9 gm1 str str a1)] (fun (i : Unit) => { val := (Value.tuple #[]), own := [(oMapK Try.prog 9 gm1 str str r)] }) := by
 unfold f__disk_write__apply at h
 refine fn_enter Try.func124 rfl Try.ntmps124 rfl (fun w0 Z0 => ?_)
 refine aw_sr ?_
 refine al_box (vs := [(str a0.name), (str a0.s)]) rfl (cv_rfl rfl) rfl (fun g1 => ?_)
 refine al_nt ?_
 obtain ⟨hc2, h⟩ := req_some h
 refine aw_region_draw 11 [(6, (fE (Value.map (some gm1)))), (7, (fE (pq g1))), (8, (fE (str a0.name))), (9, (fE (ptr g1 1))), (10, (fE (str a0.s))), (11, (fE (iq a2))), (12, (fE (ptr g1 1))), (13, (fE (str a0.s))), (14, (fE (iq (a0.s.length : Int)))), (15, (fE (iq (if (a0.s.length : Int) < a2 then (a0.s.length : Int) else a2)))), (16, (fE (str (a0.s.take ((if (a0.s.length : Int) < a2 then (a0.s.length : Int) else a2)).toNat))))] (tab [(1, (Value.map (some gm1))), (2, (iq a2)), (3, (pq g1))]) mixed (by kernel_rfl) rfl rfl rfl (fun a hs => hs.tab _ (allT_mem ⟨rfl, rfl, rfl, trivial⟩)) ⟨⟨rfl, ld_val (ov_move rfl rfl)⟩, ⟨rfl, ld_val (ov_fieldA (p := 0) rfl Try.underlying95 rfl sz9 rfl rfl rfl)⟩, ⟨rfl, ld_eq (j := 1) rfl rfl (ld_val (ov_load (i := 0) (v := (str a0.name)) rfl rfl Try.underlying9 sz9 rfl rfl rfl rfl))⟩, ⟨rfl, ld_val (ov_fieldA (p := 1) rfl Try.underlying95 rfl sz9 rfl rfl rfl)⟩, ⟨rfl, ld_eq (j := 3) rfl rfl (ld_val (ov_load (i := 0) (v := (str a0.s)) rfl rfl Try.underlying9 sz9 rfl rfl rfl rfl))⟩, ⟨rfl, ld_val (ov_move rfl rfl)⟩, ⟨rfl, ld_val (ov_fieldA (p := 1) rfl Try.underlying95 rfl sz9 rfl rfl rfl)⟩, ⟨rfl, ld_eq (j := 6) rfl rfl (ld_val (ov_load (i := 0) (v := (str a0.s)) rfl rfl Try.underlying9 sz9 rfl rfl rfl rfl))⟩, ⟨rfl, ld_eq (j := 7) rfl rfl (ld_val (ov_strLen Try.underlying9 rfl rfl))⟩, ⟨rfl, ld_eq (j := 5) rfl rfl (ld_eq (j := 8) rfl rfl (ld_val (ov_min rfl rfl rfl)))⟩, ⟨rfl, ld_eq (j := 4) rfl rfl (ld_eq (j := 9) rfl rfl (ld_val (ov_strTo hc2.1 hc2.2 Try.underlying9 rfl rfl rfl)))⟩, trivial⟩ ?_
 refine tl_eq 0 rfl ?_
 refine tl_eq 2 rfl ?_
 refine tl_eq 10 rfl ?_
 refine tl_done ?_
 obtain ⟨hc3, h⟩ := req_some h
 refine al_mapSetK (ek := str) (ew := str) (k := a0.name) (v := (a0.s.take ((if (a0.s.length : Int) < a2 then (a0.s.length : Int) else a2)).toNat)) 1 kd9 str_inj (key_str Try.underlying9 hc3) rfl rfl rfl rfl Try.underlying51 rfl ?_
 refine al_nil ?_
 refine fn_end ?_
 cases h
 exact fn_ret () [1] [] rfl rfl rfl rfl (resC rfl (resN) rfl) rfl rfl rfl (by decide)
def f__disk_rename__apply (fu : Nat) (a0 : S_disk_rename) (a1 : (List ((List UInt8) × (List UInt8)))) (a2 : Int) : Option (List ((List UInt8) × (List UInt8))) := (req (a0.from_.length ≤ 9223372036854775807) (lt (fun (j3b22 : Bool) => (bif j3b22 then (req (a0.from_.length ≤ 9223372036854775807) (req (a0.to_.length ≤ 9223372036854775807) (some (gset (gdel a1 a0.from_) a0.to_ ((gget a1 a0.from_).getD ([] : (List UInt8))))))) else (some a1))) fun (kk4 : Bool → Option (List ((List UInt8) × (List UInt8)))) => (bif (gget a1 a0.from_).isSome then (kk4 (!(a0.from_ == a0.to_))) else (kk4 false))))
set_option maxHeartbeats 2000000 in
set_option maxRecDepth 100000 in
theorem f__disk_rename__apply_ok (fu : Nat) (a0 : S_disk_rename) (gm1 : Nat) (a1 : (List ((List UInt8) × (List UInt8)))) (a2 : Int) {r : (List ((List UInt8) × (List UInt8)))} (h : f__disk_rename__apply fu a0 a1 a2 = some r) : FnOk Try.prog 125 [(ag [(str a0.from_), (str a0.to_)]), (Value.map (some gm1)), (int .i64 a2)] [] [(oMapK Try.prog 9 gm1 str str a1)] (fun (i : Unit) => { val := (Value.tuple #[]), own := [(oMapK Try.prog 9 gm1 str str r)] }) := by
 unfold f__disk_rename__apply at h
 refine fn_enter Try.func125 rfl Try.ntmps125 rfl (fun w0 Z0 => ?_)
 refine aw_sr ?_
 refine al_box (vs := [(str a0.from_), (str a0.to_)]) rfl (cv_rfl rfl) rfl (fun g1 => ?_)
 refine al_nt ?_
 refine sm_ ?_
 refine al_val (ov_fieldA (p := 0) rfl Try.underlying98 rfl sz9 rfl rfl rfl) ?_
 refine al_val (ov_load (i := 0) (v := (str a0.from_)) rfl rfl Try.underlying9 sz9 rfl rfl rfl rfl) ?_
 obtain ⟨hc2, h⟩ := req_some h
 refine al_val (v := (Value.tuple #[(str ((gget a1 a0.from_).getD ([] : (List UInt8)))), (bool (gget a1 a0.from_).isSome)])) (ov_lookupOkK (k := a0.from_) (ek := str) (ew := str) (z := ([] : (List UInt8))) 1 kd9 str_inj (key_str Try.underlying9 hc2) rfl rfl rfl Try.underlying51 (zeroOf_to to9) rfl) ?_
 refine mv_ ?_
 refine al_ex rfl rfl rfl ?_
 refine al_ex rfl rfl rfl ?_
 refine as_ ?_
 refine an_ ?_
 obtain ⟨kk4, hkk4, h⟩ := lt_some h
 refine aw_seq_join (ι := Bool) (fun i => (memOf w0 Z0 [(oMapK Try.prog 9 gm1 str str a1)] [(oMapK Try.prog 9 gm1 str str a1), (oBox g1 98 [(str a0.from_), (str a0.to_)])] [])) (fun i => (tab [(1, (Value.map (some gm1))), (3, (pq g1)), (6, (str ((gget a1 a0.from_).getD ([] : (List UInt8))))), (22, (bool i))])) (fun i => kk4 i = some r) ?_ ?_
 rintro j3b22 h
 have h : kk4 j3b22 = some r := h
 rw [hkk4] at h
 dsimp only at h
 clear hkk4
 refine aw_show (m := (memOf w0 Z0 [(oMapK Try.prog 9 gm1 str str a1)] [(oMapK Try.prog 9 gm1 str str a1), (oBox g1 98 [(str a0.from_), (str a0.to_)])] [])) (S := _) ?_
 refine aw_cond rfl (fun hb5 => ?_) (fun hb5 => ?_)
 replace h := bif_t hb5 h
 refine sm_ ?_
 refine al_val (ov_fieldA (p := 0) rfl Try.underlying98 rfl sz9 rfl rfl rfl) ?_
 refine al_val (ov_load (i := 1) (v := (str a0.from_)) rfl rfl Try.underlying9 sz9 rfl rfl rfl rfl) ?_
 obtain ⟨hc6, h⟩ := req_some h
 refine al_mapDelK (ek := str) (k := a0.from_) 0 kd9 str_inj (key_str Try.underlying9 hc6) rfl rfl rfl Try.underlying51 rfl ?_
 refine al_nt ?_
 refine aw_region ?_
 refine mv_ ?_
 refine al_val (ov_fieldA (p := 1) rfl Try.underlying98 rfl sz9 rfl rfl rfl) ?_
 refine al_val (ov_load (i := 1) (v := (str a0.to_)) rfl rfl Try.underlying9 sz9 rfl rfl rfl rfl) ?_
 refine mv_ ?_
 obtain ⟨hc7, h⟩ := req_some h
 refine al_mapSetK (ek := str) (ew := str) (k := a0.to_) (v := ((gget a1 a0.from_).getD ([] : (List UInt8)))) 0 kd9 str_inj (key_str Try.underlying9 hc7) rfl rfl rfl rfl Try.underlying51 rfl ?_
 refine al_nil ?_
 refine fn_end ?_
 cases h
 exact fn_ret () [0] [] rfl rfl rfl rfl (resC rfl (resN) rfl) rfl rfl rfl (by decide)
 replace h := bif_f hb5 h
 refine aw_skip ?_
 refine fn_end ?_
 cases h
 exact fn_ret () [0] [] rfl rfl rfl rfl (resC rfl (resN) rfl) rfl rfl rfl (by decide)
 clear hkk4
 refine aw_region ?_
 refine mv_ ?_
 refine mv_ ?_
 refine al_caseB 16 rfl (fun hb8 => ?_) (fun hb8 => ?_)
 replace h := bif_t hb8 h
 refine al_val (ov_fieldA (p := 0) rfl Try.underlying98 rfl sz9 rfl rfl rfl) ?_
 refine al_val (ov_load (i := 0) (v := (str a0.from_)) rfl rfl Try.underlying9 sz9 rfl rfl rfl rfl) ?_
 refine al_val (ov_fieldA (p := 1) rfl Try.underlying98 rfl sz9 rfl rfl rfl) ?_
 refine al_val (ov_load (i := 0) (v := (str a0.to_)) rfl rfl Try.underlying9 sz9 rfl rfl rfl rfl) ?_
 refine al_val (ov_strCmp rfl rfl rfl rfl) ?_
 refine al_val (ov_pick_t rfl rfl rfl) ?_
 refine al_nil ?_
 exact aq_join (!(a0.from_ == a0.to_)) h (nm_ [1, 0] [] (by decide) ⟨rfl, rfl, rfl, rfl, trivial⟩)
 replace h := bif_f hb8 h
 iterate 5 refine al_skip ?_
 refine al_val (ov_pick_f rfl rfl rfl) ?_
 refine al_nil ?_
 exact aq_join false h (nm_ [1, 0] [] (by decide) ⟨rfl, rfl, rfl, rfl, trivial⟩)
def f__disk_remove__apply (fu : Nat) (a0 : S_disk_remove) (a1 : (List ((List UInt8) × (List UInt8)))) (a2 : Int) : Option (List ((List UInt8) × (List UInt8))) := (req (a0.name.length ≤ 9223372036854775807) (some (gdel a1 a0.name)))
set_option maxRecDepth 100000 in
theorem f__disk_remove__apply_ok (fu : Nat) (a0 : S_disk_remove) (gm1 : Nat) (a1 : (List ((List UInt8) × (List UInt8)))) (a2 : Int) {r : (List ((List UInt8) × (List UInt8)))} (h : f__disk_remove__apply fu a0 a1 a2 = some r) : FnOk Try.prog 126 [(ag [(str a0.name)]), (Value.map (some gm1)), (int .i64 a2)] [] [(oMapK Try.prog 9 gm1 str str a1)] (fun (i : Unit) => { val := (Value.tuple #[]), own := [(oMapK Try.prog 9 gm1 str str r)] }) := by
 unfold f__disk_remove__apply at h
 refine fn_enter Try.func126 rfl Try.ntmps126 rfl (fun w0 Z0 => ?_)
 refine aw_sr ?_
 refine al_box (vs := [(str a0.name)]) rfl (cv_rfl rfl) rfl (fun g1 => ?_)
 refine al_nt ?_
 refine aw_region ?_
 refine mv_ ?_
 refine al_val (ov_fieldA (p := 0) rfl Try.underlying105 rfl sz9 rfl rfl rfl) ?_
 refine al_val (ov_load (i := 0) (v := (str a0.name)) rfl rfl Try.underlying9 sz9 rfl rfl rfl rfl) ?_
 obtain ⟨hc2, h⟩ := req_some h
 refine al_mapDelK (ek := str) (k := a0.name) 1 kd9 str_inj (key_str Try.underlying9 hc2) rfl rfl rfl Try.underlying51 rfl ?_
 refine al_nil ?_
 refine fn_end ?_
 cases h
 exact fn_ret () [1] [] rfl rfl rfl rfl (resC rfl (resN) rfl) rfl rfl rfl (by decide)
def f___disk_Disk__do (fu : Nat) (a0 : D_disk_Disk) (a1 : I114) : Option D_disk_Disk := (match a1 with | .nil => none | .t95 iy2 => (opt (f__disk_write__apply fu iy2 a0.files (65536 : Int)) fun (r4 : (List ((List UInt8) × (List UInt8)))) => (req (((a0.changes.length + ([(I114.t95 iy2)]).length) * 16 : Nat) ≤ 140737488355328 ∧ a0.changes.length + ([(I114.t95 iy2)]).length ≤ 9223372036854775807) (some (D_disk_Disk.mk a0.room r4 a0.durable (a0.changes ++ ([(I114.t95 iy2)])) a0.fused a0.left)))) | .t98 iy8 => (opt (f__disk_rename__apply fu iy8 a0.files (65536 : Int)) fun (r10 : (List ((List UInt8) × (List UInt8)))) => (req (((a0.changes.length + ([(I114.t98 iy8)]).length) * 16 : Nat) ≤ 140737488355328 ∧ a0.changes.length + ([(I114.t98 iy8)]).length ≤ 9223372036854775807) (some (D_disk_Disk.mk a0.room r10 a0.durable (a0.changes ++ ([(I114.t98 iy8)])) a0.fused a0.left)))) | .t105 iy14 => (opt (f__disk_remove__apply fu iy14 a0.files (65536 : Int)) fun (r16 : (List ((List UInt8) × (List UInt8)))) => (req (((a0.changes.length + ([(I114.t105 iy14)]).length) * 16 : Nat) ≤ 140737488355328 ∧ a0.changes.length + ([(I114.t105 iy14)]).length ≤ 9223372036854775807) (some (D_disk_Disk.mk a0.room r16 a0.durable (a0.changes ++ ([(I114.t105 iy14)])) a0.fused a0.left)))))
abbrev mm6 (w0 : World) (Z0 : Nat → Prop) (a0 : D_disk_Disk) (bx0 : Nat) (gm0_1 : Nat) (gm0_2 : Nat) (v0_3 : Value) : Mem := memOf w0 Z0 [(oBox bx0 54 [(int .i64 a0.room), (Value.map (some gm0_1)), (Value.map (some gm0_2)), v0_3, (bool a0.fused), (int .i64 a0.left)]), (oMapK Try.prog 9 gm0_1 str str a0.files), (oMapK Try.prog 9 gm0_2 str str a0.durable), (oRow v0_3 114 tyI114 a0.changes)] [(oBox bx0 54 [(int .i64 a0.room), (Value.map (some gm0_1)), (Value.map (some gm0_2)), v0_3, (bool a0.fused), (int .i64 a0.left)]), (oMapK Try.prog 9 gm0_1 str str a0.files), (oMapK Try.prog 9 gm0_2 str str a0.durable), (oRow v0_3 114 tyI114 a0.changes)] []
abbrev mm7 (w0 : World) (Z0 : Nat → Prop) (a0 : D_disk_Disk) (bx0 : Nat) (gm0_1 : Nat) (gm0_2 : Nat) (r4 : (List ((List UInt8) × (List UInt8)))) (v0_3 : Value) : Mem := memOf w0 Z0 [(oBox bx0 54 [(int .i64 a0.room), (Value.map (some gm0_1)), (Value.map (some gm0_2)), v0_3, (bool a0.fused), (int .i64 a0.left)]), (oMapK Try.prog 9 gm0_1 str str a0.files), (oMapK Try.prog 9 gm0_2 str str a0.durable), (oRow v0_3 114 tyI114 a0.changes)] [(oMapK Try.prog 9 gm0_1 str str r4), (oBox bx0 54 [(int .i64 a0.room), (Value.map (some gm0_1)), (Value.map (some gm0_2)), v0_3, (bool a0.fused), (int .i64 a0.left)]), (oMapK Try.prog 9 gm0_2 str str a0.durable), (oRow v0_3 114 tyI114 a0.changes)] []
abbrev mm8 (w0 : World) (Z0 : Nat → Prop) (a0 : D_disk_Disk) (bx0 : Nat) (gm0_1 : Nat) (gm0_2 : Nat) (r10 : (List ((List UInt8) × (List UInt8)))) (v0_3 : Value) : Mem := memOf w0 Z0 [(oBox bx0 54 [(int .i64 a0.room), (Value.map (some gm0_1)), (Value.map (some gm0_2)), v0_3, (bool a0.fused), (int .i64 a0.left)]), (oMapK Try.prog 9 gm0_1 str str a0.files), (oMapK Try.prog 9 gm0_2 str str a0.durable), (oRow v0_3 114 tyI114 a0.changes)] [(oMapK Try.prog 9 gm0_1 str str r10), (oBox bx0 54 [(int .i64 a0.room), (Value.map (some gm0_1)), (Value.map (some gm0_2)), v0_3, (bool a0.fused), (int .i64 a0.left)]), (oMapK Try.prog 9 gm0_2 str str a0.durable), (oRow v0_3 114 tyI114 a0.changes)] []
abbrev mm9 (w0 : World) (Z0 : Nat → Prop) (a0 : D_disk_Disk) (bx0 : Nat) (gm0_1 : Nat) (gm0_2 : Nat) (r16 : (List ((List UInt8) × (List UInt8)))) (v0_3 : Value) : Mem := memOf w0 Z0 [(oBox bx0 54 [(int .i64 a0.room), (Value.map (some gm0_1)), (Value.map (some gm0_2)), v0_3, (bool a0.fused), (int .i64 a0.left)]), (oMapK Try.prog 9 gm0_1 str str a0.files), (oMapK Try.prog 9 gm0_2 str str a0.durable), (oRow v0_3 114 tyI114 a0.changes)] [(oMapK Try.prog 9 gm0_1 str str r16), (oBox bx0 54 [(int .i64 a0.room), (Value.map (some gm0_1)), (Value.map (some gm0_2)), v0_3, (bool a0.fused), (int .i64 a0.left)]), (oMapK Try.prog 9 gm0_2 str str a0.durable), (oRow v0_3 114 tyI114 a0.changes)] []
set_option maxHeartbeats 2000000 in
set_option maxRecDepth 100000 in
theorem f___disk_Disk__do_ok (fu : Nat) (bx0 : Nat) (gm0_1 : Nat) (gm0_2 : Nat) (v0_3 : Value) (a0 : D_disk_Disk) (a1 : I114) {r : D_disk_Disk} (h : f___disk_Disk__do fu a0 a1 = some r) : FnOk Try.prog 54 [(ptr bx0 0), (encI114 a1)] [] [(oBox bx0 54 [(int .i64 a0.room), (Value.map (some gm0_1)), (Value.map (some gm0_2)), v0_3, (bool a0.fused), (int .i64 a0.left)]), (oMapK Try.prog 9 gm0_1 str str a0.files), (oMapK Try.prog 9 gm0_2 str str a0.durable), (oRow v0_3 114 tyI114 a0.changes)] (fun (i : Nat × Nat × Value) => { val := (Value.tuple #[]), own := [(oBox bx0 54 [(int .i64 r.room), (Value.map (some i.1)), (Value.map (some i.2.1)), i.2.2, (bool r.fused), (int .i64 r.left)]), (oMapK Try.prog 9 i.1 str str r.files), (oMapK Try.prog 9 i.2.1 str str r.durable), (oRow i.2.2 114 tyI114 r.changes)] }) := by
 unfold f___disk_Disk__do at h
 refine fn_enter Try.func54 rfl Try.ntmps54 rfl (fun w0 Z0 => ?_)
 refine aw_seq ?_
 revert h
 generalize a1 = ix1
 intro h
 cases ix1 with
 | nil => cases h
 | t95 iy2 =>
   dsimp only at h
   refine aw_state (m' := (mm6 w0 Z0 a0 bx0 gm0_1 gm0_2 v0_3)) (S' := (tab [(0, (pq bx0)), (1, (Value.iface 95 (ag [(str iy2.name), (str iy2.s)])))])) ?_ (nm_ [0, 1, 2, 3] [] (by decide) ⟨rfl, rfl, trivial⟩)
   refine aw_region_open [(sp_ 0 4 (Value.iface 95 (ag [(str iy2.name), (str iy2.s)]))), (sp_ 1 5 (pq bx0)), (sp_ 2 6 (pq bx0)), (sp_ 3 7 (ptr bx0 1)), (sp_ 4 8 (Value.map (some gm0_1))), (sp_ 5 9 (Value.func (.method "lumberroom/disk.apply") #[(Value.iface 95 (ag [(str iy2.name), (str iy2.s)]))] #[])), (sp_ 6 10 (Value.func (.method "lumberroom/disk.apply") #[(Value.iface 95 (ag [(str iy2.name), (str iy2.s)]))] #[])), (sp_ 7 11 (Value.iface 95 (ag [(str iy2.name), (str iy2.s)])))] (tab [(0, (pq bx0)), (1, (Value.iface 95 (ag [(str iy2.name), (str iy2.s)])))]) mixed (fun a hs => hs.tab _ (allT_mem ⟨rfl, rfl, trivial⟩)) ?_
   refine ta_show (m := (mm6 w0 Z0 a0 bx0 gm0_1 gm0_2 v0_3)) (S := _) ?_
   refine ta_step 8 _ [0, 1, 2, 3, 4, 5, 6, 7] [4, 5, 6, 7, 8, 9, 10, 11] [0, 1, 2, 3, 4, 5, 6, 7] [] [(sp_ 0 4 (Value.iface 95 (ag [(str iy2.name), (str iy2.s)]))), (sp_ 1 5 (pq bx0)), (sp_ 2 6 (pq bx0)), (sp_ 3 7 (ptr bx0 1)), (sp_ 4 8 (Value.map (some gm0_1))), (sp_ 5 9 (Value.func (.method "lumberroom/disk.apply") #[(Value.iface 95 (ag [(str iy2.name), (str iy2.s)]))] #[])), (sp_ 6 10 (Value.func (.method "lumberroom/disk.apply") #[(Value.iface 95 (ag [(str iy2.name), (str iy2.s)]))] #[])), (sp_ 7 11 (Value.iface 95 (ag [(str iy2.name), (str iy2.s)])))] [] rfl rfl rfl (by kernel_rfl) rfl rfl rfl ⟨⟨_, rfl, [], rfl, by
 intro X_ Y_ F_ K_ hK_
 refine sh_ (mm6 w0 Z0 a0 bx0 gm0_1 gm0_2 v0_3) X_ Y_ ?_
 refine mv_ ?_
 refine al_nil ?_
 exact fr_fin hK_ ()⟩, ⟨_, rfl, [], rfl, by
 intro X_ Y_ F_ K_ hK_
 refine sh_ (mm6 w0 Z0 a0 bx0 gm0_1 gm0_2 v0_3) X_ Y_ ?_
 refine mv_ ?_
 refine al_nil ?_
 exact fr_fin hK_ ()⟩, ⟨_, rfl, [1], rfl, by
 intro _
 intro X_ Y_ F_ K_ hK_
 refine sh_ (mm6 w0 Z0 a0 bx0 gm0_1 gm0_2 v0_3) X_ Y_ ?_
 refine al_val (ov_nilCheck rfl rfl) ?_
 refine al_nil ?_
 exact fr_fin hK_ ()⟩, ⟨_, rfl, [2], rfl, by
 intro _
 intro X_ Y_ F_ K_ hK_
 refine sh_ (mm6 w0 Z0 a0 bx0 gm0_1 gm0_2 v0_3) X_ Y_ ?_
 refine al_val (ov_fieldA (p := 1) rfl Try.underlying54 rfl sz51 rfl rfl rfl) ?_
 refine al_nil ?_
 exact fr_fin hK_ ()⟩, ⟨_, rfl, [3], rfl, by
 intro _
 intro X_ Y_ F_ K_ hK_
 refine sh_ (mm6 w0 Z0 a0 bx0 gm0_1 gm0_2 v0_3) X_ Y_ ?_
 refine al_val (ov_load (i := 0) (v := (Value.map (some gm0_1))) rfl rfl Try.underlying51 sz51 rfl rfl rfl rfl) ?_
 refine al_nil ?_
 exact fr_fin hK_ ()⟩, ⟨_, rfl, [0], rfl, by
 intro _
 intro X_ Y_ F_ K_ hK_
 refine sh_ (mm6 w0 Z0 a0 bx0 gm0_1 gm0_2 v0_3) X_ Y_ ?_
 refine al_val (ov_makeMeth rfl rfl) ?_
 refine al_nil ?_
 exact fr_fin hK_ ()⟩, ⟨_, rfl, [5], rfl, by
 intro _
 intro X_ Y_ F_ K_ hK_
 refine sh_ (mm6 w0 Z0 a0 bx0 gm0_1 gm0_2 v0_3) X_ Y_ ?_
 refine al_val (ov_nilCheckM me95 Try.underlying95 rfl rfl rfl) ?_
 refine al_nil ?_
 exact fr_fin hK_ ()⟩, ⟨_, rfl, [0, 5, 6], rfl, by
 intro _
 intro _
 intro _
 intro X_ Y_ F_ K_ hK_
 refine sh_ (mm6 w0 Z0 a0 bx0 gm0_1 gm0_2 v0_3) X_ Y_ ?_
 refine mv_ ?_
 refine al_nil ?_
 exact fr_fin hK_ ()⟩, trivial⟩ ?_
   intro _
   intro _
   intro _
   intro _
   intro _
   intro _
   intro _
   intro _
   intro X_ Y_ F_ K_ hK_
   refine sh_ (mm6 w0 Z0 a0 bx0 gm0_1 gm0_2 v0_3) X_ Y_ ?_
   obtain ⟨r4, hc3, h⟩ := opt_some h
   refine al_callIX (vs := [(Value.map (some gm0_1)), (iq (65536 : Int))]) (f__disk_write__apply_ok fu iy2 gm0_1 a0.files (65536 : Int) hc3) rfl [] [1] [0, 2, 3] pre_nil rfl (by simp) (by decide) rfl (.inl rfl) me95 Try.underlying95 rfl rfl rfl Try.func124 rfl rfl rfl (fun _ => ?_)
   refine al_nil ?_
   refine aq_show (m := Mem.plus (mm7 w0 Z0 a0 bx0 gm0_1 gm0_2 r4 v0_3) X_ Y_) ?_
   refine aq_next hK_ [0, 1, 2, 3] [] [(0, (pq bx0)), (1, (Value.iface 95 (ag [(str iy2.name), (str iy2.s)])))] [] [] rfl rfl (by decide) rfl ⟨rfl, rfl, trivial⟩ trivial ?_
   clear hK_ K_ F_ X_ Y_
   refine ta_show (m := (mm7 w0 Z0 a0 bx0 gm0_1 gm0_2 r4 v0_3)) (S := _) ?_
   refine ta_end [] [] rfl rfl (by kernel_rfl) rfl trivial ?_
   refine aq_show (m := (mm7 w0 Z0 a0 bx0 gm0_1 gm0_2 r4 v0_3)) (S := (tab [(0, (pq bx0)), (1, (Value.iface 95 (ag [(str iy2.name), (str iy2.s)])))])) ?_
   refine aq_then ?_
   refine aw_region ?_
   refine mv_ ?_
   refine mv_ ?_
   refine al_val (ov_nilCheck rfl rfl) ?_
   refine al_val (ov_fieldA (p := 3) rfl Try.underlying54 rfl sz52 rfl rfl rfl) ?_
   refine al_val (ov_load (i := 1) (v := v0_3) rfl rfl Try.underlying52 sz52 rfl rfl rfl rfl) ?_
   refine mv_ ?_
   refine al_buildSlice (τ := tyI114) (e := 114) (k := 1) (sz := 0) (by_ := 0) (z := undef) (cs := [(Value.iface 95 (ag [(str iy2.name), (str iy2.s)]))]) (xs := [(I114.t95 iy2)]) rfl (by decide) (fun w a hm hs => ⟨([(Value.iface 95 (ag [(str iy2.name), (str iy2.s)]))]).toArray, rfl, by simp only [List.map_toArray, List.map_cons, List.map_nil, hs.ev (x := .tmp 18) rfl]; exact run_bs [(Value.iface 95 (ag [(str iy2.name), (str iy2.s)]))] [(Value.iface 95 (ag [(str iy2.name), (str iy2.s)]))] Try.underlying52 to114 rfl rfl (bs_cons (l := [(Value.iface 95 (ag [(str iy2.name), (str iy2.s)]))]) (cs := []) (cv_rfl rfl) rfl bs_nil) hm⟩) (fun hm => ⟨_, _, rfl, (fun _ => rfl) hm, rfl⟩) rfl (fun v5 => ?_)
   obtain ⟨hc6, h⟩ := req_some h
   refine al_append 4 hc6.1 hc6.2 rfl (src_own (i := 4) 0 rfl) rfl rfl Try.underlying52 to114 rfl rfl rfl (fun v7 => ?_)
   refine al_val (ov_nilCheck rfl rfl) ?_
   refine al_val (ov_fieldA (p := 3) rfl Try.underlying54 rfl sz52 rfl rfl rfl) ?_
   refine al_store (i := 2) (vs := [v7]) (cs' := [(iq a0.room), (Value.map (some gm0_1)), (Value.map (some gm0_2)), v7, (bool a0.fused), (iq a0.left)]) rfl rfl rfl sz52 (cv_own 4 rfl) rfl (co_own 4 rfl co_nil) (Nat.le_of_ble_eq_true rfl) rfl rfl ?_
   refine al_nil ?_
   refine fn_end ?_
   cases h
   exact fn_ret (gm0_1, gm0_2, v7) [2, 1, 3, 4] [] rfl rfl rfl rfl (resC rfl (resN) rfl) rfl rfl rfl (by decide)
 | t98 iy8 =>
   dsimp only at h
   refine aw_state (m' := (mm6 w0 Z0 a0 bx0 gm0_1 gm0_2 v0_3)) (S' := (tab [(0, (pq bx0)), (1, (Value.iface 98 (ag [(str iy8.from_), (str iy8.to_)])))])) ?_ (nm_ [0, 1, 2, 3] [] (by decide) ⟨rfl, rfl, trivial⟩)
   refine aw_region_open [(sp_ 0 4 (Value.iface 98 (ag [(str iy8.from_), (str iy8.to_)]))), (sp_ 1 5 (pq bx0)), (sp_ 2 6 (pq bx0)), (sp_ 3 7 (ptr bx0 1)), (sp_ 4 8 (Value.map (some gm0_1))), (sp_ 5 9 (Value.func (.method "lumberroom/disk.apply") #[(Value.iface 98 (ag [(str iy8.from_), (str iy8.to_)]))] #[])), (sp_ 6 10 (Value.func (.method "lumberroom/disk.apply") #[(Value.iface 98 (ag [(str iy8.from_), (str iy8.to_)]))] #[])), (sp_ 7 11 (Value.iface 98 (ag [(str iy8.from_), (str iy8.to_)])))] (tab [(0, (pq bx0)), (1, (Value.iface 98 (ag [(str iy8.from_), (str iy8.to_)])))]) mixed (fun a hs => hs.tab _ (allT_mem ⟨rfl, rfl, trivial⟩)) ?_
   refine ta_show (m := (mm6 w0 Z0 a0 bx0 gm0_1 gm0_2 v0_3)) (S := _) ?_
   refine ta_step 8 _ [0, 1, 2, 3, 4, 5, 6, 7] [4, 5, 6, 7, 8, 9, 10, 11] [0, 1, 2, 3, 4, 5, 6, 7] [] [(sp_ 0 4 (Value.iface 98 (ag [(str iy8.from_), (str iy8.to_)]))), (sp_ 1 5 (pq bx0)), (sp_ 2 6 (pq bx0)), (sp_ 3 7 (ptr bx0 1)), (sp_ 4 8 (Value.map (some gm0_1))), (sp_ 5 9 (Value.func (.method "lumberroom/disk.apply") #[(Value.iface 98 (ag [(str iy8.from_), (str iy8.to_)]))] #[])), (sp_ 6 10 (Value.func (.method "lumberroom/disk.apply") #[(Value.iface 98 (ag [(str iy8.from_), (str iy8.to_)]))] #[])), (sp_ 7 11 (Value.iface 98 (ag [(str iy8.from_), (str iy8.to_)])))] [] rfl rfl rfl (by kernel_rfl) rfl rfl rfl ⟨⟨_, rfl, [], rfl, by
 intro X_ Y_ F_ K_ hK_
 refine sh_ (mm6 w0 Z0 a0 bx0 gm0_1 gm0_2 v0_3) X_ Y_ ?_
 refine mv_ ?_
 refine al_nil ?_
 exact fr_fin hK_ ()⟩, ⟨_, rfl, [], rfl, by
 intro X_ Y_ F_ K_ hK_
 refine sh_ (mm6 w0 Z0 a0 bx0 gm0_1 gm0_2 v0_3) X_ Y_ ?_
 refine mv_ ?_
 refine al_nil ?_
 exact fr_fin hK_ ()⟩, ⟨_, rfl, [1], rfl, by
 intro _
 intro X_ Y_ F_ K_ hK_
 refine sh_ (mm6 w0 Z0 a0 bx0 gm0_1 gm0_2 v0_3) X_ Y_ ?_
 refine al_val (ov_nilCheck rfl rfl) ?_
 refine al_nil ?_
 exact fr_fin hK_ ()⟩, ⟨_, rfl, [2], rfl, by
 intro _
 intro X_ Y_ F_ K_ hK_
 refine sh_ (mm6 w0 Z0 a0 bx0 gm0_1 gm0_2 v0_3) X_ Y_ ?_
 refine al_val (ov_fieldA (p := 1) rfl Try.underlying54 rfl sz51 rfl rfl rfl) ?_
 refine al_nil ?_
 exact fr_fin hK_ ()⟩, ⟨_, rfl, [3], rfl, by
 intro _
 intro X_ Y_ F_ K_ hK_
 refine sh_ (mm6 w0 Z0 a0 bx0 gm0_1 gm0_2 v0_3) X_ Y_ ?_
 refine al_val (ov_load (i := 0) (v := (Value.map (some gm0_1))) rfl rfl Try.underlying51 sz51 rfl rfl rfl rfl) ?_
 refine al_nil ?_
 exact fr_fin hK_ ()⟩, ⟨_, rfl, [0], rfl, by
 intro _
 intro X_ Y_ F_ K_ hK_
 refine sh_ (mm6 w0 Z0 a0 bx0 gm0_1 gm0_2 v0_3) X_ Y_ ?_
 refine al_val (ov_makeMeth rfl rfl) ?_
 refine al_nil ?_
 exact fr_fin hK_ ()⟩, ⟨_, rfl, [5], rfl, by
 intro _
 intro X_ Y_ F_ K_ hK_
 refine sh_ (mm6 w0 Z0 a0 bx0 gm0_1 gm0_2 v0_3) X_ Y_ ?_
 refine al_val (ov_nilCheckM me98 Try.underlying98 rfl rfl rfl) ?_
 refine al_nil ?_
 exact fr_fin hK_ ()⟩, ⟨_, rfl, [0, 5, 6], rfl, by
 intro _
 intro _
 intro _
 intro X_ Y_ F_ K_ hK_
 refine sh_ (mm6 w0 Z0 a0 bx0 gm0_1 gm0_2 v0_3) X_ Y_ ?_
 refine mv_ ?_
 refine al_nil ?_
 exact fr_fin hK_ ()⟩, trivial⟩ ?_
   intro _
   intro _
   intro _
   intro _
   intro _
   intro _
   intro _
   intro _
   intro X_ Y_ F_ K_ hK_
   refine sh_ (mm6 w0 Z0 a0 bx0 gm0_1 gm0_2 v0_3) X_ Y_ ?_
   obtain ⟨r10, hc9, h⟩ := opt_some h
   refine al_callIX (vs := [(Value.map (some gm0_1)), (iq (65536 : Int))]) (f__disk_rename__apply_ok fu iy8 gm0_1 a0.files (65536 : Int) hc9) rfl [] [1] [0, 2, 3] pre_nil rfl (by simp) (by decide) rfl (.inl rfl) me98 Try.underlying98 rfl rfl rfl Try.func125 rfl rfl rfl (fun _ => ?_)
   refine al_nil ?_
   refine aq_show (m := Mem.plus (mm8 w0 Z0 a0 bx0 gm0_1 gm0_2 r10 v0_3) X_ Y_) ?_
   refine aq_next hK_ [0, 1, 2, 3] [] [(0, (pq bx0)), (1, (Value.iface 98 (ag [(str iy8.from_), (str iy8.to_)])))] [] [] rfl rfl (by decide) rfl ⟨rfl, rfl, trivial⟩ trivial ?_
   clear hK_ K_ F_ X_ Y_
   refine ta_show (m := (mm8 w0 Z0 a0 bx0 gm0_1 gm0_2 r10 v0_3)) (S := _) ?_
   refine ta_end [] [] rfl rfl (by kernel_rfl) rfl trivial ?_
   refine aq_show (m := (mm8 w0 Z0 a0 bx0 gm0_1 gm0_2 r10 v0_3)) (S := (tab [(0, (pq bx0)), (1, (Value.iface 98 (ag [(str iy8.from_), (str iy8.to_)])))])) ?_
   refine aq_then ?_
   refine aw_region ?_
   refine mv_ ?_
   refine mv_ ?_
   refine al_val (ov_nilCheck rfl rfl) ?_
   refine al_val (ov_fieldA (p := 3) rfl Try.underlying54 rfl sz52 rfl rfl rfl) ?_
   refine al_val (ov_load (i := 1) (v := v0_3) rfl rfl Try.underlying52 sz52 rfl rfl rfl rfl) ?_
   refine mv_ ?_
   refine al_buildSlice (τ := tyI114) (e := 114) (k := 1) (sz := 0) (by_ := 0) (z := undef) (cs := [(Value.iface 98 (ag [(str iy8.from_), (str iy8.to_)]))]) (xs := [(I114.t98 iy8)]) rfl (by decide) (fun w a hm hs => ⟨([(Value.iface 98 (ag [(str iy8.from_), (str iy8.to_)]))]).toArray, rfl, by simp only [List.map_toArray, List.map_cons, List.map_nil, hs.ev (x := .tmp 18) rfl]; exact run_bs [(Value.iface 98 (ag [(str iy8.from_), (str iy8.to_)]))] [(Value.iface 98 (ag [(str iy8.from_), (str iy8.to_)]))] Try.underlying52 to114 rfl rfl (bs_cons (l := [(Value.iface 98 (ag [(str iy8.from_), (str iy8.to_)]))]) (cs := []) (cv_rfl rfl) rfl bs_nil) hm⟩) (fun hm => ⟨_, _, rfl, (fun _ => rfl) hm, rfl⟩) rfl (fun v11 => ?_)
   obtain ⟨hc12, h⟩ := req_some h
   refine al_append 4 hc12.1 hc12.2 rfl (src_own (i := 4) 0 rfl) rfl rfl Try.underlying52 to114 rfl rfl rfl (fun v13 => ?_)
   refine al_val (ov_nilCheck rfl rfl) ?_
   refine al_val (ov_fieldA (p := 3) rfl Try.underlying54 rfl sz52 rfl rfl rfl) ?_
   refine al_store (i := 2) (vs := [v13]) (cs' := [(iq a0.room), (Value.map (some gm0_1)), (Value.map (some gm0_2)), v13, (bool a0.fused), (iq a0.left)]) rfl rfl rfl sz52 (cv_own 4 rfl) rfl (co_own 4 rfl co_nil) (Nat.le_of_ble_eq_true rfl) rfl rfl ?_
   refine al_nil ?_
   refine fn_end ?_
   cases h
   exact fn_ret (gm0_1, gm0_2, v13) [2, 1, 3, 4] [] rfl rfl rfl rfl (resC rfl (resN) rfl) rfl rfl rfl (by decide)
 | t105 iy14 =>
   dsimp only at h
   refine aw_state (m' := (mm6 w0 Z0 a0 bx0 gm0_1 gm0_2 v0_3)) (S' := (tab [(0, (pq bx0)), (1, (Value.iface 105 (ag [(str iy14.name)])))])) ?_ (nm_ [0, 1, 2, 3] [] (by decide) ⟨rfl, rfl, trivial⟩)
   refine aw_region_open [(sp_ 0 4 (Value.iface 105 (ag [(str iy14.name)]))), (sp_ 1 5 (pq bx0)), (sp_ 2 6 (pq bx0)), (sp_ 3 7 (ptr bx0 1)), (sp_ 4 8 (Value.map (some gm0_1))), (sp_ 5 9 (Value.func (.method "lumberroom/disk.apply") #[(Value.iface 105 (ag [(str iy14.name)]))] #[])), (sp_ 6 10 (Value.func (.method "lumberroom/disk.apply") #[(Value.iface 105 (ag [(str iy14.name)]))] #[])), (sp_ 7 11 (Value.iface 105 (ag [(str iy14.name)])))] (tab [(0, (pq bx0)), (1, (Value.iface 105 (ag [(str iy14.name)])))]) mixed (fun a hs => hs.tab _ (allT_mem ⟨rfl, rfl, trivial⟩)) ?_
   refine ta_show (m := (mm6 w0 Z0 a0 bx0 gm0_1 gm0_2 v0_3)) (S := _) ?_
   refine ta_step 8 _ [0, 1, 2, 3, 4, 5, 6, 7] [4, 5, 6, 7, 8, 9, 10, 11] [0, 1, 2, 3, 4, 5, 6, 7] [] [(sp_ 0 4 (Value.iface 105 (ag [(str iy14.name)]))), (sp_ 1 5 (pq bx0)), (sp_ 2 6 (pq bx0)), (sp_ 3 7 (ptr bx0 1)), (sp_ 4 8 (Value.map (some gm0_1))), (sp_ 5 9 (Value.func (.method "lumberroom/disk.apply") #[(Value.iface 105 (ag [(str iy14.name)]))] #[])), (sp_ 6 10 (Value.func (.method "lumberroom/disk.apply") #[(Value.iface 105 (ag [(str iy14.name)]))] #[])), (sp_ 7 11 (Value.iface 105 (ag [(str iy14.name)])))] [] rfl rfl rfl (by kernel_rfl) rfl rfl rfl ⟨⟨_, rfl, [], rfl, by
 intro X_ Y_ F_ K_ hK_
 refine sh_ (mm6 w0 Z0 a0 bx0 gm0_1 gm0_2 v0_3) X_ Y_ ?_
 refine mv_ ?_
 refine al_nil ?_
 exact fr_fin hK_ ()⟩, ⟨_, rfl, [], rfl, by
 intro X_ Y_ F_ K_ hK_
 refine sh_ (mm6 w0 Z0 a0 bx0 gm0_1 gm0_2 v0_3) X_ Y_ ?_
 refine mv_ ?_
 refine al_nil ?_
 exact fr_fin hK_ ()⟩, ⟨_, rfl, [1], rfl, by
 intro _
 intro X_ Y_ F_ K_ hK_
 refine sh_ (mm6 w0 Z0 a0 bx0 gm0_1 gm0_2 v0_3) X_ Y_ ?_
 refine al_val (ov_nilCheck rfl rfl) ?_
 refine al_nil ?_
 exact fr_fin hK_ ()⟩, ⟨_, rfl, [2], rfl, by
 intro _
 intro X_ Y_ F_ K_ hK_
 refine sh_ (mm6 w0 Z0 a0 bx0 gm0_1 gm0_2 v0_3) X_ Y_ ?_
 refine al_val (ov_fieldA (p := 1) rfl Try.underlying54 rfl sz51 rfl rfl rfl) ?_
 refine al_nil ?_
 exact fr_fin hK_ ()⟩, ⟨_, rfl, [3], rfl, by
 intro _
 intro X_ Y_ F_ K_ hK_
 refine sh_ (mm6 w0 Z0 a0 bx0 gm0_1 gm0_2 v0_3) X_ Y_ ?_
 refine al_val (ov_load (i := 0) (v := (Value.map (some gm0_1))) rfl rfl Try.underlying51 sz51 rfl rfl rfl rfl) ?_
 refine al_nil ?_
 exact fr_fin hK_ ()⟩, ⟨_, rfl, [0], rfl, by
 intro _
 intro X_ Y_ F_ K_ hK_
 refine sh_ (mm6 w0 Z0 a0 bx0 gm0_1 gm0_2 v0_3) X_ Y_ ?_
 refine al_val (ov_makeMeth rfl rfl) ?_
 refine al_nil ?_
 exact fr_fin hK_ ()⟩, ⟨_, rfl, [5], rfl, by
 intro _
 intro X_ Y_ F_ K_ hK_
 refine sh_ (mm6 w0 Z0 a0 bx0 gm0_1 gm0_2 v0_3) X_ Y_ ?_
 refine al_val (ov_nilCheckM me105 Try.underlying105 rfl rfl rfl) ?_
 refine al_nil ?_
 exact fr_fin hK_ ()⟩, ⟨_, rfl, [0, 5, 6], rfl, by
 intro _
 intro _
 intro _
 intro X_ Y_ F_ K_ hK_
 refine sh_ (mm6 w0 Z0 a0 bx0 gm0_1 gm0_2 v0_3) X_ Y_ ?_
 refine mv_ ?_
 refine al_nil ?_
 exact fr_fin hK_ ()⟩, trivial⟩ ?_
   intro _
   intro _
   intro _
   intro _
   intro _
   intro _
   intro _
   intro _
   intro X_ Y_ F_ K_ hK_
   refine sh_ (mm6 w0 Z0 a0 bx0 gm0_1 gm0_2 v0_3) X_ Y_ ?_
   obtain ⟨r16, hc15, h⟩ := opt_some h
   refine al_callIX (vs := [(Value.map (some gm0_1)), (iq (65536 : Int))]) (f__disk_remove__apply_ok fu iy14 gm0_1 a0.files (65536 : Int) hc15) rfl [] [1] [0, 2, 3] pre_nil rfl (by simp) (by decide) rfl (.inl rfl) me105 Try.underlying105 rfl rfl rfl Try.func126 rfl rfl rfl (fun _ => ?_)
   refine al_nil ?_
   refine aq_show (m := Mem.plus (mm9 w0 Z0 a0 bx0 gm0_1 gm0_2 r16 v0_3) X_ Y_) ?_
   refine aq_next hK_ [0, 1, 2, 3] [] [(0, (pq bx0)), (1, (Value.iface 105 (ag [(str iy14.name)])))] [] [] rfl rfl (by decide) rfl ⟨rfl, rfl, trivial⟩ trivial ?_
   clear hK_ K_ F_ X_ Y_
   refine ta_show (m := (mm9 w0 Z0 a0 bx0 gm0_1 gm0_2 r16 v0_3)) (S := _) ?_
   refine ta_end [] [] rfl rfl (by kernel_rfl) rfl trivial ?_
   refine aq_show (m := (mm9 w0 Z0 a0 bx0 gm0_1 gm0_2 r16 v0_3)) (S := (tab [(0, (pq bx0)), (1, (Value.iface 105 (ag [(str iy14.name)])))])) ?_
   refine aq_then ?_
   refine aw_region ?_
   refine mv_ ?_
   refine mv_ ?_
   refine al_val (ov_nilCheck rfl rfl) ?_
   refine al_val (ov_fieldA (p := 3) rfl Try.underlying54 rfl sz52 rfl rfl rfl) ?_
   refine al_val (ov_load (i := 1) (v := v0_3) rfl rfl Try.underlying52 sz52 rfl rfl rfl rfl) ?_
   refine mv_ ?_
   refine al_buildSlice (τ := tyI114) (e := 114) (k := 1) (sz := 0) (by_ := 0) (z := undef) (cs := [(Value.iface 105 (ag [(str iy14.name)]))]) (xs := [(I114.t105 iy14)]) rfl (by decide) (fun w a hm hs => ⟨([(Value.iface 105 (ag [(str iy14.name)]))]).toArray, rfl, by simp only [List.map_toArray, List.map_cons, List.map_nil, hs.ev (x := .tmp 18) rfl]; exact run_bs [(Value.iface 105 (ag [(str iy14.name)]))] [(Value.iface 105 (ag [(str iy14.name)]))] Try.underlying52 to114 rfl rfl (bs_cons (l := [(Value.iface 105 (ag [(str iy14.name)]))]) (cs := []) (cv_rfl rfl) rfl bs_nil) hm⟩) (fun hm => ⟨_, _, rfl, (fun _ => rfl) hm, rfl⟩) rfl (fun v17 => ?_)
   obtain ⟨hc18, h⟩ := req_some h
   refine al_append 4 hc18.1 hc18.2 rfl (src_own (i := 4) 0 rfl) rfl rfl Try.underlying52 to114 rfl rfl rfl (fun v19 => ?_)
   refine al_val (ov_nilCheck rfl rfl) ?_
   refine al_val (ov_fieldA (p := 3) rfl Try.underlying54 rfl sz52 rfl rfl rfl) ?_
   refine al_store (i := 2) (vs := [v19]) (cs' := [(iq a0.room), (Value.map (some gm0_1)), (Value.map (some gm0_2)), v19, (bool a0.fused), (iq a0.left)]) rfl rfl rfl sz52 (cv_own 4 rfl) rfl (co_own 4 rfl co_nil) (Nat.le_of_ble_eq_true rfl) rfl rfl ?_
   refine al_nil ?_
   refine fn_end ?_
   cases h
   exact fn_ret (gm0_1, gm0_2, v19) [2, 1, 3, 4] [] rfl rfl rfl rfl (resC rfl (resN) rfl) rfl rfl rfl (by decide)
def f___disk_Disk__Write_L22 (a1 : (List UInt8)) (kk12 : (Int → Option (Int × D_disk_Disk))) : Nat → (List ((List UInt8) × (List UInt8))) → Int → Option (Int × D_disk_Disk)
  | 0, _, _ => none
  | k21 + 1, l20lf0_1, l20i8 => (pickM l20lf0_1 (fun (en23 : (List UInt8) × (List UInt8)) (lf24 : List ((List UInt8) × (List UInt8))) => (bif (!(en23.1 == a1)) then (f___disk_Disk__Write_L22 a1 kk12 k21 lf24 (IntKind.i64.wrap (l20i8 + (en23.2.length : Int)))) else (f___disk_Disk__Write_L22 a1 kk12 k21 lf24 l20i8))) (kk12 l20i8))
def f___disk_Disk__Write (fu : Nat) (a0 : D_disk_Disk) (a1 : (List UInt8)) (a2 : (List UInt8)) : Option (Int × D_disk_Disk) := (opt (f___disk_Disk__begin fu a0) fun (r2 : (Int × D_disk_Disk)) => (bif (r2.1 != (0 : Int)) then (some (r2.1, r2.2)) else (opt (f_disk_right fu a1) fun (r8 : Bool) => (bif (!r8) then (some ((8 : Int), r2.2)) else (bif (decide ((a2.length : Int) > (65536 : Int))) then (some ((2 : Int), r2.2)) else (lt (fun (j11i8 : Int) => (bif (decide (j11i8 > r2.2.room)) then (some ((12 : Int), r2.2)) else (opt (f___disk_Disk__do fu r2.2 (I114.t95 (S_disk_write.mk a1 a2))) fun (r15 : D_disk_Disk) => (some ((0 : Int), r15))))) fun (kk12 : Int → Option (Int × D_disk_Disk)) => (f___disk_Disk__Write_L22 a1 kk12 fu r2.2.files (a2.length : Int))))))))
abbrev mm10 (w0 : World) (Z0 : Nat → Prop) (a0 : D_disk_Disk) (bx0 : Nat) (g3 : Nat) (g4 : Nat) (gm0_1 : Nat) (gm0_2 : Nat) (r2 : (Int × D_disk_Disk)) (v0_3 : Value) (v5 : Value) : Mem := memOf w0 Z0 [(oBox bx0 54 [(int .i64 a0.room), (Value.map (some gm0_1)), (Value.map (some gm0_2)), v0_3, (bool a0.fused), (int .i64 a0.left)]), (oMapK Try.prog 9 gm0_1 str str a0.files), (oMapK Try.prog 9 gm0_2 str str a0.durable), (oRow v0_3 114 tyI114 a0.changes)] [(oMapK Try.prog 9 g3 str str r2.2.files), (oMapK Try.prog 9 g4 str str r2.2.durable), (oRow v5 114 tyI114 r2.2.changes), (oBox bx0 54 [(int .i64 r2.2.room), (Value.map (some g3)), (Value.map (some g4)), v5, (bool r2.2.fused), (int .i64 r2.2.left)])] []
abbrev mm11 (w0 : World) (Z0 : Nat → Prop) (a0 : D_disk_Disk) (bx0 : Nat) (g19 : Nat) (g3 : Nat) (g4 : Nat) (gm0_1 : Nat) (gm0_2 : Nat) (l20lf0_1 : (List ((List UInt8) × (List UInt8)))) (r2 : (Int × D_disk_Disk)) (v0_3 : Value) (v5 : Value) : Mem := memOf w0 Z0 [(oBox bx0 54 [(int .i64 a0.room), (Value.map (some gm0_1)), (Value.map (some gm0_2)), v0_3, (bool a0.fused), (int .i64 a0.left)]), (oMapK Try.prog 9 gm0_1 str str a0.files), (oMapK Try.prog 9 gm0_2 str str a0.durable), (oRow v0_3 114 tyI114 a0.changes)] [(oMapIt Try.prog 9 g3 str str r2.2.files g19 l20lf0_1 none), (oMapK Try.prog 9 g4 str str r2.2.durable), (oRow v5 114 tyI114 r2.2.changes), (oBox bx0 54 [(int .i64 r2.2.room), (Value.map (some g3)), (Value.map (some g4)), v5, (bool r2.2.fused), (int .i64 r2.2.left)])] []
set_option maxHeartbeats 2000000 in
set_option maxRecDepth 100000 in
theorem f___disk_Disk__Write_ok (fu : Nat) (bx0 : Nat) (gm0_1 : Nat) (gm0_2 : Nat) (v0_3 : Value) (a0 : D_disk_Disk) (a1 : (List UInt8)) (a2 : (List UInt8)) {r : (Int × D_disk_Disk)} (h : f___disk_Disk__Write fu a0 a1 a2 = some r) : FnOk Try.prog 17 [(ptr bx0 0), (str a1), (str a2)] [] [(oBox bx0 54 [(int .i64 a0.room), (Value.map (some gm0_1)), (Value.map (some gm0_2)), v0_3, (bool a0.fused), (int .i64 a0.left)]), (oMapK Try.prog 9 gm0_1 str str a0.files), (oMapK Try.prog 9 gm0_2 str str a0.durable), (oRow v0_3 114 tyI114 a0.changes)] (fun (i : Nat × Nat × Value) => { val := (int .i64 r.1), own := [(oBox bx0 54 [(int .i64 r.2.room), (Value.map (some i.1)), (Value.map (some i.2.1)), i.2.2, (bool r.2.fused), (int .i64 r.2.left)]), (oMapK Try.prog 9 i.1 str str r.2.files), (oMapK Try.prog 9 i.2.1 str str r.2.durable), (oRow i.2.2 114 tyI114 r.2.changes)] }) := by
 unfold f___disk_Disk__Write at h
 refine fn_enter Try.func17 rfl Try.ntmps17 rfl (fun w0 Z0 => ?_)
 refine aw_sr ?_
 refine an_ ?_
 refine aw_seq ?_
 refine sm_ ?_
 obtain ⟨r2, hc1, h⟩ := opt_some h
 refine al_call (vs := [(pq bx0)]) (f___disk_Disk__begin_ok fu bx0 gm0_1 gm0_2 v0_3 a0 hc1) [] [0, 1, 2, 3] [] pre_nil rfl (by simp) (by decide) (.inl rfl) rfl Try.func52 rfl rfl rfl (fun ⟨g3, g4, v5⟩ => ?_)
 refine an_ ?_
 refine sm_ ?_
 refine im_ ?_
 refine aw_cond rfl (fun hb6 => ?_) (fun hb6 => ?_)
 replace h := bif_t hb6 h
 refine sm_ ?_
 refine an_ ?_
 refine aw_ret ?_
 refine aq_then_ret ?_
 cases h
 exact fn_ret (g3, g4, v5) [0, 1, 2, 3] [] rfl rfl rfl rfl (res1 rfl rfl) rfl rfl rfl (by decide)
 replace h := bif_f hb6 h
 refine aw_skip ?_
 refine aq_then ?_
 refine aw_seq ?_
 refine sm_ ?_
 obtain ⟨r8, hc7, h⟩ := opt_some h
 refine al_call (vs := [(str a1)]) (f_disk_right_ok fu a1 hc7) [] [] [0, 1, 2, 3] pre_nil rfl (by simp) (by decide) (.inl rfl) rfl Try.func53 rfl rfl rfl (fun _ => ?_)
 refine al_val (ov_not rfl rfl) ?_
 refine al_nt ?_
 refine aw_cond rfl (fun hb9 => ?_) (fun hb9 => ?_)
 replace h := bif_t hb9 h
 refine aw_sr ?_
 refine an_ ?_
 refine aw_ret ?_
 refine aq_then_ret ?_
 cases h
 exact fn_ret (g3, g4, v5) [0, 1, 2, 3] [] rfl rfl rfl rfl (res1 rfl rfl) rfl rfl rfl (by decide)
 replace h := bif_f hb9 h
 refine aw_skip ?_
 refine aq_then ?_
 refine aw_seq ?_
 refine sm_ ?_
 refine al_val (ov_strLen Try.underlying9 rfl rfl) ?_
 refine im_ ?_
 refine aw_cond rfl (fun hb10 => ?_) (fun hb10 => ?_)
 replace h := bif_t hb10 h
 refine aw_sr ?_
 refine an_ ?_
 refine aw_ret ?_
 refine aq_then_ret ?_
 cases h
 exact fn_ret (g3, g4, v5) [0, 1, 2, 3] [] rfl rfl rfl rfl (res1 rfl rfl) rfl rfl rfl (by decide)
 replace h := bif_f hb10 h
 refine aw_skip ?_
 refine aq_tr ?_
 refine mv_ ?_
 refine al_val (ov_strLen Try.underlying9 rfl rfl) ?_
 refine an_ ?_
 obtain ⟨kk12, hkk12, h⟩ := lt_some h
 refine aw_seq_join (ι := Int) (fun i => (mm10 w0 Z0 a0 bx0 g3 g4 gm0_1 gm0_2 r2 v0_3 v5)) (fun i => (tab [(0, (pq bx0)), (1, (str a1)), (2, (str a2)), (8, (iq i))])) (fun i => kk12 i = some r) ?_ ?_
 rintro j11i8 h
 have h : kk12 j11i8 = some r := h
 rw [hkk12] at h
 dsimp only at h
 clear hkk12
 refine aw_show (m := (mm10 w0 Z0 a0 bx0 g3 g4 gm0_1 gm0_2 r2 v0_3 v5)) (S := _) ?_
 refine aw_seq ?_
 refine sm_ ?_
 refine mv_ ?_
 refine al_val (ov_nilCheck rfl rfl) ?_
 refine al_val (ov_fieldA (p := 0) rfl Try.underlying54 rfl sz3 rfl rfl rfl) ?_
 refine al_val (ov_load (i := 3) (v := (iq r2.2.room)) rfl rfl Try.underlying3 sz3 rfl rfl rfl rfl) ?_
 refine im_ ?_
 refine aw_cond rfl (fun hb13 => ?_) (fun hb13 => ?_)
 replace h := bif_t hb13 h
 refine aw_sr ?_
 refine an_ ?_
 refine aw_ret ?_
 refine aq_then_ret ?_
 cases h
 exact fn_ret (g3, g4, v5) [3, 0, 1, 2] [] rfl rfl rfl rfl (res1 rfl rfl) rfl rfl rfl (by decide)
 replace h := bif_f hb13 h
 refine aw_skip ?_
 refine aq_tr ?_
 refine mv_ ?_
 refine mv_ ?_
 refine mv_ ?_
 refine al_val (ov_build (cells := ([(str a1), (str a2)] : List Value).toArray) (cs := [(str a1), (str a2)]) rfl (fun w a hm hs => by simp only [List.map_toArray, List.map_cons, List.map_nil, List.toList_toArray, hs.ev (x := .tmp 48) rfl, hs.ev (x := .tmp 49) rfl]; kernel_rfl)) ?_
 refine al_val (ov_makeIface rfl Try.underlying95 rfl rfl) ?_
 obtain ⟨r15, hc14, h⟩ := opt_some h
 refine al_call (vs := [(pq bx0), (Value.iface 95 (ag [(str a1), (str a2)]))]) (f___disk_Disk__do_ok fu bx0 g3 g4 v5 r2.2 (I114.t95 (S_disk_write.mk a1 a2)) hc14) [] [3, 0, 1, 2] [] pre_nil rfl (by simp) (by decide) (.inl rfl) rfl Try.func54 rfl rfl rfl (fun ⟨g16, g17, v18⟩ => ?_)
 refine al_nt ?_
 refine aw_sr ?_
 refine an_ ?_
 refine aw_ret ?_
 cases h
 exact fn_ret (g16, g17, v18) [0, 1, 2, 3] [] rfl rfl rfl rfl (res1 rfl rfl) rfl rfl rfl (by decide)
 clear hkk12
 refine sm_ ?_
 refine al_val (ov_nilCheck rfl rfl) ?_
 refine al_val (ov_fieldA (p := 1) rfl Try.underlying54 rfl sz51 rfl rfl rfl) ?_
 refine al_val (ov_load (i := 0) (v := (Value.map (some g3))) rfl rfl Try.underlying51 sz51 rfl rfl rfl rfl) ?_
 refine al_rangeM 1 rfl rfl Try.underlying51 rfl (fun g19 => ?_)
 refine al_nt ?_
 refine aw_block ?_
 refine aw_state (aw_loop (ι := (List ((List UInt8) × (List UInt8))) × Int) (fun i => (mm11 w0 Z0 a0 bx0 g19 g3 g4 gm0_1 gm0_2 i.1 r2 v0_3 v5)) (fun i => (tab [(0, (pq bx0)), (1, (str a1)), (2, (str a2)), (8, (iq i.2)), (28, (pq g19))])) (fun q i => f___disk_Disk__Write_L22 a1 kk12 q i.1 i.2 = some r) ?_ fu (r2.2.files, (a2.length : Int)) h) (nm_ [1, 2, 3, 0] [] (by decide) ⟨rfl, rfl, rfl, rfl, rfl, trivial⟩)
 clear h
 rintro k21 ⟨l20lf0_1, l20i8⟩ h
 have h : f___disk_Disk__Write_L22 a1 kk12 k21 l20lf0_1 l20i8 = some r := h
 obtain _ | k21 := k21
 rw [f___disk_Disk__Write_L22] at h; cases h
 rw [f___disk_Disk__Write_L22] at h
 refine aw_show (m := (mm11 w0 Z0 a0 bx0 g19 g3 g4 gm0_1 gm0_2 l20lf0_1 r2 v0_3 v5)) (S := _) ?_
 refine aw_sr ?_
 refine al_nextM 0 rfl rfl rfl (fun jn25 en23 hj26 => ?_) (fun hn27 => ?_)
 replace h := pickM_at h hj26
 try dsimp only at h
 generalize l20lf0_1.eraseIdx jn25 = lf24 at h ⊢
 refine al_ex rfl rfl rfl ?_
 refine al_nt ?_
 refine aw_seq ?_
 refine aw_cond_t rfl ?_
 refine aw_skip ?_
 refine aq_then ?_
 refine aw_block ?_
 refine aw_sr ?_
 refine al_val (v := (Value.tuple #[(str en23.1), (str en23.2)])) (ov_entryM 0 rfl rfl rfl) ?_
 refine al_ex rfl rfl rfl ?_
 refine al_ex rfl rfl rfl ?_
 refine as_ ?_
 refine an_ ?_
 refine sm_ ?_
 refine mv_ ?_
 refine al_val (ov_strCmp rfl rfl rfl rfl) ?_
 refine al_nt ?_
 refine aw_cond rfl (fun hb28 => ?_) (fun hb28 => ?_)
 replace h := bif_t hb28 h
 refine aw_region ?_
 refine mv_ ?_
 refine mv_ ?_
 refine al_val (ov_strLen Try.underlying9 rfl rfl) ?_
 refine in_ ?_
 refine as_ ?_
 refine al_nil ?_
 refine aq_block ?_
 refine aq_itForget 0 rfl ?_
 exact aq_again k21 (lf24, (wq (l20i8 + (en23.2.length : Int)))) (Nat.lt_succ_self _) h (nm_ [0, 1, 2, 3] [] (by decide) ⟨rfl, rfl, rfl, rfl, rfl, trivial⟩)
 replace h := bif_f hb28 h
 refine aw_skip ?_
 refine aq_block ?_
 refine aq_itForget 0 rfl ?_
 exact aq_again k21 (lf24, l20i8) (Nat.lt_succ_self _) h (nm_ [0, 1, 2, 3] [] (by decide) ⟨rfl, rfl, rfl, rfl, rfl, trivial⟩)
 replace h := pickM_nil h hn27
 refine al_itDone 0 rfl ?_
 refine al_ex rfl rfl rfl ?_
 refine al_nt ?_
 refine aw_seq ?_
 refine aw_cond_f rfl ?_
 refine aw_exit ?_
 refine aq_then_exit ?_
 refine aq_then_exit ?_
 refine aq_block_exit ?_
 exact aq_join l20i8 h (nm_ [0, 1, 2, 3] [] (by decide) ⟨rfl, rfl, rfl, rfl, trivial⟩)
def f___lumref_Disk__Change_nilp (fu : Nat) (a1 : S_api_Deed) : Option Int := (none : Option Int)
set_option maxRecDepth 100000 in
theorem f___lumref_Disk__Change_nilp_ok (fu : Nat) (v1_4 : Value) (a1 : S_api_Deed) {r : Int} (h : f___lumref_Disk__Change_nilp fu a1 = some r) : FnOk Try.prog 20 [(Value.pointer none), (ag [(int .i64 a1.Kind), (str a1.Name), (str a1.Text), (int .i64 a1.N), v1_4])] [(fDat (tyList (tyInt .i64)) [v1_4] a1.Keep)] [] (fun (i : Unit) => { val := (int .i64 r) }) := by
 unfold f___lumref_Disk__Change_nilp at h
 refine fn_enter Try.func20 rfl Try.ntmps20 rfl (fun w0 Z0 => ?_)
 refine aw_sr ?_
 refine al_box (vs := [(iq a1.Kind), (str a1.Name), (str a1.Text), (iq a1.N), v1_4]) rfl (cv_rfl rfl) rfl (fun g1 => ?_)
 refine an_ ?_
 refine aw_seq ?_
 refine aw_sr ?_
 cases h
def f___lumref_Disk__Write_nilp (fu : Nat) (a1 : (List UInt8)) (a2 : (List UInt8)) : Option Int := (opt (f___lumref_Disk__Change_nilp fu (S_api_Deed.mk (1 : Int) a1 a2 (0 : Int) ([] : (List Int)))) fun (r2 : Int) => (some r2))
set_option maxRecDepth 100000 in
theorem f___lumref_Disk__Write_nilp_ok (fu : Nat) (a1 : (List UInt8)) (a2 : (List UInt8)) {r : Int} (h : f___lumref_Disk__Write_nilp fu a1 a2 = some r) : FnOk Try.prog 18 [(Value.pointer none), (str a1), (str a2)] [] [] (fun (i : Unit) => { val := (int .i64 r) }) := by
 unfold f___lumref_Disk__Write_nilp at h
 refine fn_enter Try.func18 rfl Try.ntmps18 rfl (fun w0 Z0 => ?_)
 refine aw_sr ?_
 refine an_ ?_
 refine sm_ ?_
 refine mv_ ?_
 refine mv_ ?_
 refine al_val (ov_build (cells := ([(iq (1 : Int)), (str a1), (str a2), (iq (0 : Int)), nS] : List Value).toArray) (cs := [(iq (1 : Int)), (str a1), (str a2), (iq (0 : Int)), nS]) rfl (fun w a hm hs => by simp only [List.map_toArray, List.map_cons, List.map_nil, List.toList_toArray, hs.ev (x := .const (iq (1 : Int))) rfl, hs.ev (x := .tmp 8) rfl, hs.ev (x := .tmp 9) rfl]; kernel_rfl)) ?_
 obtain ⟨r2, hc1, h⟩ := opt_some h
 refine al_call (vs := [(Value.pointer none), (ag [(iq (1 : Int)), (str a1), (str a2), (iq (0 : Int)), nS])]) (f___lumref_Disk__Change_nilp_ok fu nS (S_api_Deed.mk (1 : Int) a1 a2 (0 : Int) ([] : (List Int))) hc1) [] [] [] (pre_nilD pre_nil) rfl (by simp) (by decide) (.inl rfl) rfl Try.func20 rfl rfl rfl (fun _ => ?_)
 refine an_ ?_
 refine aw_ret ?_
 cases h
 exact fr1_
def f___disk_Disk__Rename (fu : Nat) (a0 : D_disk_Disk) (a1 : (List UInt8)) (a2 : (List UInt8)) : Option (Int × D_disk_Disk) := (opt (f___disk_Disk__begin fu a0) fun (r2 : (Int × D_disk_Disk)) => (bif (r2.1 != (0 : Int)) then (some (r2.1, r2.2)) else (lt (fun (j7b22 : Bool) => (bif j7b22 then (some ((8 : Int), r2.2)) else (req (a1.length ≤ 9223372036854775807) (bif (!((gget r2.2.files a1).isSome)) then (some ((9 : Int), r2.2)) else (opt (f___disk_Disk__do fu r2.2 (I114.t98 (S_disk_rename.mk a1 a2))) fun (r13 : D_disk_Disk) => (some ((0 : Int), r13))))))) fun (kk8 : Bool → Option (Int × D_disk_Disk)) => (opt (f_disk_right fu a1) fun (r18 : Bool) => (bif (!r18) then (kk8 true) else (opt (f_disk_right fu a2) fun (r21 : Bool) => (kk8 (!r21))))))))
abbrev mm12 (w0 : World) (Z0 : Nat → Prop) (a0 : D_disk_Disk) (bx0 : Nat) (g3 : Nat) (g4 : Nat) (gm0_1 : Nat) (gm0_2 : Nat) (r2 : (Int × D_disk_Disk)) (v0_3 : Value) (v5 : Value) : Mem := memOf w0 Z0 [(oBox bx0 54 [(int .i64 a0.room), (Value.map (some gm0_1)), (Value.map (some gm0_2)), v0_3, (bool a0.fused), (int .i64 a0.left)]), (oMapK Try.prog 9 gm0_1 str str a0.files), (oMapK Try.prog 9 gm0_2 str str a0.durable), (oRow v0_3 114 tyI114 a0.changes)] [(oMapK Try.prog 9 g3 str str r2.2.files), (oMapK Try.prog 9 g4 str str r2.2.durable), (oRow v5 114 tyI114 r2.2.changes), (oBox bx0 54 [(int .i64 r2.2.room), (Value.map (some g3)), (Value.map (some g4)), v5, (bool r2.2.fused), (int .i64 r2.2.left)])] []
set_option maxHeartbeats 2000000 in
set_option maxRecDepth 100000 in
theorem f___disk_Disk__Rename_ok (fu : Nat) (bx0 : Nat) (gm0_1 : Nat) (gm0_2 : Nat) (v0_3 : Value) (a0 : D_disk_Disk) (a1 : (List UInt8)) (a2 : (List UInt8)) {r : (Int × D_disk_Disk)} (h : f___disk_Disk__Rename fu a0 a1 a2 = some r) : FnOk Try.prog 19 [(ptr bx0 0), (str a1), (str a2)] [] [(oBox bx0 54 [(int .i64 a0.room), (Value.map (some gm0_1)), (Value.map (some gm0_2)), v0_3, (bool a0.fused), (int .i64 a0.left)]), (oMapK Try.prog 9 gm0_1 str str a0.files), (oMapK Try.prog 9 gm0_2 str str a0.durable), (oRow v0_3 114 tyI114 a0.changes)] (fun (i : Nat × Nat × Value) => { val := (int .i64 r.1), own := [(oBox bx0 54 [(int .i64 r.2.room), (Value.map (some i.1)), (Value.map (some i.2.1)), i.2.2, (bool r.2.fused), (int .i64 r.2.left)]), (oMapK Try.prog 9 i.1 str str r.2.files), (oMapK Try.prog 9 i.2.1 str str r.2.durable), (oRow i.2.2 114 tyI114 r.2.changes)] }) := by
 unfold f___disk_Disk__Rename at h
 refine fn_enter Try.func19 rfl Try.ntmps19 rfl (fun w0 Z0 => ?_)
 refine aw_sr ?_
 refine an_ ?_
 refine aw_seq ?_
 refine sm_ ?_
 obtain ⟨r2, hc1, h⟩ := opt_some h
 refine al_call (vs := [(pq bx0)]) (f___disk_Disk__begin_ok fu bx0 gm0_1 gm0_2 v0_3 a0 hc1) [] [0, 1, 2, 3] [] pre_nil rfl (by simp) (by decide) (.inl rfl) rfl Try.func52 rfl rfl rfl (fun ⟨g3, g4, v5⟩ => ?_)
 refine an_ ?_
 refine sm_ ?_
 refine im_ ?_
 refine aw_cond rfl (fun hb6 => ?_) (fun hb6 => ?_)
 replace h := bif_t hb6 h
 refine sm_ ?_
 refine an_ ?_
 refine aw_ret ?_
 refine aq_then_ret ?_
 cases h
 exact fn_ret (g3, g4, v5) [0, 1, 2, 3] [] rfl rfl rfl rfl (res1 rfl rfl) rfl rfl rfl (by decide)
 replace h := bif_f hb6 h
 refine aw_skip ?_
 refine aq_then ?_
 refine aw_seq ?_
 obtain ⟨kk8, hkk8, h⟩ := lt_some h
 refine aw_seq_join (ι := Bool) (fun i => (mm12 w0 Z0 a0 bx0 g3 g4 gm0_1 gm0_2 r2 v0_3 v5)) (fun i => (tab [(0, (pq bx0)), (1, (str a1)), (2, (str a2)), (22, (bool i))])) (fun i => kk8 i = some r) ?_ ?_
 rintro j7b22 h
 have h : kk8 j7b22 = some r := h
 rw [hkk8] at h
 dsimp only at h
 clear hkk8
 refine aw_show (m := (mm12 w0 Z0 a0 bx0 g3 g4 gm0_1 gm0_2 r2 v0_3 v5)) (S := _) ?_
 refine aw_cond rfl (fun hb9 => ?_) (fun hb9 => ?_)
 replace h := bif_t hb9 h
 refine aw_sr ?_
 refine an_ ?_
 refine aw_ret ?_
 refine aq_then_ret ?_
 cases h
 exact fn_ret (g3, g4, v5) [3, 0, 1, 2] [] rfl rfl rfl rfl (res1 rfl rfl) rfl rfl rfl (by decide)
 replace h := bif_f hb9 h
 refine aw_skip ?_
 refine aq_then ?_
 refine aw_seq ?_
 refine sm_ ?_
 refine al_val (ov_nilCheck rfl rfl) ?_
 refine al_val (ov_fieldA (p := 1) rfl Try.underlying54 rfl sz51 rfl rfl rfl) ?_
 refine al_val (ov_load (i := 3) (v := (Value.map (some g3))) rfl rfl Try.underlying51 sz51 rfl rfl rfl rfl) ?_
 refine mv_ ?_
 obtain ⟨hc10, h⟩ := req_some h
 refine al_val (v := (Value.tuple #[(str ((gget r2.2.files a1).getD ([] : (List UInt8)))), (bool (gget r2.2.files a1).isSome)])) (ov_lookupOkK (k := a1) (ek := str) (ew := str) (z := ([] : (List UInt8))) 0 kd9 str_inj (key_str Try.underlying9 hc10) rfl rfl rfl Try.underlying51 (zeroOf_to to9) rfl) ?_
 refine mv_ ?_
 refine al_ex rfl rfl rfl ?_
 refine al_ex rfl rfl rfl ?_
 refine as_ ?_
 refine an_ ?_
 refine sm_ ?_
 refine al_val (ov_not rfl rfl) ?_
 refine al_nt ?_
 refine aw_cond rfl (fun hb11 => ?_) (fun hb11 => ?_)
 replace h := bif_t hb11 h
 refine aw_sr ?_
 refine an_ ?_
 refine aw_ret ?_
 refine aq_then_ret ?_
 cases h
 exact fn_ret (g3, g4, v5) [3, 0, 1, 2] [] rfl rfl rfl rfl (res1 rfl rfl) rfl rfl rfl (by decide)
 replace h := bif_f hb11 h
 refine aw_skip ?_
 refine aq_tr ?_
 refine mv_ ?_
 refine mv_ ?_
 refine mv_ ?_
 refine al_val (ov_build (cells := ([(str a1), (str a2)] : List Value).toArray) (cs := [(str a1), (str a2)]) rfl (fun w a hm hs => by simp only [List.map_toArray, List.map_cons, List.map_nil, List.toList_toArray, hs.ev (x := .tmp 35) rfl, hs.ev (x := .tmp 36) rfl]; kernel_rfl)) ?_
 refine al_val (ov_makeIface rfl Try.underlying98 rfl rfl) ?_
 obtain ⟨r13, hc12, h⟩ := opt_some h
 refine al_call (vs := [(pq bx0), (Value.iface 98 (ag [(str a1), (str a2)]))]) (f___disk_Disk__do_ok fu bx0 g3 g4 v5 r2.2 (I114.t98 (S_disk_rename.mk a1 a2)) hc12) [] [3, 0, 1, 2] [] pre_nil rfl (by simp) (by decide) (.inl rfl) rfl Try.func54 rfl rfl rfl (fun ⟨g14, g15, v16⟩ => ?_)
 refine al_nt ?_
 refine aw_sr ?_
 refine an_ ?_
 refine aw_ret ?_
 cases h
 exact fn_ret (g14, g15, v16) [0, 1, 2, 3] [] rfl rfl rfl rfl (res1 rfl rfl) rfl rfl rfl (by decide)
 clear hkk8
 refine aw_region ?_
 refine mv_ ?_
 obtain ⟨r18, hc17, h⟩ := opt_some h
 refine al_call (vs := [(str a1)]) (f_disk_right_ok fu a1 hc17) [] [] [0, 1, 2, 3] pre_nil rfl (by simp) (by decide) (.inl rfl) rfl Try.func53 rfl rfl rfl (fun _ => ?_)
 refine al_val (ov_not rfl rfl) ?_
 refine mv_ ?_
 refine al_caseB 18 rfl (fun hb19 => ?_) (fun hb19 => ?_)
 replace h := bif_t hb19 h
 iterate 3 refine al_skip ?_
 refine al_val (ov_pick_t rfl rfl rfl) ?_
 refine al_nil ?_
 exact aq_join true h (nm_ [1, 2, 3, 0] [] (by decide) ⟨rfl, rfl, rfl, rfl, trivial⟩)
 replace h := bif_f hb19 h
 refine mv_ ?_
 obtain ⟨r21, hc20, h⟩ := opt_some h
 refine al_call (vs := [(str a2)]) (f_disk_right_ok fu a2 hc20) [] [] [0, 1, 2, 3] pre_nil rfl (by simp) (by decide) (.inl rfl) rfl Try.func53 rfl rfl rfl (fun _ => ?_)
 refine al_val (ov_not rfl rfl) ?_
 refine al_val (ov_pick_f rfl rfl rfl) ?_
 refine al_nil ?_
 exact aq_join (!r21) h (nm_ [1, 2, 3, 0] [] (by decide) ⟨rfl, rfl, rfl, rfl, trivial⟩)
def f___disk_Disk__Remove (fu : Nat) (a0 : D_disk_Disk) (a1 : (List UInt8)) : Option (Int × D_disk_Disk) := (opt (f___disk_Disk__begin fu a0) fun (r2 : (Int × D_disk_Disk)) => (bif (r2.1 != (0 : Int)) then (some (r2.1, r2.2)) else (opt (f_disk_right fu a1) fun (r8 : Bool) => (bif (!r8) then (some ((8 : Int), r2.2)) else (req (a1.length ≤ 9223372036854775807) (bif (!((gget r2.2.files a1).isSome)) then (some ((9 : Int), r2.2)) else (opt (f___disk_Disk__do fu r2.2 (I114.t105 (S_disk_remove.mk a1))) fun (r13 : D_disk_Disk) => (some ((0 : Int), r13)))))))))
set_option maxHeartbeats 2000000 in
set_option maxRecDepth 100000 in
theorem f___disk_Disk__Remove_ok (fu : Nat) (bx0 : Nat) (gm0_1 : Nat) (gm0_2 : Nat) (v0_3 : Value) (a0 : D_disk_Disk) (a1 : (List UInt8)) {r : (Int × D_disk_Disk)} (h : f___disk_Disk__Remove fu a0 a1 = some r) : FnOk Try.prog 21 [(ptr bx0 0), (str a1)] [] [(oBox bx0 54 [(int .i64 a0.room), (Value.map (some gm0_1)), (Value.map (some gm0_2)), v0_3, (bool a0.fused), (int .i64 a0.left)]), (oMapK Try.prog 9 gm0_1 str str a0.files), (oMapK Try.prog 9 gm0_2 str str a0.durable), (oRow v0_3 114 tyI114 a0.changes)] (fun (i : Nat × Nat × Value) => { val := (int .i64 r.1), own := [(oBox bx0 54 [(int .i64 r.2.room), (Value.map (some i.1)), (Value.map (some i.2.1)), i.2.2, (bool r.2.fused), (int .i64 r.2.left)]), (oMapK Try.prog 9 i.1 str str r.2.files), (oMapK Try.prog 9 i.2.1 str str r.2.durable), (oRow i.2.2 114 tyI114 r.2.changes)] }) := by
 unfold f___disk_Disk__Remove at h
 refine fn_enter Try.func21 rfl Try.ntmps21 rfl (fun w0 Z0 => ?_)
 refine aw_sr ?_
 refine an_ ?_
 refine aw_seq ?_
 refine sm_ ?_
 obtain ⟨r2, hc1, h⟩ := opt_some h
 refine al_call (vs := [(pq bx0)]) (f___disk_Disk__begin_ok fu bx0 gm0_1 gm0_2 v0_3 a0 hc1) [] [0, 1, 2, 3] [] pre_nil rfl (by simp) (by decide) (.inl rfl) rfl Try.func52 rfl rfl rfl (fun ⟨g3, g4, v5⟩ => ?_)
 refine an_ ?_
 refine sm_ ?_
 refine im_ ?_
 refine aw_cond rfl (fun hb6 => ?_) (fun hb6 => ?_)
 replace h := bif_t hb6 h
 refine sm_ ?_
 refine an_ ?_
 refine aw_ret ?_
 refine aq_then_ret ?_
 cases h
 exact fn_ret (g3, g4, v5) [0, 1, 2, 3] [] rfl rfl rfl rfl (res1 rfl rfl) rfl rfl rfl (by decide)
 replace h := bif_f hb6 h
 refine aw_skip ?_
 refine aq_then ?_
 refine aw_seq ?_
 refine sm_ ?_
 obtain ⟨r8, hc7, h⟩ := opt_some h
 refine al_call (vs := [(str a1)]) (f_disk_right_ok fu a1 hc7) [] [] [0, 1, 2, 3] pre_nil rfl (by simp) (by decide) (.inl rfl) rfl Try.func53 rfl rfl rfl (fun _ => ?_)
 refine al_val (ov_not rfl rfl) ?_
 refine al_nt ?_
 refine aw_cond rfl (fun hb9 => ?_) (fun hb9 => ?_)
 replace h := bif_t hb9 h
 refine aw_sr ?_
 refine an_ ?_
 refine aw_ret ?_
 refine aq_then_ret ?_
 cases h
 exact fn_ret (g3, g4, v5) [0, 1, 2, 3] [] rfl rfl rfl rfl (res1 rfl rfl) rfl rfl rfl (by decide)
 replace h := bif_f hb9 h
 refine aw_skip ?_
 refine aq_then ?_
 refine aw_seq ?_
 refine sm_ ?_
 refine al_val (ov_nilCheck rfl rfl) ?_
 refine al_val (ov_fieldA (p := 1) rfl Try.underlying54 rfl sz51 rfl rfl rfl) ?_
 refine al_val (ov_load (i := 0) (v := (Value.map (some g3))) rfl rfl Try.underlying51 sz51 rfl rfl rfl rfl) ?_
 refine mv_ ?_
 obtain ⟨hc10, h⟩ := req_some h
 refine al_val (v := (Value.tuple #[(str ((gget r2.2.files a1).getD ([] : (List UInt8)))), (bool (gget r2.2.files a1).isSome)])) (ov_lookupOkK (k := a1) (ek := str) (ew := str) (z := ([] : (List UInt8))) 1 kd9 str_inj (key_str Try.underlying9 hc10) rfl rfl rfl Try.underlying51 (zeroOf_to to9) rfl) ?_
 refine mv_ ?_
 refine al_ex rfl rfl rfl ?_
 refine al_ex rfl rfl rfl ?_
 refine as_ ?_
 refine an_ ?_
 refine sm_ ?_
 refine al_val (ov_not rfl rfl) ?_
 refine al_nt ?_
 refine aw_cond rfl (fun hb11 => ?_) (fun hb11 => ?_)
 replace h := bif_t hb11 h
 refine aw_sr ?_
 refine an_ ?_
 refine aw_ret ?_
 refine aq_then_ret ?_
 cases h
 exact fn_ret (g3, g4, v5) [0, 1, 2, 3] [] rfl rfl rfl rfl (res1 rfl rfl) rfl rfl rfl (by decide)
 replace h := bif_f hb11 h
 refine aw_skip ?_
 refine aq_tr ?_
 refine mv_ ?_
 refine mv_ ?_
 refine al_val (ov_build (cells := ([(str a1)] : List Value).toArray) (cs := [(str a1)]) rfl (fun w a hm hs => by simp only [List.map_toArray, List.map_cons, List.map_nil, List.toList_toArray, hs.ev (x := .tmp 28) rfl]; kernel_rfl)) ?_
 refine al_val (ov_makeIface rfl Try.underlying105 rfl rfl) ?_
 obtain ⟨r13, hc12, h⟩ := opt_some h
 refine al_call (vs := [(pq bx0), (Value.iface 105 (ag [(str a1)]))]) (f___disk_Disk__do_ok fu bx0 g3 g4 v5 r2.2 (I114.t105 (S_disk_remove.mk a1)) hc12) [] [0, 1, 2, 3] [] pre_nil rfl (by simp) (by decide) (.inl rfl) rfl Try.func54 rfl rfl rfl (fun ⟨g14, g15, v16⟩ => ?_)
 refine al_nt ?_
 refine aw_sr ?_
 refine an_ ?_
 refine aw_ret ?_
 cases h
 exact fn_ret (g14, g15, v16) [0, 1, 2, 3] [] rfl rfl rfl rfl (res1 rfl rfl) rfl rfl rfl (by decide)
def f___disk_Disk__Sync (fu : Nat) (a0 : D_disk_Disk) : Option (Int × D_disk_Disk) := (opt (f___disk_Disk__begin fu a0) fun (r2 : (Int × D_disk_Disk)) => (bif (r2.1 != (0 : Int)) then (some (r2.1, r2.2)) else (some ((0 : Int), (D_disk_Disk.mk r2.2.room r2.2.files r2.2.files ([] : List I114) r2.2.fused r2.2.left)))))
set_option maxHeartbeats 2000000 in
set_option maxRecDepth 100000 in
theorem f___disk_Disk__Sync_ok (fu : Nat) (bx0 : Nat) (gm0_1 : Nat) (gm0_2 : Nat) (v0_3 : Value) (a0 : D_disk_Disk) {r : (Int × D_disk_Disk)} (h : f___disk_Disk__Sync fu a0 = some r) : FnOk Try.prog 22 [(ptr bx0 0)] [] [(oBox bx0 54 [(int .i64 a0.room), (Value.map (some gm0_1)), (Value.map (some gm0_2)), v0_3, (bool a0.fused), (int .i64 a0.left)]), (oMapK Try.prog 9 gm0_1 str str a0.files), (oMapK Try.prog 9 gm0_2 str str a0.durable), (oRow v0_3 114 tyI114 a0.changes)] (fun (i : Nat × Nat × Value) => { val := (int .i64 r.1), own := [(oBox bx0 54 [(int .i64 r.2.room), (Value.map (some i.1)), (Value.map (some i.2.1)), i.2.2, (bool r.2.fused), (int .i64 r.2.left)]), (oMapK Try.prog 9 i.1 str str r.2.files), (oMapK Try.prog 9 i.2.1 str str r.2.durable), (oRow i.2.2 114 tyI114 r.2.changes)] }) := by
 unfold f___disk_Disk__Sync at h
 refine fn_enter Try.func22 rfl Try.ntmps22 rfl (fun w0 Z0 => ?_)
 refine aw_sr ?_
 refine an_ ?_
 refine aw_seq ?_
 refine sm_ ?_
 obtain ⟨r2, hc1, h⟩ := opt_some h
 refine al_call (vs := [(pq bx0)]) (f___disk_Disk__begin_ok fu bx0 gm0_1 gm0_2 v0_3 a0 hc1) [] [0, 1, 2, 3] [] pre_nil rfl (by simp) (by decide) (.inl rfl) rfl Try.func52 rfl rfl rfl (fun ⟨g3, g4, v5⟩ => ?_)
 refine an_ ?_
 refine sm_ ?_
 refine im_ ?_
 refine aw_cond rfl (fun hb6 => ?_) (fun hb6 => ?_)
 replace h := bif_t hb6 h
 refine sm_ ?_
 refine an_ ?_
 refine aw_ret ?_
 refine aq_then_ret ?_
 cases h
 exact fn_ret (g3, g4, v5) [0, 1, 2, 3] [] rfl rfl rfl rfl (res1 rfl rfl) rfl rfl rfl (by decide)
 replace h := bif_f hb6 h
 refine aw_skip ?_
 refine aq_tr ?_
 refine mv_ ?_
 refine mv_ ?_
 refine al_val (ov_nilCheck rfl rfl) ?_
 refine al_val (ov_fieldA (p := 1) rfl Try.underlying54 rfl sz51 rfl rfl rfl) ?_
 refine al_val (ov_load (i := 0) (v := (Value.map (some g3))) rfl rfl Try.underlying51 sz51 rfl rfl rfl rfl) ?_
 refine al_call (vs := [(Value.map (some g3))]) (f_maps_Clone_SS_ok g3 r2.2.files) [] [1] [0, 2, 3] pre_nil rfl (by simp) (by decide) (.inl rfl) rfl Try.func59 rfl rfl rfl (fun g7 => ?_)
 refine al_val (ov_nilCheck rfl rfl) ?_
 refine al_val (ov_fieldA (p := 2) rfl Try.underlying54 rfl sz51 rfl rfl rfl) ?_
 refine al_store (i := 2) (vs := [(Value.map (some g7))]) (cs' := [(iq r2.2.room), (Value.map (some g3)), (Value.map (some g7)), v5, (bool r2.2.fused), (iq r2.2.left)]) rfl rfl rfl sz51 (cv_rfl rfl) rfl (co_val rfl co_nil) (Nat.le_of_ble_eq_true rfl) rfl rfl ?_
 refine al_nt ?_
 refine sm_ ?_
 refine al_val (ov_nilCheck rfl rfl) ?_
 refine al_val (ov_fieldA (p := 3) rfl Try.underlying54 rfl sz52 rfl rfl rfl) ?_
 refine al_store (i := 2) (vs := [nS]) (cs' := [(iq r2.2.room), (Value.map (some g3)), (Value.map (some g7)), nS, (bool r2.2.fused), (iq r2.2.left)]) rfl rfl rfl sz52 (cv_rfl rfl) rfl (co_val rfl co_nil) (Nat.le_of_ble_eq_true rfl) rfl rfl ?_
 refine al_nt ?_
 refine aw_sr ?_
 refine an_ ?_
 refine aw_ret ?_
 refine aq_nilR 114 tyI114 ?_
 cases h
 exact fn_ret (g3, g7, nS) [3, 1, 2, 0] [] rfl rfl rfl rfl (res1 rfl rfl) rfl rfl rfl (by decide)
def f___lumref_Disk__Sync_nilp (fu : Nat)  : Option Int := (none : Option Int)
set_option maxRecDepth 100000 in
theorem f___lumref_Disk__Sync_nilp_ok (fu : Nat)  {r : Int} (h : f___lumref_Disk__Sync_nilp fu  = some r) : FnOk Try.prog 23 [(Value.pointer none)] [] [] (fun (i : Unit) => { val := (int .i64 r) }) := by
 unfold f___lumref_Disk__Sync_nilp at h
 refine fn_enter Try.func23 rfl Try.ntmps23 rfl (fun w0 Z0 => ?_)
 refine aw_sr ?_
 refine an_ ?_
 refine aw_seq ?_
 refine aw_sr ?_
 cases h
def f___disk_Disk__Read (fu : Nat) (a0 : D_disk_Disk) (a1 : (List UInt8)) : Option ((List UInt8) × Int × D_disk_Disk) := (opt (f___disk_Disk__down fu a0) fun (r2 : (Bool × D_disk_Disk)) => (bif r2.1 then (some (([] : List UInt8), (17 : Int), r2.2)) else (opt (f_disk_right fu a1) fun (r8 : Bool) => (bif (!r8) then (some (([] : List UInt8), (8 : Int), r2.2)) else (req (a1.length ≤ 9223372036854775807) (bif (!((gget r2.2.files a1).isSome)) then (some (([] : List UInt8), (9 : Int), r2.2)) else (some (((gget r2.2.files a1).getD ([] : (List UInt8))), (0 : Int), r2.2))))))))
set_option maxHeartbeats 2000000 in
set_option maxRecDepth 100000 in
theorem f___disk_Disk__Read_ok (fu : Nat) (bx0 : Nat) (gm0_1 : Nat) (gm0_2 : Nat) (v0_3 : Value) (a0 : D_disk_Disk) (a1 : (List UInt8)) {r : ((List UInt8) × Int × D_disk_Disk)} (h : f___disk_Disk__Read fu a0 a1 = some r) : FnOk Try.prog 24 [(ptr bx0 0), (str a1)] [] [(oBox bx0 54 [(int .i64 a0.room), (Value.map (some gm0_1)), (Value.map (some gm0_2)), v0_3, (bool a0.fused), (int .i64 a0.left)]), (oMapK Try.prog 9 gm0_1 str str a0.files), (oMapK Try.prog 9 gm0_2 str str a0.durable), (oRow v0_3 114 tyI114 a0.changes)] (fun (i : Nat × Nat × Value) => { val := (Value.tuple #[(str r.1), (int .i64 r.2.1)]), own := [(oBox bx0 54 [(int .i64 r.2.2.room), (Value.map (some i.1)), (Value.map (some i.2.1)), i.2.2, (bool r.2.2.fused), (int .i64 r.2.2.left)]), (oMapK Try.prog 9 i.1 str str r.2.2.files), (oMapK Try.prog 9 i.2.1 str str r.2.2.durable), (oRow i.2.2 114 tyI114 r.2.2.changes)] }) := by
 unfold f___disk_Disk__Read at h
 refine fn_enter Try.func24 rfl Try.ntmps24 rfl (fun w0 Z0 => ?_)
 refine aw_sr ?_
 refine as_ ?_
 refine an_ ?_
 refine aw_seq ?_
 refine sm_ ?_
 obtain ⟨r2, hc1, h⟩ := opt_some h
 refine al_call (vs := [(pq bx0)]) (f___disk_Disk__down_ok fu bx0 gm0_1 gm0_2 v0_3 a0 hc1) [] [0, 1, 2, 3] [] pre_nil rfl (by simp) (by decide) (.inl rfl) rfl Try.func61 rfl rfl rfl (fun ⟨g3, g4, v5⟩ => ?_)
 refine al_nt ?_
 refine aw_cond rfl (fun hb6 => ?_) (fun hb6 => ?_)
 replace h := bif_t hb6 h
 refine aw_sr ?_
 refine as_ ?_
 refine an_ ?_
 refine aw_ret ?_
 refine aq_then_ret ?_
 cases h
 exact fn_ret (g3, g4, v5) [0, 1, 2, 3] [] rfl rfl rfl rfl (res2 rfl rfl rfl) rfl rfl rfl (by decide)
 replace h := bif_f hb6 h
 refine aw_skip ?_
 refine aq_then ?_
 refine aw_seq ?_
 refine sm_ ?_
 obtain ⟨r8, hc7, h⟩ := opt_some h
 refine al_call (vs := [(str a1)]) (f_disk_right_ok fu a1 hc7) [] [] [0, 1, 2, 3] pre_nil rfl (by simp) (by decide) (.inl rfl) rfl Try.func53 rfl rfl rfl (fun _ => ?_)
 refine al_val (ov_not rfl rfl) ?_
 refine al_nt ?_
 refine aw_cond rfl (fun hb9 => ?_) (fun hb9 => ?_)
 replace h := bif_t hb9 h
 refine aw_sr ?_
 refine as_ ?_
 refine an_ ?_
 refine aw_ret ?_
 refine aq_then_ret ?_
 cases h
 exact fn_ret (g3, g4, v5) [0, 1, 2, 3] [] rfl rfl rfl rfl (res2 rfl rfl rfl) rfl rfl rfl (by decide)
 replace h := bif_f hb9 h
 refine aw_skip ?_
 refine aq_tr ?_
 refine mv_ ?_
 refine al_val (ov_nilCheck rfl rfl) ?_
 refine al_val (ov_fieldA (p := 1) rfl Try.underlying54 rfl sz51 rfl rfl rfl) ?_
 refine al_val (ov_load (i := 0) (v := (Value.map (some g3))) rfl rfl Try.underlying51 sz51 rfl rfl rfl rfl) ?_
 refine mv_ ?_
 obtain ⟨hc10, h⟩ := req_some h
 refine al_val (v := (Value.tuple #[(str ((gget r2.2.files a1).getD ([] : (List UInt8)))), (bool (gget r2.2.files a1).isSome)])) (ov_lookupOkK (k := a1) (ek := str) (ew := str) (z := ([] : (List UInt8))) 1 kd9 str_inj (key_str Try.underlying9 hc10) rfl rfl rfl Try.underlying51 (zeroOf_to to9) rfl) ?_
 refine mv_ ?_
 refine al_ex rfl rfl rfl ?_
 refine al_ex rfl rfl rfl ?_
 refine as_ ?_
 refine an_ ?_
 refine aw_seq ?_
 refine sm_ ?_
 refine al_val (ov_not rfl rfl) ?_
 refine al_nt ?_
 refine aw_cond rfl (fun hb11 => ?_) (fun hb11 => ?_)
 replace h := bif_t hb11 h
 refine aw_sr ?_
 refine as_ ?_
 refine an_ ?_
 refine aw_ret ?_
 refine aq_then_ret ?_
 cases h
 exact fn_ret (g3, g4, v5) [0, 1, 2, 3] [] rfl rfl rfl rfl (res2 rfl rfl rfl) rfl rfl rfl (by decide)
 replace h := bif_f hb11 h
 refine aw_skip ?_
 refine aq_tr ?_
 refine mv_ ?_
 refine as_ ?_
 refine an_ ?_
 refine aw_ret ?_
 cases h
 exact fn_ret (g3, g4, v5) [0, 1, 2, 3] [] rfl rfl rfl rfl (res2 rfl rfl rfl) rfl rfl rfl (by decide)
def f___lumref_Disk__Read_nilp (fu : Nat) (a1 : (List UInt8)) : Option ((List UInt8) × Int) := (none : Option ((List UInt8) × Int))
set_option maxRecDepth 100000 in
theorem f___lumref_Disk__Read_nilp_ok (fu : Nat) (a1 : (List UInt8)) {r : ((List UInt8) × Int)} (h : f___lumref_Disk__Read_nilp fu a1 = some r) : FnOk Try.prog 25 [(Value.pointer none), (str a1)] [] [] (fun (i : Unit) => { val := (Value.tuple #[(str r.1), (int .i64 r.2)]) }) := by
 unfold f___lumref_Disk__Read_nilp at h
 refine fn_enter Try.func25 rfl Try.ntmps25 rfl (fun w0 Z0 => ?_)
 refine aw_sr ?_
 refine as_ ?_
 refine an_ ?_
 refine aw_seq ?_
 refine aw_sr ?_
 cases h
def f___disk_Disk__List (fu : Nat) (a0 : D_disk_Disk) : Option ((List (List UInt8)) × Int × D_disk_Disk) := (opt (f___disk_Disk__down fu a0) fun (r2 : (Bool × D_disk_Disk)) => (bif r2.1 then (some (([] : List (List UInt8)), (17 : Int), r2.2)) else (opt (f_slices_Sorted_SS r2.2.files) fun (r8 : (List (List UInt8))) => (some (r8, (0 : Int), r2.2)))))
set_option maxHeartbeats 2000000 in
set_option maxRecDepth 100000 in
theorem f___disk_Disk__List_ok (fu : Nat) (bx0 : Nat) (gm0_1 : Nat) (gm0_2 : Nat) (v0_3 : Value) (a0 : D_disk_Disk) {r : ((List (List UInt8)) × Int × D_disk_Disk)} (h : f___disk_Disk__List fu a0 = some r) : FnOk Try.prog 26 [(ptr bx0 0)] [] [(oBox bx0 54 [(int .i64 a0.room), (Value.map (some gm0_1)), (Value.map (some gm0_2)), v0_3, (bool a0.fused), (int .i64 a0.left)]), (oMapK Try.prog 9 gm0_1 str str a0.files), (oMapK Try.prog 9 gm0_2 str str a0.durable), (oRow v0_3 114 tyI114 a0.changes)] (fun (i : Value × Nat × Nat × Value) => { val := (Value.tuple #[i.1, (int .i64 r.2.1)]), own := [(oRow i.1 9 tyStr r.1), (oBox bx0 54 [(int .i64 r.2.2.room), (Value.map (some i.2.1)), (Value.map (some i.2.2.1)), i.2.2.2, (bool r.2.2.fused), (int .i64 r.2.2.left)]), (oMapK Try.prog 9 i.2.1 str str r.2.2.files), (oMapK Try.prog 9 i.2.2.1 str str r.2.2.durable), (oRow i.2.2.2 114 tyI114 r.2.2.changes)] }) := by
 unfold f___disk_Disk__List at h
 refine fn_enter Try.func26 rfl Try.ntmps26 rfl (fun w0 Z0 => ?_)
 refine aw_sr ?_
 refine as_ ?_
 refine an_ ?_
 refine aw_seq ?_
 refine sm_ ?_
 obtain ⟨r2, hc1, h⟩ := opt_some h
 refine al_call (vs := [(pq bx0)]) (f___disk_Disk__down_ok fu bx0 gm0_1 gm0_2 v0_3 a0 hc1) [] [0, 1, 2, 3] [] pre_nil rfl (by simp) (by decide) (.inl rfl) rfl Try.func61 rfl rfl rfl (fun ⟨g3, g4, v5⟩ => ?_)
 refine al_nt ?_
 refine aw_cond rfl (fun hb6 => ?_) (fun hb6 => ?_)
 replace h := bif_t hb6 h
 refine aw_sr ?_
 refine as_ ?_
 refine an_ ?_
 refine aw_ret ?_
 refine aq_then_ret ?_
 refine aq_nilR 9 tyStr ?_
 cases h
 exact fn_ret (nS, g3, g4, v5) [0, 1, 2, 3, 4] [] rfl rfl rfl rfl (res2 rfl rfl rfl) rfl rfl rfl (by decide)
 replace h := bif_f hb6 h
 refine aw_skip ?_
 refine aq_tr ?_
 refine mv_ ?_
 refine al_val (ov_nilCheck rfl rfl) ?_
 refine al_val (ov_fieldA (p := 1) rfl Try.underlying54 rfl sz51 rfl rfl rfl) ?_
 refine al_val (ov_load (i := 0) (v := (Value.map (some g3))) rfl rfl Try.underlying51 sz51 rfl rfl rfl rfl) ?_
 refine al_call (vs := [(Value.map (some g3))]) (f_maps_Keys_SS_ok g3) [] [] [0, 1, 2, 3] pre_nil rfl (by simp) (by decide) (.inl rfl) rfl Try.func63 rfl rfl rfl (fun g7 => ?_)
 obtain ⟨r8, hc9, h⟩ := opt_some h
 refine al_call (vs := [(Value.func (.func 79) #[] #[(pq g7)])]) (f_slices_Sorted_SS_ok g3 g7 r2.2.files hc9) [] [0, 2] [1, 3, 4] pre_nil rfl (by simp) (by decide) (.inl rfl) rfl Try.func62 rfl rfl rfl (fun v10 => ?_)
 refine as_ ?_
 refine an_ ?_
 refine aw_ret ?_
 cases h
 exact fn_ret (v10, g3, g4, v5) [0, 2, 1, 3, 4] [] rfl rfl rfl rfl (res2 rfl rfl rfl) rfl rfl rfl (by decide)
def f___lumref_Disk__List_nilp (fu : Nat)  : Option ((List (List UInt8)) × Int) := (none : Option ((List (List UInt8)) × Int))
set_option maxRecDepth 100000 in
theorem f___lumref_Disk__List_nilp_ok (fu : Nat)  {r : ((List (List UInt8)) × Int)} (h : f___lumref_Disk__List_nilp fu  = some r) : FnOk Try.prog 27 [(Value.pointer none)] [] [] (fun (i : Value) => { val := (Value.tuple #[i, (int .i64 r.2)]), own := [(oRow i 9 tyStr r.1)] }) := by
 unfold f___lumref_Disk__List_nilp at h
 refine fn_enter Try.func27 rfl Try.ntmps27 rfl (fun w0 Z0 => ?_)
 refine aw_sr ?_
 refine as_ ?_
 refine an_ ?_
 refine aw_seq ?_
 refine aw_sr ?_
 cases h
def f___disk_Disk__Fuse (fu : Nat) (a0 : D_disk_Disk) (a1 : Int) : Option D_disk_Disk := (some (D_disk_Disk.mk a0.room a0.files a0.durable a0.changes (decide (a1 ≥ (0 : Int))) (if (0 : Int) > a1 then (0 : Int) else a1)))
set_option maxRecDepth 100000 in
theorem f___disk_Disk__Fuse_ok (fu : Nat) (bx0 : Nat) (gm0_1 : Nat) (gm0_2 : Nat) (v0_3 : Value) (a0 : D_disk_Disk) (a1 : Int) {r : D_disk_Disk} (h : f___disk_Disk__Fuse fu a0 a1 = some r) : FnOk Try.prog 29 [(ptr bx0 0), (int .i64 a1)] [] [(oBox bx0 54 [(int .i64 a0.room), (Value.map (some gm0_1)), (Value.map (some gm0_2)), v0_3, (bool a0.fused), (int .i64 a0.left)]), (oMapK Try.prog 9 gm0_1 str str a0.files), (oMapK Try.prog 9 gm0_2 str str a0.durable), (oRow v0_3 114 tyI114 a0.changes)] (fun (i : Nat × Nat × Value) => { val := (Value.tuple #[]), own := [(oBox bx0 54 [(int .i64 r.room), (Value.map (some i.1)), (Value.map (some i.2.1)), i.2.2, (bool r.fused), (int .i64 r.left)]), (oMapK Try.prog 9 i.1 str str r.files), (oMapK Try.prog 9 i.2.1 str str r.durable), (oRow i.2.2 114 tyI114 r.changes)] }) := by
 unfold f___disk_Disk__Fuse at h
 refine fn_enter Try.func29 rfl Try.ntmps29 rfl (fun w0 Z0 => ?_)
 refine aw_region ?_
 refine mv_ ?_
 refine mv_ ?_
 refine mv_ ?_
 refine in_ ?_
 refine mv_ ?_
 refine al_val (ov_max rfl rfl rfl) ?_
 refine al_val (ov_nilCheck rfl rfl) ?_
 refine al_val (ov_fieldA (p := 4) rfl Try.underlying54 rfl sz4 rfl rfl rfl) ?_
 refine al_store (i := 0) (vs := [(bool (decide (a1 ≥ (0 : Int))))]) (cs' := [(iq a0.room), (Value.map (some gm0_1)), (Value.map (some gm0_2)), v0_3, (bool (decide (a1 ≥ (0 : Int)))), (iq a0.left)]) rfl rfl rfl sz4 (cv_rfl rfl) rfl (co_val rfl co_nil) (Nat.le_of_ble_eq_true rfl) rfl rfl ?_
 refine al_val (ov_nilCheck rfl rfl) ?_
 refine al_val (ov_fieldA (p := 5) rfl Try.underlying54 rfl sz3 rfl rfl rfl) ?_
 refine al_store (i := 0) (vs := [(iq (if (0 : Int) > a1 then (0 : Int) else a1))]) (cs' := [(iq a0.room), (Value.map (some gm0_1)), (Value.map (some gm0_2)), v0_3, (bool (decide (a1 ≥ (0 : Int)))), (iq (if (0 : Int) > a1 then (0 : Int) else a1))]) rfl rfl rfl sz3 (cv_rfl rfl) rfl (co_val rfl co_nil) (Nat.le_of_ble_eq_true rfl) rfl rfl ?_
 refine al_nil ?_
 refine fn_end ?_
 cases h
 exact fn_ret (gm0_1, gm0_2, v0_3) [0, 1, 2, 3] [] rfl rfl rfl rfl (resC rfl (resN) rfl) rfl rfl rfl (by decide)
def f___lumref_Disk__Fuse_nilp (fu : Nat) (a1 : Int) : Option Unit := (none : Option Unit)
set_option maxRecDepth 100000 in
theorem f___lumref_Disk__Fuse_nilp_ok (fu : Nat) (a1 : Int) {r : Unit} (h : f___lumref_Disk__Fuse_nilp fu a1 = some r) : FnOk Try.prog 30 [(Value.pointer none), (int .i64 a1)] [] [] (fun (i : Unit) => { val := (Value.tuple #[]) }) := by
 unfold f___lumref_Disk__Fuse_nilp at h
 refine fn_enter Try.func30 rfl Try.ntmps30 rfl (fun w0 Z0 => ?_)
 refine aw_sr ?_
 cases h
def f___disk_Disk__Crash_L6 (a0 : D_disk_Disk) (a1 : (List Int)) (kk2 : ((List ((List UInt8) × (List UInt8))) → Option D_disk_Disk)) (fu : Nat) : Nat → (List ((List UInt8) × (List UInt8))) → Int → Option D_disk_Disk
  | 0, _, _ => none
  | k5 + 1, l4xm0_2, l4i11 => (bif (decide (l4i11 < (a0.changes.length : Int))) then (lt (fun (j8xm0_2 : (List ((List UInt8) × (List UInt8)))) => (f___disk_Disk__Crash_L6 a0 a1 kk2 fu k5 j8xm0_2 (IntKind.i64.wrap (l4i11 + (1 : Int))))) fun (kk9 : (List ((List UInt8) × (List UInt8))) → Option D_disk_Disk) => (opt (at? a0.changes l4i11) fun (u10 : I114) => (lt (fun (j14b30 : Bool) => (bif j14b30 then (kk9 l4xm0_2) else (opt (at? a1 l4i11) fun (u17 : Int) => (bif (u17 == (1 : Int)) then (match u10 with | .nil => none | .t95 iy22 => (opt (f__disk_write__apply fu iy22 l4xm0_2 (65536 : Int)) fun (r24 : (List ((List UInt8) × (List UInt8)))) => (kk9 r24)) | .t98 iy25 => (opt (f__disk_rename__apply fu iy25 l4xm0_2 (65536 : Int)) fun (r27 : (List ((List UInt8) × (List UInt8)))) => (kk9 r27)) | .t105 iy28 => (opt (f__disk_remove__apply fu iy28 l4xm0_2 (65536 : Int)) fun (r30 : (List ((List UInt8) × (List UInt8)))) => (kk9 r30))) else (match u10 with | .nil => none | .t95 iy32 => (opt (at? a1 l4i11) fun (u33 : Int) => (opt (f__disk_write__apply fu iy32 l4xm0_2 (IntKind.i64.wrap (u33 - (2 : Int)))) fun (r37 : (List ((List UInt8) × (List UInt8)))) => (kk9 r37))) | .t98 iy38 => (opt (at? a1 l4i11) fun (u39 : Int) => (opt (f__disk_rename__apply fu iy38 l4xm0_2 (IntKind.i64.wrap (u39 - (2 : Int)))) fun (r43 : (List ((List UInt8) × (List UInt8)))) => (kk9 r43))) | .t105 iy44 => (opt (at? a1 l4i11) fun (u45 : Int) => (opt (f__disk_remove__apply fu iy44 l4xm0_2 (IntKind.i64.wrap (u45 - (2 : Int)))) fun (r49 : (List ((List UInt8) × (List UInt8)))) => (kk9 r49)))))))) fun (kk15 : Bool → Option D_disk_Disk) => (bif (decide (l4i11 ≥ (a1.length : Int))) then (kk15 true) else (opt (at? a1 l4i11) fun (u51 : Int) => (kk15 (decide (u51 < (1 : Int))))))))) else (kk2 l4xm0_2))
def f___disk_Disk__Crash (fu : Nat) (a0 : D_disk_Disk) (a1 : (List Int)) : Option D_disk_Disk := (lt (fun (j1xm0_2 : (List ((List UInt8) × (List UInt8)))) => (some (D_disk_Disk.mk a0.room j1xm0_2 j1xm0_2 ([] : List I114) false a0.left))) fun (kk2 : (List ((List UInt8) × (List UInt8))) → Option D_disk_Disk) => (f___disk_Disk__Crash_L6 a0 a1 kk2 fu fu a0.durable (0 : Int)))
abbrev mm13 (w0 : World) (Z0 : Nat → Prop) (a0 : D_disk_Disk) (a1 : (List Int)) (bx0 : Nat) (gm0_1 : Nat) (gm0_2 : Nat) (j1xm0_2 : (List ((List UInt8) × (List UInt8)))) (v0_3 : Value) (v1_0 : Value) : Mem := memOf w0 Z0 [(oBox bx0 54 [(int .i64 a0.room), (Value.map (some gm0_1)), (Value.map (some gm0_2)), v0_3, (bool a0.fused), (int .i64 a0.left)]), (oMapK Try.prog 9 gm0_1 str str a0.files), (oMapK Try.prog 9 gm0_2 str str a0.durable), (oRow v0_3 114 tyI114 a0.changes)] [(oMapK Try.prog 9 gm0_1 str str a0.files), (oMapK Try.prog 9 gm0_2 str str j1xm0_2), (oRow v0_3 114 tyI114 a0.changes), (oBox bx0 54 [(int .i64 a0.room), (Value.map (some gm0_1)), (Value.map (some gm0_2)), v0_3, (bool a0.fused), (int .i64 a0.left)])] [(fDat (tyList (tyInt .i64)) [v1_0] a1)]
abbrev mm14 (w0 : World) (Z0 : Nat → Prop) (a0 : D_disk_Disk) (a1 : (List Int)) (bx0 : Nat) (gm0_1 : Nat) (gm0_2 : Nat) (l4xm0_2 : (List ((List UInt8) × (List UInt8)))) (v0_3 : Value) (v1_0 : Value) : Mem := memOf w0 Z0 [(oBox bx0 54 [(int .i64 a0.room), (Value.map (some gm0_1)), (Value.map (some gm0_2)), v0_3, (bool a0.fused), (int .i64 a0.left)]), (oMapK Try.prog 9 gm0_1 str str a0.files), (oMapK Try.prog 9 gm0_2 str str a0.durable), (oRow v0_3 114 tyI114 a0.changes)] [(oMapK Try.prog 9 gm0_1 str str a0.files), (oMapK Try.prog 9 gm0_2 str str l4xm0_2), (oRow v0_3 114 tyI114 a0.changes), (oBox bx0 54 [(int .i64 a0.room), (Value.map (some gm0_1)), (Value.map (some gm0_2)), v0_3, (bool a0.fused), (int .i64 a0.left)])] [(fDat (tyList (tyInt .i64)) [v1_0] a1)]
abbrev mm15 (w0 : World) (Z0 : Nat → Prop) (a0 : D_disk_Disk) (a1 : (List Int)) (bx0 : Nat) (gm0_1 : Nat) (gm0_2 : Nat) (l4xm0_2 : (List ((List UInt8) × (List UInt8)))) (p19 : Value) (u17 : Int) (v0_3 : Value) (v1_0 : Value) : Mem := memOf w0 Z0 [(oBox bx0 54 [(int .i64 a0.room), (Value.map (some gm0_1)), (Value.map (some gm0_2)), v0_3, (bool a0.fused), (int .i64 a0.left)]), (oMapK Try.prog 9 gm0_1 str str a0.files), (oMapK Try.prog 9 gm0_2 str str a0.durable), (oRow v0_3 114 tyI114 a0.changes)] [(oMapK Try.prog 9 gm0_1 str str a0.files), (oMapK Try.prog 9 gm0_2 str str l4xm0_2), (oRow v0_3 114 tyI114 a0.changes), (oBox bx0 54 [(int .i64 a0.room), (Value.map (some gm0_1)), (Value.map (some gm0_2)), v0_3, (bool a0.fused), (int .i64 a0.left)])] [(fPtr (tyInt .i64) p19 u17), (fDat (tyList (tyInt .i64)) [v1_0] a1)]
abbrev mm16 (w0 : World) (Z0 : Nat → Prop) (a0 : D_disk_Disk) (a1 : (List Int)) (bx0 : Nat) (gm0_1 : Nat) (gm0_2 : Nat) (p19 : Value) (r24 : (List ((List UInt8) × (List UInt8)))) (u17 : Int) (v0_3 : Value) (v1_0 : Value) : Mem := memOf w0 Z0 [(oBox bx0 54 [(int .i64 a0.room), (Value.map (some gm0_1)), (Value.map (some gm0_2)), v0_3, (bool a0.fused), (int .i64 a0.left)]), (oMapK Try.prog 9 gm0_1 str str a0.files), (oMapK Try.prog 9 gm0_2 str str a0.durable), (oRow v0_3 114 tyI114 a0.changes)] [(oMapK Try.prog 9 gm0_2 str str r24), (oMapK Try.prog 9 gm0_1 str str a0.files), (oRow v0_3 114 tyI114 a0.changes), (oBox bx0 54 [(int .i64 a0.room), (Value.map (some gm0_1)), (Value.map (some gm0_2)), v0_3, (bool a0.fused), (int .i64 a0.left)])] [(fPtr (tyInt .i64) p19 u17), (fDat (tyList (tyInt .i64)) [v1_0] a1)]
abbrev mm17 (w0 : World) (Z0 : Nat → Prop) (a0 : D_disk_Disk) (a1 : (List Int)) (bx0 : Nat) (gm0_1 : Nat) (gm0_2 : Nat) (p19 : Value) (r27 : (List ((List UInt8) × (List UInt8)))) (u17 : Int) (v0_3 : Value) (v1_0 : Value) : Mem := memOf w0 Z0 [(oBox bx0 54 [(int .i64 a0.room), (Value.map (some gm0_1)), (Value.map (some gm0_2)), v0_3, (bool a0.fused), (int .i64 a0.left)]), (oMapK Try.prog 9 gm0_1 str str a0.files), (oMapK Try.prog 9 gm0_2 str str a0.durable), (oRow v0_3 114 tyI114 a0.changes)] [(oMapK Try.prog 9 gm0_2 str str r27), (oMapK Try.prog 9 gm0_1 str str a0.files), (oRow v0_3 114 tyI114 a0.changes), (oBox bx0 54 [(int .i64 a0.room), (Value.map (some gm0_1)), (Value.map (some gm0_2)), v0_3, (bool a0.fused), (int .i64 a0.left)])] [(fPtr (tyInt .i64) p19 u17), (fDat (tyList (tyInt .i64)) [v1_0] a1)]
abbrev mm18 (w0 : World) (Z0 : Nat → Prop) (a0 : D_disk_Disk) (a1 : (List Int)) (bx0 : Nat) (gm0_1 : Nat) (gm0_2 : Nat) (p19 : Value) (r30 : (List ((List UInt8) × (List UInt8)))) (u17 : Int) (v0_3 : Value) (v1_0 : Value) : Mem := memOf w0 Z0 [(oBox bx0 54 [(int .i64 a0.room), (Value.map (some gm0_1)), (Value.map (some gm0_2)), v0_3, (bool a0.fused), (int .i64 a0.left)]), (oMapK Try.prog 9 gm0_1 str str a0.files), (oMapK Try.prog 9 gm0_2 str str a0.durable), (oRow v0_3 114 tyI114 a0.changes)] [(oMapK Try.prog 9 gm0_2 str str r30), (oMapK Try.prog 9 gm0_1 str str a0.files), (oRow v0_3 114 tyI114 a0.changes), (oBox bx0 54 [(int .i64 a0.room), (Value.map (some gm0_1)), (Value.map (some gm0_2)), v0_3, (bool a0.fused), (int .i64 a0.left)])] [(fPtr (tyInt .i64) p19 u17), (fDat (tyList (tyInt .i64)) [v1_0] a1)]
abbrev mm19 (w0 : World) (Z0 : Nat → Prop) (a0 : D_disk_Disk) (a1 : (List Int)) (bx0 : Nat) (gm0_1 : Nat) (gm0_2 : Nat) (l4xm0_2 : (List ((List UInt8) × (List UInt8)))) (p19 : Value) (p35 : Value) (u17 : Int) (u33 : Int) (v0_3 : Value) (v1_0 : Value) : Mem := memOf w0 Z0 [(oBox bx0 54 [(int .i64 a0.room), (Value.map (some gm0_1)), (Value.map (some gm0_2)), v0_3, (bool a0.fused), (int .i64 a0.left)]), (oMapK Try.prog 9 gm0_1 str str a0.files), (oMapK Try.prog 9 gm0_2 str str a0.durable), (oRow v0_3 114 tyI114 a0.changes)] [(oMapK Try.prog 9 gm0_1 str str a0.files), (oMapK Try.prog 9 gm0_2 str str l4xm0_2), (oRow v0_3 114 tyI114 a0.changes), (oBox bx0 54 [(int .i64 a0.room), (Value.map (some gm0_1)), (Value.map (some gm0_2)), v0_3, (bool a0.fused), (int .i64 a0.left)])] [(fPtr (tyInt .i64) p35 u33), (fPtr (tyInt .i64) p19 u17), (fDat (tyList (tyInt .i64)) [v1_0] a1)]
abbrev mm20 (w0 : World) (Z0 : Nat → Prop) (a0 : D_disk_Disk) (a1 : (List Int)) (bx0 : Nat) (gm0_1 : Nat) (gm0_2 : Nat) (p19 : Value) (r37 : (List ((List UInt8) × (List UInt8)))) (u17 : Int) (v0_3 : Value) (v1_0 : Value) : Mem := memOf w0 Z0 [(oBox bx0 54 [(int .i64 a0.room), (Value.map (some gm0_1)), (Value.map (some gm0_2)), v0_3, (bool a0.fused), (int .i64 a0.left)]), (oMapK Try.prog 9 gm0_1 str str a0.files), (oMapK Try.prog 9 gm0_2 str str a0.durable), (oRow v0_3 114 tyI114 a0.changes)] [(oMapK Try.prog 9 gm0_2 str str r37), (oMapK Try.prog 9 gm0_1 str str a0.files), (oRow v0_3 114 tyI114 a0.changes), (oBox bx0 54 [(int .i64 a0.room), (Value.map (some gm0_1)), (Value.map (some gm0_2)), v0_3, (bool a0.fused), (int .i64 a0.left)])] [(fPtr (tyInt .i64) p19 u17), (fDat (tyList (tyInt .i64)) [v1_0] a1)]
abbrev mm21 (w0 : World) (Z0 : Nat → Prop) (a0 : D_disk_Disk) (a1 : (List Int)) (bx0 : Nat) (gm0_1 : Nat) (gm0_2 : Nat) (l4xm0_2 : (List ((List UInt8) × (List UInt8)))) (p19 : Value) (p41 : Value) (u17 : Int) (u39 : Int) (v0_3 : Value) (v1_0 : Value) : Mem := memOf w0 Z0 [(oBox bx0 54 [(int .i64 a0.room), (Value.map (some gm0_1)), (Value.map (some gm0_2)), v0_3, (bool a0.fused), (int .i64 a0.left)]), (oMapK Try.prog 9 gm0_1 str str a0.files), (oMapK Try.prog 9 gm0_2 str str a0.durable), (oRow v0_3 114 tyI114 a0.changes)] [(oMapK Try.prog 9 gm0_1 str str a0.files), (oMapK Try.prog 9 gm0_2 str str l4xm0_2), (oRow v0_3 114 tyI114 a0.changes), (oBox bx0 54 [(int .i64 a0.room), (Value.map (some gm0_1)), (Value.map (some gm0_2)), v0_3, (bool a0.fused), (int .i64 a0.left)])] [(fPtr (tyInt .i64) p41 u39), (fPtr (tyInt .i64) p19 u17), (fDat (tyList (tyInt .i64)) [v1_0] a1)]
abbrev mm22 (w0 : World) (Z0 : Nat → Prop) (a0 : D_disk_Disk) (a1 : (List Int)) (bx0 : Nat) (gm0_1 : Nat) (gm0_2 : Nat) (p19 : Value) (r43 : (List ((List UInt8) × (List UInt8)))) (u17 : Int) (v0_3 : Value) (v1_0 : Value) : Mem := memOf w0 Z0 [(oBox bx0 54 [(int .i64 a0.room), (Value.map (some gm0_1)), (Value.map (some gm0_2)), v0_3, (bool a0.fused), (int .i64 a0.left)]), (oMapK Try.prog 9 gm0_1 str str a0.files), (oMapK Try.prog 9 gm0_2 str str a0.durable), (oRow v0_3 114 tyI114 a0.changes)] [(oMapK Try.prog 9 gm0_2 str str r43), (oMapK Try.prog 9 gm0_1 str str a0.files), (oRow v0_3 114 tyI114 a0.changes), (oBox bx0 54 [(int .i64 a0.room), (Value.map (some gm0_1)), (Value.map (some gm0_2)), v0_3, (bool a0.fused), (int .i64 a0.left)])] [(fPtr (tyInt .i64) p19 u17), (fDat (tyList (tyInt .i64)) [v1_0] a1)]
abbrev mm23 (w0 : World) (Z0 : Nat → Prop) (a0 : D_disk_Disk) (a1 : (List Int)) (bx0 : Nat) (gm0_1 : Nat) (gm0_2 : Nat) (l4xm0_2 : (List ((List UInt8) × (List UInt8)))) (p19 : Value) (p47 : Value) (u17 : Int) (u45 : Int) (v0_3 : Value) (v1_0 : Value) : Mem := memOf w0 Z0 [(oBox bx0 54 [(int .i64 a0.room), (Value.map (some gm0_1)), (Value.map (some gm0_2)), v0_3, (bool a0.fused), (int .i64 a0.left)]), (oMapK Try.prog 9 gm0_1 str str a0.files), (oMapK Try.prog 9 gm0_2 str str a0.durable), (oRow v0_3 114 tyI114 a0.changes)] [(oMapK Try.prog 9 gm0_1 str str a0.files), (oMapK Try.prog 9 gm0_2 str str l4xm0_2), (oRow v0_3 114 tyI114 a0.changes), (oBox bx0 54 [(int .i64 a0.room), (Value.map (some gm0_1)), (Value.map (some gm0_2)), v0_3, (bool a0.fused), (int .i64 a0.left)])] [(fPtr (tyInt .i64) p47 u45), (fPtr (tyInt .i64) p19 u17), (fDat (tyList (tyInt .i64)) [v1_0] a1)]
abbrev mm24 (w0 : World) (Z0 : Nat → Prop) (a0 : D_disk_Disk) (a1 : (List Int)) (bx0 : Nat) (gm0_1 : Nat) (gm0_2 : Nat) (p19 : Value) (r49 : (List ((List UInt8) × (List UInt8)))) (u17 : Int) (v0_3 : Value) (v1_0 : Value) : Mem := memOf w0 Z0 [(oBox bx0 54 [(int .i64 a0.room), (Value.map (some gm0_1)), (Value.map (some gm0_2)), v0_3, (bool a0.fused), (int .i64 a0.left)]), (oMapK Try.prog 9 gm0_1 str str a0.files), (oMapK Try.prog 9 gm0_2 str str a0.durable), (oRow v0_3 114 tyI114 a0.changes)] [(oMapK Try.prog 9 gm0_2 str str r49), (oMapK Try.prog 9 gm0_1 str str a0.files), (oRow v0_3 114 tyI114 a0.changes), (oBox bx0 54 [(int .i64 a0.room), (Value.map (some gm0_1)), (Value.map (some gm0_2)), v0_3, (bool a0.fused), (int .i64 a0.left)])] [(fPtr (tyInt .i64) p19 u17), (fDat (tyList (tyInt .i64)) [v1_0] a1)]
end Go.Proofs.Ytiioclkiapbjnaa
