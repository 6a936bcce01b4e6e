/- Parse. -/
import Derived.Test.YtcgjejpekefjdaaDoorMasterC
import Derived.Test.YtcgjejpekefjdaaDoorCodecE
import Derived.Test.YtcgjejpekefjdaaDoorStampO
import Derived.Test.YtcgjejpekefjdaaDoorStampL
import Derived.Test.YtcgjejpekefjdaaDoorHandM
set_option linter.unusedSimpArgs false
set_option linter.unusedVariables false
namespace Go.Proofs.YtcgjejpekefjdaaDoor
open Go.RowKit Go.Proofs.YtcgjejpekefjdaaDoor.Crc
/-- A slot's numbers, put. -/
def putsU (fs : List Nat) : List UInt8 := (fs.map putU).flatten
def bodyU (fs : List Nat) : List UInt8 := putU fs.length ++ putsU fs
theorem putsU_cons (f : Nat) (fs : List Nat) : putsU (f :: fs) = putU f ++ putsU fs := by unfold putsU; simp
theorem putsU_snoc (fs : List Nat) (f : Nat) : putsU (fs ++ [f]) = putsU fs ++ putU f := by unfold putsU; simp
theorem putsU_nil : putsU [] = [] := rfl
theorem putsU_len (fs : List Nat) (h : ∀ f ∈ fs, f < 18446744073709551616) : (putsU fs).length ≤ 10 * fs.length := by
  induction fs with
  | nil => simp [putsU]
  | cons f fs ih =>
    rw [putsU_cons, List.length_append, List.length_cons]
    have h1 := putU_len10 f (h f (by simp))
    have h2 := ih (fun g hg => h g (by simp [hg]))
    omega
theorem bodyU_len (fs : List Nat) (h : ∀ f ∈ fs, f < 18446744073709551616) (hl : fs.length ≤ 20) : (bodyU fs).length ≤ 201 := by
  have := putsU_len fs h
  unfold bodyU
  rw [putU_small _ (by omega)]
  simp; omega
theorem putsU_drop (fs : List Nat) (t : Nat) (h : t < fs.length) : putsU (fs.drop t) = putU fs[t] ++ putsU (fs.drop (t + 1)) := by
  rw [List.drop_eq_getElem_cons h, putsU_cons]
theorem sizeSl : (Tryd.prog.info? 34).map (·.size) = some 2 := by kernel_rfl
theorem run_retSlot {w : World} {r : Nat} {x y : Value} (h : w.heap[r]? = some (.cells #[x, y] 34 (0, 0))) : (loadVar 34 ⟨r, 0, none⟩).run Tryd.prog w = .ok (.agg #[x, y]) w :=
  run_loadVar_row _ _ _ 34 _ (0, 0) _ h Tryd.underlying34 rfl sizeSl
theorem results_cell1 {fn : Func} {t : TypeId} {k r : Nat} {w : World} {v : Value} (hf : fn.results = #[.cell k t]) (tmps : Array Value) (hp : tmps.getD k undef = .pointer (some ⟨r, 0, none⟩))
    (h : (loadVar t ⟨r, 0, none⟩).run Tryd.prog w = .ok v w) : (results fn tmps).run Tryd.prog w = .ok v w := by
  rw [Array.getD_eq_getD_getElem?] at hp
  simp [results, hf, hp, asAddr, h]
/-- A slot in memory. -/
def SlAt (w : World) (r : Nat) (x y : Value) : Prop := w.heap[r]? = some (.cells #[x, y] 34 (0, 0))
theorem SlAt.cells {w : World} {r : Nat} {x y : Value} (h : SlAt w r x y) : w.cell? ⟨r, 0, none⟩ = some x ∧ w.cell? ⟨r, 1, none⟩ = some y ∧ w.frozen? ⟨r, 0, none⟩ = false ∧ w.frozen? ⟨r, 1, none⟩ = false :=
  ⟨by rw [cell_of_row _ _ _ _ _ _ h]; rfl, by rw [cell_of_row _ _ _ _ _ _ h]; rfl, frozen_of_row _ _ _ _ _ h, frozen_of_row _ _ _ _ _ h⟩
theorem SlAt.kept {S : Nat → Prop} {w w' : World} {r : Nat} {x y : Value} (h : SlAt w r x y) (hk : Kept S w w') (hs : ¬ S r) : SlAt w' r x y := by
  unfold SlAt at h ⊢
  rw [hk.block r (Array.getElem?_eq_some_iff.1 h).1 hs]; exact h
theorem SlAt.below {w w' : World} {B r : Nat} {x y : Value} (h : SlAt w r x y) (hb : Below B w w') (hr : r < B) : SlAt w' r x y := by
  unfold SlAt at h ⊢
  rw [hb.block r hr]; exact h
theorem SlAt.lt {w : World} {r : Nat} {x y : Value} (h : SlAt w r x y) : r < w.heap.size := (Array.getElem?_eq_some_iff.1 h).1
theorem SlAt.put2 {w : World} {r : Nat} {x y : Value} (h : SlAt w r x y) (u v : Value) : (loadVar 34 ⟨r, 0, none⟩).run Tryd.prog ((w.setCell ⟨r, 0, none⟩ u).setCell ⟨r, 1, none⟩ v) = .ok (.agg #[u, v]) ((w.setCell ⟨r, 0, none⟩ u).setCell ⟨r, 1, none⟩ v) ∧ Kept (· = r) w ((w.setCell ⟨r, 0, none⟩ u).setCell ⟨r, 1, none⟩ v) := by
  refine ⟨run_retSlot ?_, (Kept.set1 w r 0 u).trans (Kept.set1 _ r 1 v)⟩
  have h' : w.heap[r]? = some (.cells #[x, y] 34 (0, 0)) := h
  simp [World.setCell, Array.getElem?_modify, h']
theorem SlAt.set1 {w : World} {r : Nat} {x y : Value} (h : SlAt w r x y) (v : Value) : SlAt (w.setCell ⟨r, 1, none⟩ v) r x v := by
  unfold SlAt at h ⊢; simp [World.setCell, Array.getElem?_modify, h]
theorem OwnB.capsM {w : World} {base n c : Nat} {A : Option Addr} {l : List UInt8} (h : OwnB w base (.slice A n c) l) : n ≤ c ∧ c ≤ 9223372036854775807 := by
  rcases h.2 with ⟨h1, _⟩ | ⟨g, cap, cur, h1, _, _, h4, h5, _⟩
  · cases h1; exact ⟨Nat.le_refl _, by omega⟩
  · cases h1; exact ⟨by have := h.len; omega, by unfold maxLen at h5; omega⟩
theorem OwnB.upto {w : World} {base n c : Nat} {A : Option Addr} {l : List UInt8} (h : OwnB w base (.slice A n c) l) : (∀ ad, A = some ad → base ≤ ad.block ∧ ad.block < w.heap.size) := by
  intro ad hA
  subst hA
  rcases h.form with ⟨h1, _⟩ | ⟨g, c', h1, _⟩
  · cases h1
  · cases h1; exact h.lt _ rfl
set_option maxRecDepth 10000 in
set_option maxHeartbeats 1000000 in
theorem parse_no (A : Option Addr) (n c : Nat) (l : List UInt8) (w : World) (hh : HalfIs w) (hn : n = l.length) (hb : Bytes w A l) (hc : n ≤ c) (hm : c ≤ 9223372036854775807) (h : ¬ (openS l).2.2.2 = 0) :
    Calls Tryd.prog 37 #[.slice A n c] w fun e w' => e = .returned (.agg #[.int .i64 0, .slice none 0 0]) ∧ Below w.heap.size w w' := by
  have HOp : Hid (∀ w', Below w.heap.size w w' → Calls Tryd.prog 56 #[.slice A n c] w' (RetO w' (openS l))) := fun w' hb' => Open7_calls A n c l w' (hh.below hb') hn (hb.below hb') hc hm
  obtain ⟨x, hx⟩ : ∃ x, openS l = x := ⟨_, rfl⟩
  obtain ⟨ep, kd, bd, er⟩ := x
  rw [hx] at h HOp
  have h0 : ¬ er = 0 := h
  have d0 : (er != 0) = true := by simp; exact h0
  clear hh hn hb hc hm hx h h0
  go_enter Tryd.func37, Tryd.ntmps37
  go_wp2_with (go_at_call 56; refine (HOp.out _ ((Below.refl _ _).alloc (Nat.le_refl _) _)).mono ?_; rintro e w2 ⟨A2, c2, rfl, hO2, hb2⟩; refine park ?_; intro q hq)
  refine hq.out ?_
  clear hq
  have hs2 : SlAt w2 w.heap.size (.int .i64 0) (.slice none 0 0) := SlAt.below (heap_alloc_new w _) hb2 (by simp)
  obtain ⟨k0, k1, k2, k3⟩ := hs2.cells
  have HS2 := Lib.hid hs2
  have HB2 : Hid (Below w.heap.size w w2) := ((Below.refl _ _).alloc (Nat.le_refl _) _).trans (hb2.mono (by simp))
  clear hO2 hb2 hs2
  go_wp2_with fail
  obtain ⟨g1, g2⟩ := HS2.out.put2 (.int .i64 0) (.slice none 0 0)
  refine bodyPost_ret_by (results_cell1 rfl _ rfl g1) rfl ?_
  exact ⟨rfl, HB2.out.trans (g2.below HB2.out.size (fun j hj e => by omega))⟩
/-- Parse under way: what is told, the reader, the slot. -/
def PrI (w0 : World) (r s ep : Nat) (v : Value) (rest : List UInt8) (zs : List Nat) (w : World) : Prop :=
  Below w0.heap.size w0 w ∧ SlAt w w0.heap.size (.int .i64 0) (.slice none 0 0) ∧ RdL w r rest ∧ SlAt w s (.int .i64 (ep : Int)) v ∧ OwnU w (s + 1) v zs ∧ w0.heap.size < r ∧ r < s
theorem PrI.read {w0 : World} {r s ep : Nat} {v : Value} {rest rest' : List UInt8} {zs : List Nat} {w w' : World} (h : PrI w0 r s ep v rest zs w) (hr : RdL w' r rest') (hk : Kept (· = r) w w') : PrI w0 r s ep v rest' zs w' := by
  obtain ⟨h1, h2, h3, h4, h5, h6, h7⟩ := h
  exact ⟨h1.trans (hk.below h1.size (fun j hj e => by omega)), h2.kept hk (by omega), hr, h4.kept hk (by omega), h5.kept hk (fun k hk' e => by have := (h5.lt k hk').1; omega), h6, h7⟩
theorem PrI.kept {S : Nat → Prop} {w0 : World} {r s ep : Nat} {v : Value} {rest : List UInt8} {zs : List Nat} {w w' : World} (h : PrI w0 r s ep v rest zs w) (hk : Kept S w w') (hS : ∀ j, j < w.heap.size → ¬ S j) : PrI w0 r s ep v rest zs w' := by
  obtain ⟨h1, h2, h3, h4, h5, h6, h7⟩ := h
  have hs := h4.lt
  exact ⟨h1.trans (hk.below h1.size (fun j hj e => hS j (by omega) e)), h2.kept hk (hS _ h2.lt), h3.kept hk (fun k hk' e => absurd e (hS k hk')), h4.kept hk (hS _ hs), h5.kept hk (fun k hk' => hS k (h5.lt k hk').2), h6, h7⟩
theorem PrI.put {w0 : World} {r s ep : Nat} {v v' : Value} {rest : List UInt8} {zs zs' : List Nat} {w w' : World} (h : PrI w0 r s ep v rest zs w) (hk : Kept (fun k => s < k) w w') (hv : OwnU w' (s + 1) v' zs') : SlAt w' s (.int .i64 (ep : Int)) v ∧ PrI w0 r s ep v' rest zs' (w'.setCell ⟨s, 1, none⟩ v') := by
  obtain ⟨h1, h2, h3, h4, h5, h6, h7⟩ := h
  have hk2 := Kept.set1 w' s 1 v'
  have g1 := h1.trans (hk.below h1.size (fun j hj e => by omega))
  have g4 := h4.kept hk (by omega)
  refine ⟨g4, g1.trans (hk2.below g1.size (fun j hj e => by omega)), (h2.kept hk (by omega)).kept hk2 (by omega), (h3.kept hk (fun k _ e => by omega)).kept hk2 (fun k _ e => by omega), g4.set1 v', hv.kept hk2 (fun k hk' e => by have := (hv.lt k hk').1; omega), h6, h7⟩
theorem PrI.uint {w0 : World} {r s ep : Nat} {v : Value} {rest : List UInt8} {zs : List Nat} {w : World} {N most : Nat} (h : PrI w0 r s ep v (putU N ++ rest) zs w) (hN : N < 18446744073709551616) (hm : N ≤ most) :
    Calls Tryd.prog 58 #[.pointer (some ⟨r, 0, none⟩), .int .u64 (most : Int)] w fun e w' => e = .returned (.int .u64 (N : Int)) ∧ Hid (PrI w0 r s ep v rest zs w' ∧ Kept (· = r) w w') :=
  (Uint_calls hN hm h.2.2.1).mono fun _ _ ⟨he, hr, hk⟩ => ⟨he, h.read hr hk, hk⟩
set_option maxRecDepth 100000 in
set_option maxHeartbeats 2000000 in
theorem parse_yes (A : Option Addr) (n c : Nat) (l : List UInt8) (w : World) (hh : HalfIs w) (hn : n = l.length) (hb : Bytes w A l) (hc : n ≤ c) (hm : c ≤ 9223372036854775807) (ep : Nat) (fs : List Nat) (h : openS l = (ep, 3, bodyU fs, 0)) (hep : ep ≤ 1000000000) (hl : fs.length ≤ 20) (hfs : ∀ f ∈ fs, f < 18446744073709551616) :
    Calls Tryd.prog 37 #[.slice A n c] w fun e w' => ∃ A' c', e = .returned (.agg #[.int .i64 (ep : Int), .slice A' fs.length c']) ∧ (A' = none → c' = 0) ∧ U64o w' A' fs ∧ (∀ ad, A' = some ad → w.heap.size ≤ ad.block) ∧ Below w.heap.size w w' := by
  have HOp : Hid (∀ w', Below w.heap.size w w' → Calls Tryd.prog 56 #[.slice A n c] w' (RetO w' (openS l))) := fun w' hb' => Open7_calls A n c l w' (hh.below hb') hn (hb.below hb') hc hm
  rw [h] at HOp
  have d0 : decide ((ep : Int) > 1000000000) = false := by simp; omega
  have hw : wrap64 (ep : Int) = (ep : Int) := by unfold wrap64; omega
  have HFs := Lib.hid hfs
  have HLn := Lib.hid hl
  clear hh hn hb hc hm h hep hl hfs
  obtain ⟨bd, hbd⟩ : ∃ bd, bodyU fs = bd := ⟨_, rfl⟩
  have HBd := Lib.hid hbd
  rw [hbd] at HOp
  clear hbd
  go_enter Tryd.func37, Tryd.ntmps37
  go_wp2_with (go_at_call 56; refine (HOp.out _ ((Below.refl _ _).alloc (Nat.le_refl _) _)).mono ?_; rintro e w2 ⟨A2, c2, rfl, hO2, hb2⟩; refine park ?_; intro q hq)
  refine hq.out ?_
  clear hq
  have hs2 : SlAt w2 w.heap.size (.int .i64 0) (.slice none 0 0) := SlAt.below (heap_alloc_new w _) hb2 (by simp)
  have HS2 := Lib.hid hs2
  have HB2 : Hid (Below w.heap.size w w2) := ((Below.refl _ _).alloc (Nat.le_refl _) _).trans (hb2.mono (by simp))
  have hup := hO2.upto
  have hcp := hO2.capsM
  have HRd : Hid (Calls Tryd.prog 57 #[.slice A2 bd.length c2] w2 _) := Read_calls A2 bd.length c2 bd w2 rfl hO2.bytes (fun ad h => (hup ad h).2) hcp.1 hcp.2
  clear hO2 hb2 hs2 hup hcp
  go_wp2_with (go_at_call 57; refine HRd.out.mono ?_; rintro e w3 ⟨rfl, hr3, hb3⟩; refine park ?_; intro q hq)
  refine hq.out ?_
  clear hq
  have HR3 := Lib.hid hr3
  have HB3 := Lib.hid hb3
  clear hr3 hb3 HRd
  have hP0 : PrI w w2.heap.size w3.heap.size ep (.slice none 0 0) bd [] (w3.alloc (Obj.cells #[.int .i64 (ep : Int), .slice none 0 0] 34)) := by
    have hb4 : Below w3.heap.size w3 (w3.alloc (Obj.cells #[.int .i64 (ep : Int), .slice none 0 0] 34)) := (Below.refl _ _).alloc (Nat.le_refl _) _
    have h23 : w2.heap.size < w3.heap.size := HR3.out.lt
    have h12 : w.heap.size < w2.heap.size := HS2.out.lt
    exact ⟨(HB2.out.trans (HB3.out.mono HB2.out.size)).trans (hb4.mono (by omega)), (HS2.out.below HB3.out HS2.out.lt).below hb4 (by omega), HR3.out.kept (S := fun _ => False) (Kept.of_below hb4) (fun k _ e => e.elim), heap_alloc_new w3 _, OwnU.nil _ _, h12, h23⟩
  have HP0 := Lib.hid hP0
  have HU0 : Hid (Calls Tryd.prog 58 #[.pointer (some ⟨w2.heap.size, 0, none⟩), .int .u64 20] (w3.alloc (Obj.cells #[.int .i64 (ep : Int), .slice none 0 0] 34)) fun e w' => e = .returned (.int .u64 (fs.length : Int)) ∧ Hid (PrI w w2.heap.size w3.heap.size ep (.slice none 0 0) (putsU fs) [] w' ∧ Kept (· = w2.heap.size) (w3.alloc (Obj.cells #[.int .i64 (ep : Int), .slice none 0 0] 34)) w')) :=
    PrI.uint (N := fs.length) (most := 20) (by have := hP0; rw [← HBd.out] at this; exact this) (by have := HLn.out; omega) HLn.out
  clear hP0 HR3 HB3 HB2 HS2 HP0 HBd
  obtain ⟨r, hr⟩ : ∃ r, w2.heap.size = r := ⟨_, rfl⟩
  rw [hr] at HU0 ⊢
  obtain ⟨N, hN⟩ : ∃ N, fs.length = N := ⟨_, rfl⟩
  have HN := Lib.hid hN
  rw [hN] at HU0 HLn
  clear hN
  go_wp2_with (go_at_call 58; refine HU0.out.mono ?_; rintro e w4 ⟨rfl, hP4⟩; refine park ?_; intro q hq)
  refine hq.out ?_
  clear hq HU0 hr
  have HP4 : Hid (PrI w r w3.heap.size ep (.slice none 0 0) (putsU fs) [] w4) := hP4.out.1
  clear hP4
  obtain ⟨s, hs⟩ : ∃ s, w3.heap.size = s := ⟨_, rfl⟩
  rw [hs] at HP4 ⊢
  clear hs
  go_wp2_with fail
  simp only [hw, show ((UInt8.toNat 3 : Nat) : Int) = 3 from rfl]
  go_loopw [34] (fun i wr => ∃ (t : Nat) (v : Value), t ≤ N ∧ i = .int .u64 (t : Int) ∧ Hid (PrI w r s ep v (putsU (fs.drop t)) (fs.take t) wr)) (fun i _ => N - (intOf i).toNat)
  case atStart => exact ⟨0, _, Nat.zero_le _, rfl, HP4.out⟩
  case round =>
    obtain ⟨t, v, ht, rfl, HV⟩ := hrel
    by_cases hlt : t < N
    · have hlf : t < fs.length := by rw [HN.out]; exact hlt
      obtain ⟨f, hf⟩ : ∃ f, fs[t] = f := ⟨_, rfl⟩
      have hS0 : wr.drew.cell? ⟨s, 1, none⟩ = some v := HV.out.2.2.2.1.cells.2.1
      have hfl : f < 18446744073709551616 := HFs.out f (by rw [← hf]; exact List.getElem_mem hlf)
      have HV1 : Hid (PrI w r s ep v (putU f ++ putsU (fs.drop (t + 1))) (fs.take t) wr.drew) := by
        have := HV.out.kept (S := fun _ => False) (Kept.of_below (Below.refl _ wr).drew) (fun _ _ x => x)
        rw [putsU_drop fs t hlf, hf] at this
        exact this
      have HU : Hid (Calls Tryd.prog 58 #[.pointer (some ⟨r, 0, none⟩), .int .u64 18446744073709551615] wr.drew fun e w' => e = .returned (.int .u64 (f : Int)) ∧ Hid (PrI w r s ep v (putsU (fs.drop (t + 1))) (fs.take t) w' ∧ Kept (· = r) wr.drew w')) := HV1.out.uint hfl (most := 18446744073709551615) (by omega)
      have HT : Hid (fs.take (t + 1) = fs.take t ++ [f]) := by rw [← hf]; exact (List.take_append_getElem hlf).symm
      have HT20 : Hid ((fs.take t).length ≤ 1000000) := by have := HLn.out; show _ ≤ _; rw [List.length_take]; omega
      clear hlf hf hfl
      go_wp2_with fail
      refine wp_region_M (fun w' => w'.cell? ⟨s, 1, none⟩ = some v) 7 (by as_aux_lemma => kernel_rfl) ?_
      refine mAnyTake (i := 0) (v := .pointer (some ⟨s, 1, none⟩)) (some 36) [0, 1, 5, 7] (by as_aux_lemma => kernel_rfl) rfl rfl (by decide) (by as_aux_lemma => kernel_rfl) rfl rfl (by as_aux_lemma => kernel_rfl) (by as_aux_lemma => kernel_rfl) (by as_aux_lemma => kernel_rfl) (fun _ _ _ h => h) (Or.inl ⟨by rfl, fun w => by go_simp⟩) hS0 ?_
      try simp only [Act.put, List.setIfInBounds_toArray, List.set_cons_zero, List.set_cons_succ]
      refine mTake (i := 1) (v := v) (some 37) [1, 5, 7] (by as_aux_lemma => kernel_rfl) rfl rfl (by decide) (by as_aux_lemma => kernel_rfl) rfl rfl (by as_aux_lemma => kernel_rfl) (by as_aux_lemma => kernel_rfl) (by as_aux_lemma => kernel_rfl) (fun _ _ _ h => h) (Or.inl ⟨by rfl, fun w h => by go_simp⟩) hS0 ?_
      try simp only [Act.put, List.setIfInBounds_toArray, List.set_cons_zero, List.set_cons_succ]
      refine mAnyTake (i := 2) (v := .pointer (some ⟨r, 0, none⟩)) (some 38) [2, 3, 4, 5, 7] (by as_aux_lemma => kernel_rfl) rfl rfl (by decide) (by as_aux_lemma => kernel_rfl) rfl rfl (by as_aux_lemma => kernel_rfl) (by as_aux_lemma => kernel_rfl) (by as_aux_lemma => kernel_rfl) (fun _ _ _ h => h) (Or.inl ⟨by rfl, fun w => by go_simp⟩) hS0 ?_
      try simp only [Act.put, List.setIfInBounds_toArray, List.set_cons_zero, List.set_cons_succ]
      refine mOne (i := 3) (by as_aux_lemma => kernel_rfl) rfl (fun K hK => ?_)
      have HK := Lib.hid hK
      clear hK
      rw [if_pos (by rfl)]
      go_wp2_with (go_at_call 58; (with_reducible refine HU.out.mono ?_); rintro e w5 ⟨rfl, hP5⟩; refine park ?_; intro q hq)
      refine hq.out ?_
      clear hq
      have HP5 : Hid (PrI w r s ep v (putsU (fs.drop (t + 1))) (fs.take t) w5) := hP5.out.1
      clear hP5 hS0
      refine HK.out _ _ (.inr HP5.out.2.2.2.1.cells.2.1) ?_
      clear HK
      try simp only [Act.put, List.setIfInBounds_toArray, List.set_cons_zero, List.set_cons_succ]
      refine mOne (i := 4) (by as_aux_lemma => kernel_rfl) rfl (fun K hK => ?_)
      have HK := Lib.hid hK
      clear hK
      rw [if_pos (by rfl)]
      go_wp2_with fail
      have HP6 : Hid (PrI w r s ep v (putsU (fs.drop (t + 1))) (fs.take t) (w5.alloc (Obj.cells #[.int .u64 (f : Int)] 49))) := HP5.out.kept (S := fun _ => False) (Kept.of_below ((Below.refl _ _).alloc (Nat.le_refl _) _)) (fun _ _ x => x)
      refine HK.out _ _ (.inr HP6.out.2.2.2.1.cells.2.1) ?_
      clear HK
      try simp only [Act.put, List.setIfInBounds_toArray, List.set_cons_zero, List.set_cons_succ]
      refine mOne (i := 5) (by as_aux_lemma => kernel_rfl) rfl (fun K hK => ?_)
      have HK := Lib.hid hK
      clear hK
      refine step_append_u64 (by rfl) _ _ (by rfl) (s + 1) _ (fs.take t) (by rfl) HP6.out.2.2.2.2.1 ⟨w5.heap.size, 0, none⟩ 1 f (by rfl) ?_ HT20.out (by have := HP6.out.2.2.2.1.lt; omega) ?_
      · rw [Addr.add_lit, cell_of_row _ _ _ _ _ _ (heap_alloc_new w5 _)]; rfl
      intro v8 w8 H8
      have hkg : Kept (fun k => s < k) (w5.alloc (Obj.cells #[.int .u64 (f : Int)] 49)) w8 := Kept.of_grown H8.out.2 (fun k hk => (HP6.out.2.2.2.2.1.lt k hk).1)
      obtain ⟨A8, c8, hv8, _⟩ := H8.out.1.sl
      have hl8 : (fs.take t ++ [f]).length = t + 1 := by rw [List.length_append, List.length_take, HN.out, Nat.min_eq_left ht]; rfl
      rw [hl8] at hv8
      subst hv8
      clear hl8
      have HP8 := Lib.hid (HP6.out.put hkg H8.out.1)
      have hc8 := HP8.out.1.cells
      have HF : Hid (PrI w r s ep (.slice A8 (t + 1) c8) (putsU (fs.drop (t + 1))) (fs.take (t + 1)) (w8.setCell ⟨s, 1, none⟩ (.slice A8 (t + 1) c8))) := by rw [HT.out]; exact HP8.out.2
      clear hkg H8 HP6 HP5
      refine HK.out _ _ (.inr hc8.2.1) ?_
      clear HK
      try simp only [Act.put, List.setIfInBounds_toArray, List.set_cons_zero, List.set_cons_succ]
      refine mOne (i := 6) (by as_aux_lemma => kernel_rfl) rfl (fun K hK => ?_)
      have HK := Lib.hid hK
      clear hK
      rw [if_pos (by rfl)]
      go_wp2_with fail
      refine HK.out _ _ (.inr hc8.2.1) ?_
      clear HK
      try simp only [Act.put, List.setIfInBounds_toArray, List.set_cons_zero, List.set_cons_succ]
      refine mOne (i := 7) (by as_aux_lemma => kernel_rfl) rfl (fun K hK => ?_)
      have HK := Lib.hid hK
      clear hK
      rw [if_pos (by rfl)]
      obtain ⟨y0, y1, y2, y3⟩ := hc8
      go_wp2_with fail
      refine HK.out _ _ (by simp) ?_
      clear HK
      try simp only [Act.put, List.setIfInBounds_toArray, List.set_cons_zero, List.set_cons_succ]
      refine mDone (by as_aux_lemma => kernel_rfl) ?_ _
      clear HP8 y0 y1 y2 y3
      have hwt : IntKind.u64.wrap ((t : Int) + 1) = ((t + 1 : Nat) : Int) := by
        have := HLn.out
        simp only [IntKind.wrap, IntKind.bits, IntKind.signed]; simp; omega
      go_wp2_with fail
      go_roundw
      case rel => exact ⟨t + 1, _, by omega, by go_num, HF⟩
      case measure => simp [intOf]; omega
    · obtain rfl : t = N := by omega
      go_wp2_with (go_at_call 59; refine park ?_; intro q hq)
      refine hq.out ?_
      clear hq
      have hd : fs.drop t = [] := List.drop_eq_nil_of_le (by rw [HN.out]; exact Nat.le_refl _)
      have ht2 : fs.take t = fs := List.take_of_length_le (by rw [HN.out]; exact Nat.le_refl _)
      rw [hd, ht2] at HV
      refine (End_calls HV.out.2.2.1).mono ?_
      rintro e w5 ⟨rfl, rfl⟩
      obtain ⟨A8, c8, hv8, hc8, hu8, hlo8⟩ := HV.out.2.2.2.2.1.slo
      rw [HN.out] at hv8
      subst hv8
      have HF := Lib.hid (And.intro hc8 (And.intro hu8 hlo8))
      obtain ⟨k0, k1, k2, k3⟩ := HV.out.2.2.2.1.cells
      obtain ⟨m0, m1, m2, m3⟩ := HV.out.2.1.cells
      have hld := run_retSlot HV.out.2.2.2.1
      have hne : s ≠ w.heap.size := by have := HV.out.2.2.2.2.2; omega
      clear hc8 hu8 hlo8 hd ht2
      go_wp2_with fail
      obtain ⟨g1, g2⟩ := HV.out.2.1.put2 (.int .i64 (ep : Int)) (.slice A8 t c8)
      refine bodyPost_ret_by (results_cell1 rfl _ rfl g1) rfl ?_
      have hB := HV.out.2.2.2.2.2
      refine ⟨A8, c8, by rw [HN.out], HF.out.1, HF.out.2.1.kept g2 (fun ad hA e => ?_), (fun ad hA => ?_), HV.out.1.trans (g2.below HV.out.1.size (fun j hj e => by omega))⟩
      · have := HF.out.2.2 ad hA
        have e' : ad.block = w.heap.size := e
        omega
      · have := HF.out.2.2 ad hA
        omega
end Go.Proofs.YtcgjejpekefjdaaDoor
