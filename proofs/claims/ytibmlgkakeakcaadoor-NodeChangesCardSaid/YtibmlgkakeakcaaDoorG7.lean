/- The walk of node.Join (printed by wip/gen/joingen.py). -/
import Derived.Test.YtibmlgkakeakcaaDoorG6
set_option linter.unusedSimpArgs false
set_option linter.unusedVariables false
namespace Go.Proofs.YtibmlgkakeakcaaDoor
open Go.RowKit Go.Proofs.YtibmlgkakeakcaaDoor.Crc
set_option maxRecDepth 10000 in
set_option maxHeartbeats 4000000 in
theorem Join_leaf {w : World} {ks vs ls us : List (List UInt8)} {is js : List Int} {key : List UInt8} {kA : Option Addr} {kc : Nat} {vA : Option Addr} {vc : Nat} {iA : Option Addr} {ic : Nat} {kX : Option Addr} {kx : Nat} {vX : Option Addr} {vx : Nat} {iX : Option Addr} {ix : Nat} (h : NodeAt w ⟨true, ks, vs, is⟩ kA kc vA vc iA ic) (h' : NodeAt w ⟨true, ls, us, js⟩ kX kx vX vx iX ix) (hr : RightM ⟨true, ks, vs, is⟩) (hr' : RightM ⟨true, ls, us, js⟩) (hn : ks.length ≤ 1000) (hn' : ls.length ≤ 1000) (hrj : RightM (joinM ⟨true, ks, vs, is⟩ key ⟨true, ls, us, js⟩)) :
    Calls Tryd.prog 25 #[.agg #[.bool true, .slice kA ks.length kc, .slice vA vs.length vc, .slice iA is.length ic], .string (bstr key), .agg #[.bool true, .slice kX ls.length kx, .slice vX us.length vx, .slice iX js.length ix]] w fun e w' => ∃ kB kd vB vd iB id, e = .returned (.tuple #[.agg #[.bool true, .slice kB (joinM ⟨true, ks, vs, is⟩ key ⟨true, ls, us, js⟩).keys.length kd, .slice vB (joinM ⟨true, ks, vs, is⟩ key ⟨true, ls, us, js⟩).vals.length vd, .slice iB (joinM ⟨true, ks, vs, is⟩ key ⟨true, ls, us, js⟩).kids.length id], .int .i64 0]) ∧ Hid (NodeOwn w' w.heap.size (joinM ⟨true, ks, vs, is⟩ key ⟨true, ls, us, js⟩) kB kd vB vd iB id ∧ Below w.heap.size w w') := by
  obtain ⟨hv1, hv2, hv3⟩ := hr.lens
  obtain ⟨hu1, hu2, hu3⟩ := hr'.lens
  simp only at hv1 hv2 hu1 hu2
  have HRt0 : Hid (∀ w', NodeAt w' ⟨true, ks, vs, is⟩ kA kc vA vc iA ic → Calls Tryd.prog 14 #[.agg #[.bool true, .slice kA ks.length kc, .slice vA vs.length vc, .slice iA is.length ic]] w' fun e w'' => e = .returned (.bool true) ∧ Below w'.heap.size w' w'') := fun w' h => by
    have h := Right_calls h
    rw [rightB_true hr] at h
    exact h
  have HRx0 : Hid (∀ w', NodeAt w' ⟨true, ls, us, js⟩ kX kx vX vx iX ix → Calls Tryd.prog 14 #[.agg #[.bool true, .slice kX ls.length kx, .slice vX us.length vx, .slice iX js.length ix]] w' fun e w'' => e = .returned (.bool true) ∧ Below w'.heap.size w' w'') := fun w' h => by
    have h := Right_calls h
    rw [rightB_true hr'] at h
    exact h
  have HOa0 : Hid (∀ w', NodeAt w' ⟨true, ks, vs, is⟩ kA kc vA vc iA ic → Calls Tryd.prog 48 #[.agg #[.bool true, .slice kA ks.length kc, .slice vA vs.length vc, .slice iA is.length ic]] w' fun e w'' => ∃ kB kd vB vd iB id, e = .returned (.agg #[.bool true, .slice kB ks.length kd, .slice vB vs.length vd, .slice iB is.length id]) ∧ Hid (NodeOwn w'' w'.heap.size ⟨true, ks, vs, is⟩ kB kd vB vd iB id ∧ Below w'.heap.size w' w'')) := fun w' h => ownN_calls h ⟨hn, by show vs.length ≤ 1000; omega, by show is.length ≤ 1000; omega⟩ (fun v hv => by have := hv3 v hv; omega)
  have HOx0 : Hid (∀ w', NodeAt w' ⟨true, ls, us, js⟩ kX kx vX vx iX ix → Calls Tryd.prog 48 #[.agg #[.bool true, .slice kX ls.length kx, .slice vX us.length vx, .slice iX js.length ix]] w' fun e w'' => ∃ kB kd vB vd iB id, e = .returned (.agg #[.bool true, .slice kB ls.length kd, .slice vB us.length vd, .slice iB js.length id]) ∧ Hid (NodeOwn w'' w'.heap.size ⟨true, ls, us, js⟩ kB kd vB vd iB id ∧ Below w'.heap.size w' w'')) := fun w' h => ownN_calls h ⟨hn', by show us.length ≤ 1000; omega, by show js.length ≤ 1000; omega⟩ (fun v hv => by have := hu3 v hv; omega)
  have HKpos : Hid (true = false → 0 < ls.length) := fun e => by
    have h2 := hr'.2
    first | (cases e; done) | (simp at h2; omega)
  have HJ := Lib.hid hrj
  have HNs : Hid (ks.length ≤ 1000 ∧ vs.length ≤ 1000 ∧ is.length ≤ 1000 ∧ ls.length ≤ 1000 ∧ us.length ≤ 1000 ∧ js.length ≤ 1000) := ⟨hn, by omega, by omega, hn', by omega, by omega⟩
  obtain ⟨y, hy⟩ : ∃ y, bstr key = y := ⟨_, rfl⟩
  have HYk := Lib.hid hy
  rw [hy]
  obtain ⟨nk, hnk⟩ : ∃ k, ks.length = k := ⟨_, rfl⟩
  obtain ⟨nv, hnv⟩ : ∃ k, vs.length = k := ⟨_, rfl⟩
  obtain ⟨ni, hni⟩ : ∃ k, is.length = k := ⟨_, rfl⟩
  obtain ⟨mk, hmk⟩ : ∃ k, ls.length = k := ⟨_, rfl⟩
  obtain ⟨mv, hmv⟩ : ∃ k, us.length = k := ⟨_, rfl⟩
  obtain ⟨mi, hmi⟩ : ∃ k, js.length = k := ⟨_, rfl⟩
  have HL : Hid (ks.length = nk ∧ vs.length = nv ∧ is.length = ni ∧ ls.length = mk ∧ us.length = mv ∧ js.length = mi) := ⟨hnk, hnv, hni, hmk, hmv, hmi⟩
  rw [hnk, hnv, hni] at HRt0 HOa0
  rw [hmk, hmv, hmi] at HRx0 HOx0
  rw [hmk] at HKpos
  rw [hnk, hnv, hni, hmk, hmv, hmi]
  have hmpos := HKpos.out
  obtain ⟨h1, hr2, hr3⟩ := node2_boxT w (.bool true) (.slice kA nk kc) (.slice vA nv vc) (.slice iA ni ic) (.bool true) (.slice kX mk kx) (.slice vX mv vx) (.slice iX mi ix) 28
  obtain ⟨W0, hW0⟩ : ∃ x, (w.alloc (.cells #[.bool true, .slice kA nk kc, .slice vA nv vc, .slice iA ni ic] 28)).alloc (.cells #[.bool true, .slice kX mk kx, .slice vX mv vx, .slice iX mi ix] 28) = x := ⟨_, rfl⟩
  rw [hW0] at h1 hr2 hr3
  have hs0 : W0.heap.size = w.heap.size + 2 := by rw [← hW0]; simp
  have hb2 : Below W0.heap.size W0 (W0.alloc (.cells #[.bool false, .slice none 0 0, .slice none 0 0, .slice none 0 0] 28)) := (Below.refl _ _).alloc (Nat.le_refl _) _
  have hr4 := heap_alloc_new W0 (.cells #[.bool false, .slice none 0 0, .slice none 0 0, .slice none 0 0] 28)
  have hx1 := (hb2.block _ (by omega)).trans hr2
  have hy1 := (hb2.block _ (by omega)).trans hr3
  obtain ⟨W1, hW1⟩ : ∃ x, W0.alloc (.cells #[.bool false, .slice none 0 0, .slice none 0 0, .slice none 0 0] 28) = x := ⟨_, rfl⟩
  rw [hW1] at hb2 hr4 hx1 hy1
  rw [hs0] at hr4
  have hs1 : W1.heap.size = w.heap.size + 3 := by rw [← hW1]; simp [hs0]
  have hW1' : ((w.alloc (.cells #[.bool true, .slice kA nk kc, .slice vA nv vc, .slice iA ni ic] 28)).alloc (.cells #[.bool true, .slice kX mk kx, .slice vX mv vx, .slice iX mi ix] 28)).alloc (.cells #[.bool false, .slice none 0 0, .slice none 0 0, .slice none 0 0] 28) = W1 := by rw [hW0]; exact hW1
  have hbw : Below w.heap.size w W1 := h1.trans (hb2.mono (by omega))
  have HAt : Hid (NodeAt W1 ⟨true, ks, vs, is⟩ kA kc vA vc iA ic) := h.below hbw
  have HBt : Hid (NodeAt W1 ⟨true, ls, us, js⟩ kX kx vX vx iX ix) := h'.below hbw
  obtain ⟨r, hr0⟩ : ∃ r, w.heap.size = r := ⟨_, rfl⟩
  rw [hr0] at hr4 hx1 hy1 hbw hs1
  have HX := Lib.hid hx1
  have HY := Lib.hid hy1
  have HZ := Lib.hid hr4
  have HB := Lib.hid hbw
  have HR0 := Lib.hid hr0
  have HS1 := Lib.hid hs1
  have HW := Lib.hid hW1'
  have HRt := Lib.hid (HRt0.out W1 HAt.out)
  rw [← hW1'] at HRt
  clear hv1 hv2 hv3 hu1 hu2 hu3 h1 hr2 hr3 hW0 hs0 hb2 hr4 hx1 hy1 hW1 hs1 hW1' hbw hnk hnv hni hmk hmv hmi h h' hr hr' hr0 HRt0 hn hn' hrj hy HKpos
  go_enter Tryd.func25, Tryd.ntmps25
  go_wp2_with (go_at_call 14; (with_reducible refine HRt.out.mono ?_); rintro e w2 ⟨rfl, hb2⟩; refine park ?_; intro q hq)
  rw [HW.out] at hb2
  have hx2 := (hb2.block (r + 1) (by rw [HS1.out]; omega)).trans HY.out
  obtain ⟨x0, x1, x2, x3⟩ := row4_cells hx2
  have hxx2 := (hb2.block r (by rw [HS1.out]; omega)).trans HX.out
  obtain ⟨y0, y1, y2, y3⟩ := row4_cells hxx2
  have HB2 := Lib.hid hb2
  have HRx := Lib.hid (HRx0.out w2 (HBt.out.below hb2))
  clear hx2 hxx2 hb2 HRt HRx0
  refine hq.out ?_
  clear hq
  simp only [HR0.out]
  go_wp2_with (go_at_call 14; (with_reducible refine HRx.out.mono ?_); rintro e w3 ⟨rfl, hb3⟩; refine park ?_; intro q hq)
  have hB3 : Below W1.heap.size W1 w3 := HB2.out.trans (hb3.mono HB2.out.size)
  have HB3 := Lib.hid hB3
  clear hb3 HRx HB2 x0 x1 x2 x3 y0 y1 y2 y3
  have HX1 : Hid (∀ w', Below W1.heap.size W1 w' → w'.cell? ⟨r, 0, none⟩ = some (.bool true) ∧ w'.cell? ⟨r, 1, none⟩ = some (.slice kA nk kc) ∧ w'.cell? ⟨r, 2, none⟩ = some (.slice vA nv vc) ∧ w'.cell? ⟨r, 3, none⟩ = some (.slice iA ni ic)) := fun w' hb => row4_cells ((hb.block r (by rw [HS1.out]; omega)).trans HX.out)
  have HX2 : Hid (∀ w', Below W1.heap.size W1 w' → w'.cell? ⟨r + 1, 0, none⟩ = some (.bool true) ∧ w'.cell? ⟨r + 1, 1, none⟩ = some (.slice kX mk kx) ∧ w'.cell? ⟨r + 1, 2, none⟩ = some (.slice vX mv vx) ∧ w'.cell? ⟨r + 1, 3, none⟩ = some (.slice iX mi ix)) := fun w' hb => row4_cells ((hb.block (r + 1) (by rw [HS1.out]; omega)).trans HY.out)
  obtain ⟨x0, x1, x2, x3⟩ := HX1.out w3 hB3
  obtain ⟨y0, y1, y2, y3⟩ := HX2.out w3 hB3
  clear hB3
  refine hq.out ?_
  clear hq
  go_wp2_with fail
  clear x0 x1 x2 x3 y0 y1 y2 y3
  have hS0 := HX2.out w3.drew HB3.out.drew
  have hx30 := HX1.out w3.drew HB3.out.drew
  refine wp_region_M (fun w' => w'.cell? ⟨r + 1, 0, none⟩ = some (.bool true) ∧ w'.cell? ⟨r + 1, 1, none⟩ = some (.slice kX mk kx) ∧ w'.cell? ⟨r + 1, 2, none⟩ = some (.slice vX mv vx) ∧ w'.cell? ⟨r + 1, 3, none⟩ = some (.slice iX mi ix)) 5 (by as_aux_lemma => kernel_rfl) ?_
  refine mTake (i := 2) (v := .agg #[.bool true, .slice kX mk kx, .slice vX mv vx, .slice iX mi ix]) (some 26) [2, 3, 5] (by as_aux_lemma => kernel_rfl) rfl rfl (by decide) (by as_aux_lemma => kernel_rfl) rfl rfl (by as_aux_lemma => kernel_rfl) (by as_aux_lemma => kernel_rfl) (by as_aux_lemma => kernel_rfl) (fun _ _ _ h => h) (Or.inl ⟨by rfl, fun w h => by ((obtain ⟨h1, h2, h3, h4⟩ := h); go_simp)⟩) hS0 ?_
  try simp only [Act.put, List.setIfInBounds_toArray, List.set_cons_zero, List.set_cons_succ]
  have HS0 := Lib.hid hS0
  clear hS0
  obtain ⟨x0, x1, x2, x3⟩ := hx30
  refine mOne (i := 0) (by as_aux_lemma => kernel_rfl) rfl (fun K hK => ?_)
  have HK := Lib.hid hK
  clear hK
  rw [if_pos (by rfl)]
  go_wp2_with fail
  refine HK.out _ _ (.inr HS0.out) ?_
  clear HK
  try simp only [Act.put, List.setIfInBounds_toArray, List.set_cons_zero, List.set_cons_succ]
  clear x0 x1 x2 x3
  have HOa := Lib.hid (HOa0.out w3.drew (HAt.out.below HB3.out.drew))
  clear HOa0 HS0
  refine mOne (i := 1) (by as_aux_lemma => kernel_rfl) rfl (fun K hK => ?_)
  have HK := Lib.hid hK
  clear hK
  rw [if_pos (by rfl)]
  refine wp_goCall 48 _ _ (by rfl) Tryd.func48 (by kernel_rfl) (by kernel_rfl) _ (by simp [Act.eval]) HOa.out ?_
  rintro e w4 ⟨kB, kd, vB, vd, iB, id, rfl, h4⟩
  refine ⟨_, rfl, ?_⟩
  have hB4 : Below W1.heap.size W1 w4 := HB3.out.drew.trans (h4.out.2.mono HB3.out.size)
  have HB4 := Lib.hid hB4
  have HO4 : Hid (NodeOwn w4 W1.heap.size ⟨true, ks, vs, is⟩ kB kd vB vd iB id) := h4.out.1.base' HB3.out.size
  have hs4 := HX2.out w4 hB4
  have HOx := Lib.hid (HOx0.out w4 (HBt.out.below hB4))
  clear hB4 h4 HOa HOx0
  refine HK.out _ _ (.inr hs4) ?_
  clear HK
  try simp only [Act.put, List.setIfInBounds_toArray, List.set_cons_zero, List.set_cons_succ]
  refine mOne (i := 3) (by as_aux_lemma => kernel_rfl) rfl (fun K hK => ?_)
  have HK := Lib.hid hK
  clear hK
  rw [if_pos (by rfl)]
  refine wp_goCall 48 _ _ (by rfl) Tryd.func48 (by kernel_rfl) (by kernel_rfl) _ (by simp [Act.eval]) HOx.out ?_
  rintro e w5 ⟨kC, ke, vC, ve, iC, ie, rfl, h5⟩
  refine ⟨_, rfl, ?_⟩
  have hB5 : Below W1.heap.size W1 w5 := HB4.out.trans (h5.out.2.mono HB4.out.size)
  have HB5 := Lib.hid hB5
  have HO5 : Hid (NodeOwn w5 W1.heap.size ⟨true, ls, us, js⟩ kC ke vC ve iC ie) := h5.out.1.base' HB4.out.size
  have HO45 : Hid (NodeOwn w5 W1.heap.size ⟨true, ks, vs, is⟩ kB kd vB vd iB id) := HO4.out.below h5.out.2
  have hs5 := HX2.out w5 hB5
  have HKd : Hid (∀ k1 k2, (Value.slice kB nk kd).ownBlock = some k1 → (Value.slice kC mk ke).ownBlock = some k2 → k1 ≠ k2) := fun k1 k2 e1 e2 => by have l1 := (HO4.out.k.lt k1 (by cases kB <;> exact e1)).2; have l2 := (h5.out.1.k.lt k2 (by cases kC <;> exact e2)).1; omega
  have hx5 := (hB5.block r (by rw [HS1.out]; omega)).trans HX.out
  have hy5 := (hB5.block (r + 1) (by rw [HS1.out]; omega)).trans HY.out
  have hz5 := (hB5.block (r + 2) (by rw [HS1.out]; omega)).trans HZ.out
  have HX5 := Lib.hid hx5
  have HY5 := Lib.hid hy5
  have HZ5 := Lib.hid hz5
  have HL5 : Hid (r + 3 ≤ w5.heap.size) := (by have := hB5.size; rw [HS1.out] at this; exact this)
  clear hB5 h5 HOx hx5 hy5 hz5 HO4 hs4
  refine HK.out _ _ (.inr hs5) ?_
  clear HK
  try simp only [Act.put, List.setIfInBounds_toArray, List.set_cons_zero, List.set_cons_succ]
  refine mOne (i := 4) (by as_aux_lemma => kernel_rfl) rfl (fun K hK => ?_)
  have HK := Lib.hid hK
  clear hK
  rw [if_pos (by rfl)]
  refine wp_storeRow 28 (.tmp 3) (.tmp 25) rfl r (by rfl) [.bool true, .slice kB nk kd, .slice vB nv vd, .slice iB ni id] [.bool true, .slice kA nk kc, .slice vA nv vc, .slice iA ni ic] (by rfl) (by kernel_rfl) rfl (by intro u hu; simp only [List.mem_cons, List.mem_nil_iff, or_false] at hu; rcases hu with rfl | rfl | rfl | rfl <;> rfl) HX5.out ?_
  intro w6 h6 hk6
  have hty5 : ∀ k cs t fz, k = r → w5.heap[k]? = some (.cells cs t fz) → t = 28 := fun k cs t fz e hc => by
    rw [e, HX5.out] at hc; injection hc with hc; injection hc with _ h4 _; exact h4.symm
  have HO56 : Hid (NodeOwn w6 W1.heap.size ⟨true, ls, us, js⟩ kC ke vC ve iC ie) := HO5.out.keptN hk6 hty5
  have HO46 : Hid (NodeOwn w6 W1.heap.size ⟨true, ks, vs, is⟩ kB kd vB vd iB id) := HO45.out.keptN hk6 hty5
  have hy6 := (hk6.block (r + 1) (by have := HL5.out; omega) (by show ¬ r + 1 = r; omega)).trans HY5.out
  have hz6 := (hk6.block (r + 2) (by have := HL5.out; omega) (by show ¬ r + 2 = r; omega)).trans HZ5.out
  have hs6 := row4_cells hy6
  have HY6 := Lib.hid hy6
  have HZ6 := Lib.hid hz6
  have HX6 := h6
  have HL6 : Hid (r + 3 ≤ w6.heap.size) := Nat.le_trans HL5.out hk6.size
  have HB6 : Hid (Below r w w6) := (HB.out.trans (HB5.out.mono (by rw [HS1.out]; omega))).trans (hk6.below (by have := HL5.out; omega) (fun k hk e => by have e' : k = r := e; omega))
  clear hy6 hz6 hty5 hk6 h6 hs5 HO5 HO45 HX5 HY5 HZ5 HL5
  refine HK.out _ _ (.inr hs6) ?_
  clear HK
  try simp only [Act.put, List.setIfInBounds_toArray, List.set_cons_zero, List.set_cons_succ]
  refine mOne (i := 5) (by as_aux_lemma => kernel_rfl) rfl (fun K hK => ?_)
  have HK := Lib.hid hK
  clear hK
  rw [if_pos (by rfl)]
  refine wp_storeRow 28 (.tmp 5) (.tmp 27) rfl (r + 1) (by rfl) [.bool true, .slice kC mk ke, .slice vC mv ve, .slice iC mi ie] [.bool true, .slice kX mk kx, .slice vX mv vx, .slice iX mi ix] (by rfl) (by kernel_rfl) rfl (by intro u hu; simp only [List.mem_cons, List.mem_nil_iff, or_false] at hu; rcases hu with rfl | rfl | rfl | rfl <;> rfl) HY6.out ?_
  intro w7 h7 hk7
  have hty6 : ∀ k cs t fz, k = r + 1 → w6.heap[k]? = some (.cells cs t fz) → t = 28 := fun k cs t fz e hc => by
    rw [e, HY6.out] at hc; injection hc with hc; injection hc with _ h4 _; exact h4.symm
  have HO57 : Hid (NodeOwn w7 W1.heap.size ⟨true, ls, us, js⟩ kC ke vC ve iC ie) := HO56.out.keptN hk7 hty6
  have HO47 : Hid (NodeOwn w7 W1.heap.size ⟨true, ks, vs, is⟩ kB kd vB vd iB id) := HO46.out.keptN hk7 hty6
  have hx7 := (hk7.block r (by have := HL6.out; omega) (by show ¬ r = r + 1; omega)).trans HX6.out
  have hz7 := (hk7.block (r + 2) (by have := HL6.out; omega) (by show ¬ r + 2 = r + 1; omega)).trans HZ6.out
  have HX7 := Lib.hid hx7
  have HY7 := h7
  have HZ7 := Lib.hid hz7
  have HL7 : Hid (r + 3 ≤ w7.heap.size) := Nat.le_trans HL6.out hk7.size
  have HB7 : Hid (Below r w w7) := HB6.out.trans (hk7.below (by have := HL6.out; omega) (fun k hk e => by have e' : k = r + 1 := e; omega))
  have HS7 : Hid (W1.heap.size ≤ w7.heap.size) := by rw [HS1.out]; exact HL7.out
  clear hx7 hz7 hty6 hk7 h7 hs6 HO56 HO46 HX6 HY6 HZ6 HL6 HB6
  refine HK.out _ _ (by simp) ?_
  clear HK
  try simp only [Act.put, List.setIfInBounds_toArray, List.set_cons_zero, List.set_cons_succ]
  refine mDone (by as_aux_lemma => kernel_rfl) ?_ _
  obtain ⟨x0, x1, x2, x3⟩ := row4_cells HX7.out
  obtain ⟨y0, y1, y2, y3⟩ := row4_cells HY7.out
  go_wp2_with fail
  have HOy : Hid (NodeOwn w7 W1.heap.size ⟨true, ls, us, js⟩ kC ke vC ve iC ie) := HO57.out
  have HOa : Hid (NodeOwn w7 W1.heap.size ⟨true, ks, vs, is⟩ kB kd vB vd iB id) := HO47.out
  have HXs := Lib.hid HX7.out
  have HYs := Lib.hid HY7.out
  have HZs : Hid (w7.heap[r + 1 + 1]? = some (.cells #[.bool false, .slice none 0 0, .slice none 0 0, .slice none 0 0] 28 (0, 0))) := HZ7.out
  have HLs := Lib.hid HL7.out
  have HBs := Lib.hid HB7.out
  have hlsl : Hid (ls.length = mk) := HL.out.2.2.2.1
  obtain ⟨ws, hws⟩ : ∃ x, w7 = x := ⟨_, rfl⟩
  rw [hws] at HOy HOa HXs HYs HZs HLs HBs ⊢
  clear hws x0 x1 x2 x3 y0 y1 y2 y3 HX7 HY7 HZ7 HL7 HB7 HO57 HO47 HS7
  have hJ : (joinM ⟨true, ks, vs, is⟩ key ⟨true, ls, us, js⟩) = ⟨true, ks ++ ls, vs ++ us, is ++ js⟩ := rfl
  have HJe := Lib.hid hJ
  clear hJ
  have hk1 : OwnVs ws W1.heap.size 9 (.slice kB nk kd) (strs ks) := by have h := HOa.out.k; change OwnVs _ _ _ (.slice kB ks.length kd) (strs ks) at h; rw [HL.out.1] at h; exact h
  have hk2 : OwnVs ws W1.heap.size 9 (.slice kC mk ke) (strs ls) := by have h := HOy.out.k; change OwnVs _ _ _ (.slice kC (ls).length ke) (strs ls) at h; rw [hlsl.out] at h; exact h
  have hv1 : OwnRL ws W1.heap.size (.slice vB nv vd) vs := by have h := HOa.out.v; change OwnRL _ _ (.slice vB vs.length vd) vs at h; rw [HL.out.2.1] at h; exact h
  have hv2 : OwnRL ws W1.heap.size (.slice vC mv ve) us := by have h := HOy.out.v; change OwnRL _ _ (.slice vC us.length ve) us at h; rw [HL.out.2.2.2.2.1] at h; exact h
  have hi1 : OwnVs ws W1.heap.size 3 (.slice iB ni id) (ints is) := by have h := HOa.out.i; change OwnVs _ _ _ (.slice iB is.length id) (ints is) at h; rw [HL.out.2.2.1] at h; exact h
  have hi2 : OwnVs ws W1.heap.size 3 (.slice iC mi ie) (ints js) := by have h := HOy.out.i; change OwnVs _ _ _ (.slice iC js.length ie) (ints js) at h; rw [HL.out.2.2.2.2.2] at h; exact h
  obtain ⟨xa, hxa, hra⟩ := RowsV.of_own hv1
  obtain ⟨xb, hxb, hrb⟩ := RowsV.of_own hv2
  obtain ⟨B, hBe⟩ : ∃ B, ws.heap.size = B := ⟨_, rfl⟩
  have HBe := Lib.hid hBe
  have hWB : W1.heap.size ≤ B := by rw [← hBe, HS1.out]; exact HLs.out
  have hrB : r + 3 ≤ B := by rw [← hBe]; exact HLs.out
  have HPk : Hid (∀ w' gg, Below B ws w' → w'.heap[gg]? = some (.cells #[.slice kB nk kd, .slice kC mk ke] 22 (0, 0)) → Calls Tryd.prog 56 #[.slice (some ⟨gg, 0, none⟩) 2 2] w' fun e w'' => ∃ v, e = .returned v ∧ Hid (OwnVs w'' w'.heap.size 9 v (strs (ks ++ ls)) ∧ Below w'.heap.size w' w'')) := fun w' gg hb hg => by
    obtain ⟨e1, v1, n1, _, _⟩ := hk1.at'
    obtain ⟨e2, v2, n2, _, _⟩ := hk2.at'
    have hb' : Below ws.heap.size ws w' := by rw [hBe]; exact hb
    have h := ConcatS_calls (c := 2) (PartsAt.two hg e1 e2 n1 n2 (v1.below hb') (v2.below hb')) (show (2 : Nat) ≤ 100 by decide) (fun p hp => by simp only [List.mem_cons, List.mem_nil_iff, or_false] at hp; rcases hp with rfl | rfl; exact strs_one _; exact strs_one _) (fun p hp => by simp only [List.mem_cons, List.mem_nil_iff, or_false] at hp; have := HNs.out; rcases hp with rfl | rfl <;> (first | (rw [strs_length]; omega) | (rw [strs_length, List.length_set]; omega)))
    rw [show [strs ks, strs ls].flatten = strs (ks ++ ls) from by simp [strs_app]] at h
    exact h
  have HPv : Hid (∀ w' gg, Below B ws w' → w'.heap[gg]? = some (.cells #[.slice vB nv vd, .slice vC mv ve] 23 (0, 0)) → Calls Tryd.prog 57 #[.slice (some ⟨gg, 0, none⟩) 2 2] w' fun e w'' => ∃ v, e = .returned v ∧ Hid (OwnRL w'' W1.heap.size v (vs ++ us) ∧ Below w'.heap.size w' w'')) := fun w' gg hb hg => by
    obtain ⟨e1, v1, n1, _, _⟩ := hxa.at'
    obtain ⟨e2, v2, n2, _, _⟩ := hxb.at'
    have hb' : Below ws.heap.size ws w' := by rw [hBe]; exact hb
    have l1 := hra.len
    have l2 := hrb.len
    refine (ConcatR_calls (c := 2) (PartsAt.two hg e1 e2 n1 n2 (v1.below hb') (v2.below hb')) (show (2 : Nat) ≤ 100 by decide) (fun p hp => by simp only [List.mem_cons, List.mem_nil_iff, or_false] at hp; rcases hp with rfl | rfl; exact hra.one; exact hrb.one) (fun p hp => by simp only [List.mem_cons, List.mem_nil_iff, or_false] at hp; have := HNs.out; rcases hp with rfl | rfl <;> omega)).mono ?_
    rintro e w'' ⟨v, rfl, h⟩
    rw [show [xa, xb].flatten = xa ++ xb from by simp] at h
    exact ⟨v, rfl, RowsV.own (h.out.1.base' (Nat.le_trans hWB (Below.sizeE hb hBe))) ((hra.append hrb).below (hb'.trans (h.out.2.mono hb'.size))), h.out.2⟩
  have HPi : Hid (∀ w' gg, Below B ws w' → w'.heap[gg]? = some (.cells #[.slice iB ni id, .slice iC mi ie] 24 (0, 0)) → Calls Tryd.prog 58 #[.slice (some ⟨gg, 0, none⟩) 2 2] w' fun e w'' => ∃ v, e = .returned v ∧ Hid (OwnVs w'' w'.heap.size 3 v (ints (is ++ js)) ∧ Below w'.heap.size w' w'')) := fun w' gg hb hg => by
    obtain ⟨e1, v1, n1, _, _⟩ := hi1.at'
    obtain ⟨e2, v2, n2, _, _⟩ := hi2.at'
    have hb' : Below ws.heap.size ws w' := by rw [hBe]; exact hb
    have h := ConcatI_calls (c := 2) (PartsAt.two hg e1 e2 n1 n2 (v1.below hb') (v2.below hb')) (show (2 : Nat) ≤ 100 by decide) (fun p hp => by simp only [List.mem_cons, List.mem_nil_iff, or_false] at hp; rcases hp with rfl | rfl; exact ints_one _; exact ints_one _) (fun p hp => by simp only [List.mem_cons, List.mem_nil_iff, or_false] at hp; have := HNs.out; rcases hp with rfl | rfl <;> (rw [ints_length]; omega))
    rw [show [ints is, ints js].flatten = ints (is ++ js) from by simp [ints_app]] at h
    exact h
  obtain ⟨LK, hLK⟩ : ∃ x, (strs (ks ++ ls)).length = x := ⟨_, rfl⟩
  obtain ⟨LV, hLV⟩ : ∃ x, (vs ++ us).length = x := ⟨_, rfl⟩
  obtain ⟨LI, hLI⟩ : ∃ x, (ints (is ++ js)).length = x := ⟨_, rfl⟩
  have HLk := Lib.hid hLK
  have HLv := Lib.hid hLV
  have HLi := Lib.hid hLI
  clear hLK hLV hLI
  have HCk : Hid (∀ w' A5 c5 A7 c7 A9 c9, NodeAt w' (joinM ⟨true, ks, vs, is⟩ key ⟨true, ls, us, js⟩) A5 c5 A7 c7 A9 c9 → Calls Tryd.prog 52 #[.agg #[.bool true, .slice A5 LK c5, .slice A7 LV c7, .slice A9 LI c9]] w' fun e w'' => e = .returned (.tuple #[.agg #[.bool true, .slice A5 LK c5, .slice A7 LV c7, .slice A9 LI c9], .int .i64 0]) ∧ Hid (Below w'.heap.size w' w'')) := fun w' A5 c5 A7 c7 A9 c9 h => by
    have h := checked_calls h HJ.out
    rw [← HLk.out, ← HLv.out, ← HLi.out, strs_length, ints_length]
    exact h
  have HXc : Hid (∀ w', Below B ws w' → (w'.cell? ⟨r, 0, none⟩ = some (.bool true) ∧ w'.cell? ⟨r, 1, none⟩ = some (.slice kB nk kd) ∧ w'.cell? ⟨r, 2, none⟩ = some (.slice vB nv vd) ∧ w'.cell? ⟨r, 3, none⟩ = some (.slice iB ni id)) ∧ (w'.cell? ⟨r + 1, 0, none⟩ = some (.bool true) ∧ w'.cell? ⟨r + 1, 1, none⟩ = some (.slice kC mk ke) ∧ w'.cell? ⟨r + 1, 2, none⟩ = some (.slice vC mv ve) ∧ w'.cell? ⟨r + 1, 3, none⟩ = some (.slice iC mi ie))) := fun w' hb => ⟨row4_cells ((hb.block r (by omega)).trans HXs.out), row4_cells ((hb.block (r + 1) (by omega)).trans HYs.out)⟩
  clear hk1 hk2 hv1 hv2 hi1 hi2 hxa hra hxb hrb hlsl HOa HOy HAt HBt HX HY HZ HX1 HX2 HB3 HB4 hBe
  refine wp_region_inv (fun listed a w' => ∃ (l0 l1 l2 l3 l4 l5 l6 l7 l8 l9 l10 l11 l12 l13 l14 l15 l16 l17 l18 l19 l20 l21 l22 l23 l24 l25 : Bool) (x41 x42 x47 x48 x53 x54 : Value), listed = #[l0, l1, l2, l3, l4, l5, l6, l7, l8, l9, l10, l11, l12, l13, l14, l15, l16, l17, l18, l19, l20, l21, l22, l23, l24, l25] ∧ a = ⟨#[Value.agg #[Value.bool true, Value.slice kA nk kc, Value.slice vA nv vc, Value.slice iA ni ic], Value.string y, Value.agg #[Value.bool true, Value.slice kX mk kx, Value.slice vX mv vx, Value.slice iX mi ix], Value.pointer (some ⟨r, 0, none⟩), undef, Value.pointer (some ⟨r + 1, 0, none⟩), Value.pointer (some ⟨r + 1 + 1, 0, none⟩), Value.int IntKind.i64 0, Value.agg #[Value.bool true, Value.slice kA nk kc, Value.slice vA nv vc, Value.slice iA ni ic], Value.bool true, Value.bool false, Value.bool false, Value.agg #[Value.bool true, Value.slice kX mk kx, Value.slice vX mv vx, Value.slice iX mi ix], Value.bool true, Value.bool false, Value.bool false, Value.bool false, Value.pointer (some ⟨r, 0, none⟩), Value.bool true, Value.pointer (some ⟨r + 1, 0, none⟩), Value.bool true, Value.bool false, Value.bool false, undef, Value.agg #[Value.bool true, Value.slice kA nk kc, Value.slice vA nv vc, Value.slice iA ni ic], Value.agg #[Value.bool true, Value.slice kB nk kd, Value.slice vB nv vd, Value.slice iB ni id], Value.agg #[Value.bool true, Value.slice kX mk kx, Value.slice vX mv vx, Value.slice iX mi ix], Value.agg #[Value.bool true, Value.slice kC mk ke, Value.slice vC mv ve, Value.slice iC mi ie], Value.pointer (some ⟨r + 1, 0, none⟩), Value.bool true, Value.bool false, undef, undef, undef, undef, bif l0 then Value.pointer (some ⟨r, 0, none⟩) else undef, bif l1 then Value.bool true else undef, bif l2 then Value.pointer (some ⟨r, 1, none⟩) else undef, bif l3 then Value.slice kB nk kd else undef, bif l4 then Value.pointer (some ⟨r + 1, 1, none⟩) else undef, bif l5 then Value.slice kC mk ke else undef, bif l6 then x41 else undef, bif l7 then x42 else undef, bif l8 then Value.pointer (some ⟨r, 2, none⟩) else undef, bif l9 then Value.slice vB nv vd else undef, bif l10 then Value.pointer (some ⟨r + 1, 2, none⟩) else undef, bif l11 then Value.slice vC mv ve else undef, bif l12 then x47 else undef, bif l13 then x48 else undef, bif l14 then Value.pointer (some ⟨r, 3, none⟩) else undef, bif l15 then Value.slice iB ni id else undef, bif l16 then Value.pointer (some ⟨r + 1, 3, none⟩) else undef, bif l17 then Value.slice iC mi ie else undef, bif l18 then x53 else undef, bif l19 then x54 else undef, bif l20 then Value.agg #[Value.bool true, x42, x48, x54] else undef, bif l21 then Value.tuple #[Value.agg #[Value.bool true, x42, x48, x54], Value.int IntKind.i64 0] else undef, bif l22 then Value.agg #[Value.bool true, x42, x48, x54] else undef, bif l23 then Value.int IntKind.i64 0 else undef], []⟩ ∧ IfB (!l24) (Below B ws w') ∧ IfB l6 (IfB (!l24) (∃ g', x41 = .slice (some ⟨g', 0, none⟩) 2 2 ∧ w'.heap[g']? = some (.cells #[.slice kB nk kd, .slice kC mk ke] 22 (0, 0)))) ∧ IfB l7 (IfB (!l24) (OwnVs w' W1.heap.size 9 x42 (strs (ks ++ ls)))) ∧ IfB l12 (IfB (!l24) (∃ g', x47 = .slice (some ⟨g', 0, none⟩) 2 2 ∧ w'.heap[g']? = some (.cells #[.slice vB nv vd, .slice vC mv ve] 23 (0, 0)))) ∧ IfB l13 (IfB (!l24) (OwnRL w' W1.heap.size x48 (vs ++ us))) ∧ IfB l18 (IfB (!l24) (∃ g', x53 = .slice (some ⟨g', 0, none⟩) 2 2 ∧ w'.heap[g']? = some (.cells #[.slice iB ni id, .slice iC mi ie] 24 (0, 0)))) ∧ IfB l19 (IfB (!l24) (OwnVs w' W1.heap.size 3 x54 (ints (is ++ js)))) ∧ IfB l20 (l7 = true ∧ l13 = true ∧ l19 = true) ∧ IfB l21 (l20 = true) ∧ IfB l22 (l21 = true) ∧ IfB l23 (l21 = true) ∧ IfB l24 (l0 = true ∧ l1 = true ∧ l2 = true ∧ l3 = true ∧ l4 = true ∧ l5 = true ∧ l6 = true ∧ l7 = true ∧ l8 = true ∧ l9 = true ∧ l10 = true ∧ l11 = true ∧ l12 = true ∧ l13 = true ∧ l14 = true ∧ l15 = true ∧ l16 = true ∧ l17 = true ∧ l18 = true ∧ l19 = true ∧ l20 = true ∧ l21 = true ∧ l22 = true ∧ l23 = true) ∧ IfB l24 ((∃ A5 c5 A7 c7 A9 c9, x42 = .slice A5 LK c5 ∧ x48 = .slice A7 LV c7 ∧ x54 = .slice A9 LI c9 ∧ w'.heap[r + 1 + 1]? = some (.cells #[.bool true, x42, x48, x54] 28 (0, 0)) ∧ NodeOwn w' W1.heap.size (joinM ⟨true, ks, vs, is⟩ key ⟨true, ls, us, js⟩) A5 c5 A7 c7 A9 c9 ∧ Below r w w'))) rfl ?_ ?_ ?_
  · exact ⟨false, false, false, false, false, false, false, false, false, false, false, false, false, false, false, false, false, false, false, false, false, false, false, false, false, false, undef, undef, undef, undef, undef, undef, rfl, rfl, fun _ => by rw [← HBe.out]; exact (Below.refl _ _).drew, fun h => (by first | (cases h; done) | (simp at h; done)), fun h => (by first | (cases h; done) | (simp at h; done)), fun h => (by first | (cases h; done) | (simp at h; done)), fun h => (by first | (cases h; done) | (simp at h; done)), fun h => (by first | (cases h; done) | (simp at h; done)), fun h => (by first | (cases h; done) | (simp at h; done)), fun h => (by first | (cases h; done) | (simp at h; done)), fun h => (by first | (cases h; done) | (simp at h; done)), fun h => (by first | (cases h; done) | (simp at h; done)), fun h => (by first | (cases h; done) | (simp at h; done)), fun h => (by first | (cases h; done) | (simp at h; done)), fun h => (by first | (cases h; done) | (simp at h; done))⟩
  · intro i o listed a w' ho hl hd hI
    rcases i with _ | _ | _ | _ | _ | _ | _ | _ | _ | _ | _ | _ | _ | _ | _ | _ | _ | _ | _ | _ | _ | _ | _ | _ | _ | _ | i
    · -- operation 0
      cases ho
      obtain ⟨l0, l1, l2, l3, l4, l5, l6, l7, l8, l9, l10, l11, l12, l13, l14, l15, l16, l17, l18, l19, l20, l21, l22, l23, l24, l25, hI⟩ := hI
      obtain ⟨x41, x42, x47, x48, x53, x54, hI⟩ := hI
      obtain ⟨e1, e2, hI⟩ := hI
      subst e1
      subst e2
      obtain ⟨hB, f6, f7, f12, f13, f18, f19, hI⟩ := hI
      obtain ⟨g20, g21, g22, g23, g24, hF⟩ := hI
      have hi : l0 = false := by simpa using hl
      have n24 : l24 = false := by cases h : l24; rfl; (have := g24 h; simp [hi] at this)
      subst hi n24
      refine wpOp_step rfl (fun K hK => ?_)
      have HK := Lib.hid hK
      clear hK hl hd
      rw [if_pos (by rfl)]
      go_wp2_with fail
      exact HK.out _ _ ⟨true, l1, l2, l3, l4, l5, l6, l7, l8, l9, l10, l11, l12, l13, l14, l15, l16, l17, l18, l19, l20, l21, l22, l23, false, l25, x41, x42, x47, x48, x53, x54, rfl, rfl, hB, f6, f7, f12, f13, f18, f19, g20, g21, g22, g23, fun h => (by first | (cases h; done) | (simp at h; done)), fun h => (by first | (cases h; done) | (simp at h; done))⟩
    · -- operation 1
      cases ho
      obtain ⟨l0, l1, l2, l3, l4, l5, l6, l7, l8, l9, l10, l11, l12, l13, l14, l15, l16, l17, l18, l19, l20, l21, l22, l23, l24, l25, hI⟩ := hI
      obtain ⟨x41, x42, x47, x48, x53, x54, hI⟩ := hI
      obtain ⟨e1, e2, hI⟩ := hI
      subst e1
      subst e2
      obtain ⟨hB, f6, f7, f12, f13, f18, f19, hI⟩ := hI
      obtain ⟨g20, g21, g22, g23, g24, hF⟩ := hI
      have hi : l1 = false := by simpa using hl
      have d0 : l0 = true := by simpa using hd ⟨0, .data⟩ (by simp) rfl
      have n24 : l24 = false := by cases h : l24; rfl; (have := g24 h; simp [hi] at this)
      subst hi d0 n24
      refine wpOp_step rfl (fun K hK => ?_)
      have HK := Lib.hid hK
      clear hK hl hd
      rw [if_pos (by rfl)]
      obtain ⟨⟨z0, z1, z2, z3⟩, z4, z5, z6, z7⟩ := HXc.out _ (hB rfl)
      go_wp2_with fail
      exact HK.out _ _ ⟨true, true, l2, l3, l4, l5, l6, l7, l8, l9, l10, l11, l12, l13, l14, l15, l16, l17, l18, l19, l20, l21, l22, l23, false, l25, x41, x42, x47, x48, x53, x54, rfl, rfl, hB, f6, f7, f12, f13, f18, f19, g20, g21, g22, g23, fun h => (by first | (cases h; done) | (simp at h; done)), fun h => (by first | (cases h; done) | (simp at h; done))⟩
    · -- operation 2
      cases ho
      obtain ⟨l0, l1, l2, l3, l4, l5, l6, l7, l8, l9, l10, l11, l12, l13, l14, l15, l16, l17, l18, l19, l20, l21, l22, l23, l24, l25, hI⟩ := hI
      obtain ⟨x41, x42, x47, x48, x53, x54, hI⟩ := hI
      obtain ⟨e1, e2, hI⟩ := hI
      subst e1
      subst e2
      obtain ⟨hB, f6, f7, f12, f13, f18, f19, hI⟩ := hI
      obtain ⟨g20, g21, g22, g23, g24, hF⟩ := hI
      have hi : l2 = false := by simpa using hl
      have n24 : l24 = false := by cases h : l24; rfl; (have := g24 h; simp [hi] at this)
      subst hi n24
      refine wpOp_step rfl (fun K hK => ?_)
      have HK := Lib.hid hK
      clear hK hl hd
      rw [if_pos (by rfl)]
      go_wp2_with fail
      exact HK.out _ _ ⟨l0, l1, true, l3, l4, l5, l6, l7, l8, l9, l10, l11, l12, l13, l14, l15, l16, l17, l18, l19, l20, l21, l22, l23, false, l25, x41, x42, x47, x48, x53, x54, rfl, rfl, hB, f6, f7, f12, f13, f18, f19, g20, g21, g22, g23, fun h => (by first | (cases h; done) | (simp at h; done)), fun h => (by first | (cases h; done) | (simp at h; done))⟩
    · -- operation 3
      cases ho
      obtain ⟨l0, l1, l2, l3, l4, l5, l6, l7, l8, l9, l10, l11, l12, l13, l14, l15, l16, l17, l18, l19, l20, l21, l22, l23, l24, l25, hI⟩ := hI
      obtain ⟨x41, x42, x47, x48, x53, x54, hI⟩ := hI
      obtain ⟨e1, e2, hI⟩ := hI
      subst e1
      subst e2
      obtain ⟨hB, f6, f7, f12, f13, f18, f19, hI⟩ := hI
      obtain ⟨g20, g21, g22, g23, g24, hF⟩ := hI
      have hi : l3 = false := by simpa using hl
      have d2 : l2 = true := by simpa using hd ⟨2, .data⟩ (by simp) rfl
      have n24 : l24 = false := by cases h : l24; rfl; (have := g24 h; simp [hi] at this)
      subst hi d2 n24
      refine wpOp_step rfl (fun K hK => ?_)
      have HK := Lib.hid hK
      clear hK hl hd
      rw [if_pos (by rfl)]
      obtain ⟨⟨z0, z1, z2, z3⟩, z4, z5, z6, z7⟩ := HXc.out _ (hB rfl)
      go_wp2_with fail
      exact HK.out _ _ ⟨l0, l1, true, true, l4, l5, l6, l7, l8, l9, l10, l11, l12, l13, l14, l15, l16, l17, l18, l19, l20, l21, l22, l23, false, l25, x41, x42, x47, x48, x53, x54, rfl, rfl, hB, f6, f7, f12, f13, f18, f19, g20, g21, g22, g23, fun h => (by first | (cases h; done) | (simp at h; done)), fun h => (by first | (cases h; done) | (simp at h; done))⟩
    · -- operation 4
      cases ho
      obtain ⟨l0, l1, l2, l3, l4, l5, l6, l7, l8, l9, l10, l11, l12, l13, l14, l15, l16, l17, l18, l19, l20, l21, l22, l23, l24, l25, hI⟩ := hI
      obtain ⟨x41, x42, x47, x48, x53, x54, hI⟩ := hI
      obtain ⟨e1, e2, hI⟩ := hI
      subst e1
      subst e2
      obtain ⟨hB, f6, f7, f12, f13, f18, f19, hI⟩ := hI
      obtain ⟨g20, g21, g22, g23, g24, hF⟩ := hI
      have hi : l4 = false := by simpa using hl
      have n24 : l24 = false := by cases h : l24; rfl; (have := g24 h; simp [hi] at this)
      subst hi n24
      refine wpOp_step rfl (fun K hK => ?_)
      have HK := Lib.hid hK
      clear hK hl hd
      rw [if_pos (by rfl)]
      go_wp2_with fail
      exact HK.out _ _ ⟨l0, l1, l2, l3, true, l5, l6, l7, l8, l9, l10, l11, l12, l13, l14, l15, l16, l17, l18, l19, l20, l21, l22, l23, false, l25, x41, x42, x47, x48, x53, x54, rfl, rfl, hB, f6, f7, f12, f13, f18, f19, g20, g21, g22, g23, fun h => (by first | (cases h; done) | (simp at h; done)), fun h => (by first | (cases h; done) | (simp at h; done))⟩
    · -- operation 5
      cases ho
      obtain ⟨l0, l1, l2, l3, l4, l5, l6, l7, l8, l9, l10, l11, l12, l13, l14, l15, l16, l17, l18, l19, l20, l21, l22, l23, l24, l25, hI⟩ := hI
      obtain ⟨x41, x42, x47, x48, x53, x54, hI⟩ := hI
      obtain ⟨e1, e2, hI⟩ := hI
      subst e1
      subst e2
      obtain ⟨hB, f6, f7, f12, f13, f18, f19, hI⟩ := hI
      obtain ⟨g20, g21, g22, g23, g24, hF⟩ := hI
      have hi : l5 = false := by simpa using hl
      have d4 : l4 = true := by simpa using hd ⟨4, .data⟩ (by simp) rfl
      have n24 : l24 = false := by cases h : l24; rfl; (have := g24 h; simp [hi] at this)
      subst hi d4 n24
      refine wpOp_step rfl (fun K hK => ?_)
      have HK := Lib.hid hK
      clear hK hl hd
      rw [if_pos (by rfl)]
      obtain ⟨⟨z0, z1, z2, z3⟩, z4, z5, z6, z7⟩ := HXc.out _ (hB rfl)
      go_wp2_with fail
      exact HK.out _ _ ⟨l0, l1, l2, l3, true, true, l6, l7, l8, l9, l10, l11, l12, l13, l14, l15, l16, l17, l18, l19, l20, l21, l22, l23, false, l25, x41, x42, x47, x48, x53, x54, rfl, rfl, hB, f6, f7, f12, f13, f18, f19, g20, g21, g22, g23, fun h => (by first | (cases h; done) | (simp at h; done)), fun h => (by first | (cases h; done) | (simp at h; done))⟩
    · -- operation 6
      cases ho
      obtain ⟨l0, l1, l2, l3, l4, l5, l6, l7, l8, l9, l10, l11, l12, l13, l14, l15, l16, l17, l18, l19, l20, l21, l22, l23, l24, l25, hI⟩ := hI
      obtain ⟨x41, x42, x47, x48, x53, x54, hI⟩ := hI
      obtain ⟨e1, e2, hI⟩ := hI
      subst e1
      subst e2
      obtain ⟨hB, f6, f7, f12, f13, f18, f19, hI⟩ := hI
      obtain ⟨g20, g21, g22, g23, g24, hF⟩ := hI
      have hi : l6 = false := by simpa using hl
      have d3 : l3 = true := by simpa using hd ⟨3, .data⟩ (by simp) rfl
      have d5 : l5 = true := by simpa using hd ⟨5, .data⟩ (by simp) rfl
      have n24 : l24 = false := by cases h : l24; rfl; (have := g24 h; simp [hi] at this)
      subst hi d3 d5 n24
      refine wpOp_step rfl (fun K hK => ?_)
      have HK := Lib.hid hK
      clear hK hl hd
      rw [if_pos (by rfl)]
      have hb' := hB rfl
      have hba : Below w'.heap.size w' (w'.alloc (.cells #[.slice kB nk kd, .slice kC mk ke] 22)) := (Below.refl _ _).alloc (Nat.le_refl _) _
      go_wp2_with fail
      exact HK.out _ _ ⟨l0, l1, l2, true, l4, true, true, l7, l8, l9, l10, l11, l12, l13, l14, l15, l16, l17, l18, l19, l20, l21, l22, l23, false, l25, .slice (some ⟨w'.heap.size, 0, none⟩) 2 2, x42, x47, x48, x53, x54, rfl, rfl, fun _ => hb'.trans (hba.mono (Below.sizeE hb' HBe.out)), fun _ _ => ⟨w'.heap.size, rfl, heap_alloc_new w' _⟩, fun h h' => (f7 h h').below hba, fun h h' => (by obtain ⟨g', q1, q2⟩ := f12 h h'; exact ⟨g', q1, (hba.block g' (Array.getElem?_eq_some_iff.1 q2).1).trans q2⟩), fun h h' => (f13 h h').below hba, fun h h' => (by obtain ⟨g', q1, q2⟩ := f18 h h'; exact ⟨g', q1, (hba.block g' (Array.getElem?_eq_some_iff.1 q2).1).trans q2⟩), fun h h' => (f19 h h').below hba, g20, g21, g22, g23, fun h => (by first | (cases h; done) | (simp at h; done)), fun h => (by first | (cases h; done) | (simp at h; done))⟩
    · -- operation 7
      cases ho
      obtain ⟨l0, l1, l2, l3, l4, l5, l6, l7, l8, l9, l10, l11, l12, l13, l14, l15, l16, l17, l18, l19, l20, l21, l22, l23, l24, l25, hI⟩ := hI
      obtain ⟨x41, x42, x47, x48, x53, x54, hI⟩ := hI
      obtain ⟨e1, e2, hI⟩ := hI
      subst e1
      subst e2
      obtain ⟨hB, f6, f7, f12, f13, f18, f19, hI⟩ := hI
      obtain ⟨g20, g21, g22, g23, g24, hF⟩ := hI
      have hi : l7 = false := by simpa using hl
      have d6 : l6 = true := by simpa using hd ⟨6, .data⟩ (by simp) rfl
      have n24 : l24 = false := by cases h : l24; rfl; (have := g24 h; simp [hi] at this)
      have n20 : l20 = false := by cases h : l20; rfl; (have := g20 h; simp [hi] at this)
      have n21 : l21 = false := by cases h : l21; rfl; (have := g21 h; rw [n20] at this; cases this)
      have n22 : l22 = false := by cases h : l22; rfl; (have := g22 h; rw [n21] at this; cases this)
      have n23 : l23 = false := by cases h : l23; rfl; (have := g23 h; rw [n21] at this; cases this)
      subst hi d6 n24 n20 n21 n22 n23
      refine wpOp_step rfl (fun K hK => ?_)
      have HK := Lib.hid hK
      clear hK hl hd
      rw [if_pos (by rfl)]
      have hb' := hB rfl
      obtain ⟨g', q1, q2⟩ := f6 rfl rfl
      subst q1
      refine wp_goCall 56 _ _ (by rfl) Tryd.func56 (by kernel_rfl) (by kernel_rfl) _ (by simp [Act.eval]) (HPk.out w' g' hb' q2) ?_
      rintro e w9 ⟨v9, rfl, h9⟩
      refine ⟨_, rfl, ?_⟩
      have hba := h9.out.2
      exact HK.out _ _ ⟨l0, l1, l2, l3, l4, l5, true, true, l8, l9, l10, l11, l12, l13, l14, l15, l16, l17, l18, l19, false, false, false, false, false, l25, .slice (some ⟨g', 0, none⟩) 2 2, v9, x47, x48, x53, x54, rfl, rfl, fun _ => hb'.trans (hba.mono (Below.sizeE hb' HBe.out)), fun h h' => (by obtain ⟨g', q1, q2⟩ := f6 h h'; exact ⟨g', q1, (hba.block g' (Array.getElem?_eq_some_iff.1 q2).1).trans q2⟩), fun _ _ => h9.out.1.base' (Nat.le_trans hWB (Below.sizeE hb' HBe.out)), fun h h' => (by obtain ⟨g', q1, q2⟩ := f12 h h'; exact ⟨g', q1, (hba.block g' (Array.getElem?_eq_some_iff.1 q2).1).trans q2⟩), fun h h' => (f13 h h').below hba, fun h h' => (by obtain ⟨g', q1, q2⟩ := f18 h h'; exact ⟨g', q1, (hba.block g' (Array.getElem?_eq_some_iff.1 q2).1).trans q2⟩), fun h h' => (f19 h h').below hba, fun h => (by first | (cases h; done) | (simp at h; done)), fun h => (by first | (cases h; done) | (simp at h; done)), fun h => (by first | (cases h; done) | (simp at h; done)), fun h => (by first | (cases h; done) | (simp at h; done)), fun h => (by first | (cases h; done) | (simp at h; done)), fun h => (by first | (cases h; done) | (simp at h; done))⟩
    · -- operation 8
      cases ho
      obtain ⟨l0, l1, l2, l3, l4, l5, l6, l7, l8, l9, l10, l11, l12, l13, l14, l15, l16, l17, l18, l19, l20, l21, l22, l23, l24, l25, hI⟩ := hI
      obtain ⟨x41, x42, x47, x48, x53, x54, hI⟩ := hI
      obtain ⟨e1, e2, hI⟩ := hI
      subst e1
      subst e2
      obtain ⟨hB, f6, f7, f12, f13, f18, f19, hI⟩ := hI
      obtain ⟨g20, g21, g22, g23, g24, hF⟩ := hI
      have hi : l8 = false := by simpa using hl
      have n24 : l24 = false := by cases h : l24; rfl; (have := g24 h; simp [hi] at this)
      subst hi n24
      refine wpOp_step rfl (fun K hK => ?_)
      have HK := Lib.hid hK
      clear hK hl hd
      rw [if_pos (by rfl)]
      go_wp2_with fail
      exact HK.out _ _ ⟨l0, l1, l2, l3, l4, l5, l6, l7, true, l9, l10, l11, l12, l13, l14, l15, l16, l17, l18, l19, l20, l21, l22, l23, false, l25, x41, x42, x47, x48, x53, x54, rfl, rfl, hB, f6, f7, f12, f13, f18, f19, g20, g21, g22, g23, fun h => (by first | (cases h; done) | (simp at h; done)), fun h => (by first | (cases h; done) | (simp at h; done))⟩
    · -- operation 9
      cases ho
      obtain ⟨l0, l1, l2, l3, l4, l5, l6, l7, l8, l9, l10, l11, l12, l13, l14, l15, l16, l17, l18, l19, l20, l21, l22, l23, l24, l25, hI⟩ := hI
      obtain ⟨x41, x42, x47, x48, x53, x54, hI⟩ := hI
      obtain ⟨e1, e2, hI⟩ := hI
      subst e1
      subst e2
      obtain ⟨hB, f6, f7, f12, f13, f18, f19, hI⟩ := hI
      obtain ⟨g20, g21, g22, g23, g24, hF⟩ := hI
      have hi : l9 = false := by simpa using hl
      have d8 : l8 = true := by simpa using hd ⟨8, .data⟩ (by simp) rfl
      have n24 : l24 = false := by cases h : l24; rfl; (have := g24 h; simp [hi] at this)
      subst hi d8 n24
      refine wpOp_step rfl (fun K hK => ?_)
      have HK := Lib.hid hK
      clear hK hl hd
      rw [if_pos (by rfl)]
      obtain ⟨⟨z0, z1, z2, z3⟩, z4, z5, z6, z7⟩ := HXc.out _ (hB rfl)
      go_wp2_with fail
      exact HK.out _ _ ⟨l0, l1, l2, l3, l4, l5, l6, l7, true, true, l10, l11, l12, l13, l14, l15, l16, l17, l18, l19, l20, l21, l22, l23, false, l25, x41, x42, x47, x48, x53, x54, rfl, rfl, hB, f6, f7, f12, f13, f18, f19, g20, g21, g22, g23, fun h => (by first | (cases h; done) | (simp at h; done)), fun h => (by first | (cases h; done) | (simp at h; done))⟩
    · -- operation 10
      cases ho
      obtain ⟨l0, l1, l2, l3, l4, l5, l6, l7, l8, l9, l10, l11, l12, l13, l14, l15, l16, l17, l18, l19, l20, l21, l22, l23, l24, l25, hI⟩ := hI
      obtain ⟨x41, x42, x47, x48, x53, x54, hI⟩ := hI
      obtain ⟨e1, e2, hI⟩ := hI
      subst e1
      subst e2
      obtain ⟨hB, f6, f7, f12, f13, f18, f19, hI⟩ := hI
      obtain ⟨g20, g21, g22, g23, g24, hF⟩ := hI
      have hi : l10 = false := by simpa using hl
      have n24 : l24 = false := by cases h : l24; rfl; (have := g24 h; simp [hi] at this)
      subst hi n24
      refine wpOp_step rfl (fun K hK => ?_)
      have HK := Lib.hid hK
      clear hK hl hd
      rw [if_pos (by rfl)]
      go_wp2_with fail
      exact HK.out _ _ ⟨l0, l1, l2, l3, l4, l5, l6, l7, l8, l9, true, l11, l12, l13, l14, l15, l16, l17, l18, l19, l20, l21, l22, l23, false, l25, x41, x42, x47, x48, x53, x54, rfl, rfl, hB, f6, f7, f12, f13, f18, f19, g20, g21, g22, g23, fun h => (by first | (cases h; done) | (simp at h; done)), fun h => (by first | (cases h; done) | (simp at h; done))⟩
    · -- operation 11
      cases ho
      obtain ⟨l0, l1, l2, l3, l4, l5, l6, l7, l8, l9, l10, l11, l12, l13, l14, l15, l16, l17, l18, l19, l20, l21, l22, l23, l24, l25, hI⟩ := hI
      obtain ⟨x41, x42, x47, x48, x53, x54, hI⟩ := hI
      obtain ⟨e1, e2, hI⟩ := hI
      subst e1
      subst e2
      obtain ⟨hB, f6, f7, f12, f13, f18, f19, hI⟩ := hI
      obtain ⟨g20, g21, g22, g23, g24, hF⟩ := hI
      have hi : l11 = false := by simpa using hl
      have d10 : l10 = true := by simpa using hd ⟨10, .data⟩ (by simp) rfl
      have n24 : l24 = false := by cases h : l24; rfl; (have := g24 h; simp [hi] at this)
      subst hi d10 n24
      refine wpOp_step rfl (fun K hK => ?_)
      have HK := Lib.hid hK
      clear hK hl hd
      rw [if_pos (by rfl)]
      obtain ⟨⟨z0, z1, z2, z3⟩, z4, z5, z6, z7⟩ := HXc.out _ (hB rfl)
      go_wp2_with fail
      exact HK.out _ _ ⟨l0, l1, l2, l3, l4, l5, l6, l7, l8, l9, true, true, l12, l13, l14, l15, l16, l17, l18, l19, l20, l21, l22, l23, false, l25, x41, x42, x47, x48, x53, x54, rfl, rfl, hB, f6, f7, f12, f13, f18, f19, g20, g21, g22, g23, fun h => (by first | (cases h; done) | (simp at h; done)), fun h => (by first | (cases h; done) | (simp at h; done))⟩
    · -- operation 12
      cases ho
      obtain ⟨l0, l1, l2, l3, l4, l5, l6, l7, l8, l9, l10, l11, l12, l13, l14, l15, l16, l17, l18, l19, l20, l21, l22, l23, l24, l25, hI⟩ := hI
      obtain ⟨x41, x42, x47, x48, x53, x54, hI⟩ := hI
      obtain ⟨e1, e2, hI⟩ := hI
      subst e1
      subst e2
      obtain ⟨hB, f6, f7, f12, f13, f18, f19, hI⟩ := hI
      obtain ⟨g20, g21, g22, g23, g24, hF⟩ := hI
      have hi : l12 = false := by simpa using hl
      have d9 : l9 = true := by simpa using hd ⟨9, .data⟩ (by simp) rfl
      have d11 : l11 = true := by simpa using hd ⟨11, .data⟩ (by simp) rfl
      have n24 : l24 = false := by cases h : l24; rfl; (have := g24 h; simp [hi] at this)
      subst hi d9 d11 n24
      refine wpOp_step rfl (fun K hK => ?_)
      have HK := Lib.hid hK
      clear hK hl hd
      rw [if_pos (by rfl)]
      have hb' := hB rfl
      have hba : Below w'.heap.size w' (w'.alloc (.cells #[.slice vB nv vd, .slice vC mv ve] 23)) := (Below.refl _ _).alloc (Nat.le_refl _) _
      go_wp2_with fail
      exact HK.out _ _ ⟨l0, l1, l2, l3, l4, l5, l6, l7, l8, true, l10, true, true, l13, l14, l15, l16, l17, l18, l19, l20, l21, l22, l23, false, l25, x41, x42, .slice (some ⟨w'.heap.size, 0, none⟩) 2 2, x48, x53, x54, rfl, rfl, fun _ => hb'.trans (hba.mono (Below.sizeE hb' HBe.out)), fun h h' => (by obtain ⟨g', q1, q2⟩ := f6 h h'; exact ⟨g', q1, (hba.block g' (Array.getElem?_eq_some_iff.1 q2).1).trans q2⟩), fun h h' => (f7 h h').below hba, fun _ _ => ⟨w'.heap.size, rfl, heap_alloc_new w' _⟩, fun h h' => (f13 h h').below hba, fun h h' => (by obtain ⟨g', q1, q2⟩ := f18 h h'; exact ⟨g', q1, (hba.block g' (Array.getElem?_eq_some_iff.1 q2).1).trans q2⟩), fun h h' => (f19 h h').below hba, g20, g21, g22, g23, fun h => (by first | (cases h; done) | (simp at h; done)), fun h => (by first | (cases h; done) | (simp at h; done))⟩
    · -- operation 13
      cases ho
      obtain ⟨l0, l1, l2, l3, l4, l5, l6, l7, l8, l9, l10, l11, l12, l13, l14, l15, l16, l17, l18, l19, l20, l21, l22, l23, l24, l25, hI⟩ := hI
      obtain ⟨x41, x42, x47, x48, x53, x54, hI⟩ := hI
      obtain ⟨e1, e2, hI⟩ := hI
      subst e1
      subst e2
      obtain ⟨hB, f6, f7, f12, f13, f18, f19, hI⟩ := hI
      obtain ⟨g20, g21, g22, g23, g24, hF⟩ := hI
      have hi : l13 = false := by simpa using hl
      have d12 : l12 = true := by simpa using hd ⟨12, .data⟩ (by simp) rfl
      have n24 : l24 = false := by cases h : l24; rfl; (have := g24 h; simp [hi] at this)
      have n20 : l20 = false := by cases h : l20; rfl; (have := g20 h; simp [hi] at this)
      have n21 : l21 = false := by cases h : l21; rfl; (have := g21 h; rw [n20] at this; cases this)
      have n22 : l22 = false := by cases h : l22; rfl; (have := g22 h; rw [n21] at this; cases this)
      have n23 : l23 = false := by cases h : l23; rfl; (have := g23 h; rw [n21] at this; cases this)
      subst hi d12 n24 n20 n21 n22 n23
      refine wpOp_step rfl (fun K hK => ?_)
      have HK := Lib.hid hK
      clear hK hl hd
      rw [if_pos (by rfl)]
      have hb' := hB rfl
      obtain ⟨g', q1, q2⟩ := f12 rfl rfl
      subst q1
      refine wp_goCall 57 _ _ (by rfl) Tryd.func57 (by kernel_rfl) (by kernel_rfl) _ (by simp [Act.eval]) (HPv.out w' g' hb' q2) ?_
      rintro e w9 ⟨v9, rfl, h9⟩
      refine ⟨_, rfl, ?_⟩
      have hba := h9.out.2
      exact HK.out _ _ ⟨l0, l1, l2, l3, l4, l5, l6, l7, l8, l9, l10, l11, true, true, l14, l15, l16, l17, l18, l19, false, false, false, false, false, l25, x41, x42, .slice (some ⟨g', 0, none⟩) 2 2, v9, x53, x54, rfl, rfl, fun _ => hb'.trans (hba.mono (Below.sizeE hb' HBe.out)), fun h h' => (by obtain ⟨g', q1, q2⟩ := f6 h h'; exact ⟨g', q1, (hba.block g' (Array.getElem?_eq_some_iff.1 q2).1).trans q2⟩), fun h h' => (f7 h h').below hba, fun h h' => (by obtain ⟨g', q1, q2⟩ := f12 h h'; exact ⟨g', q1, (hba.block g' (Array.getElem?_eq_some_iff.1 q2).1).trans q2⟩), fun _ _ => h9.out.1, fun h h' => (by obtain ⟨g', q1, q2⟩ := f18 h h'; exact ⟨g', q1, (hba.block g' (Array.getElem?_eq_some_iff.1 q2).1).trans q2⟩), fun h h' => (f19 h h').below hba, fun h => (by first | (cases h; done) | (simp at h; done)), fun h => (by first | (cases h; done) | (simp at h; done)), fun h => (by first | (cases h; done) | (simp at h; done)), fun h => (by first | (cases h; done) | (simp at h; done)), fun h => (by first | (cases h; done) | (simp at h; done)), fun h => (by first | (cases h; done) | (simp at h; done))⟩
    · -- operation 14
      cases ho
      obtain ⟨l0, l1, l2, l3, l4, l5, l6, l7, l8, l9, l10, l11, l12, l13, l14, l15, l16, l17, l18, l19, l20, l21, l22, l23, l24, l25, hI⟩ := hI
      obtain ⟨x41, x42, x47, x48, x53, x54, hI⟩ := hI
      obtain ⟨e1, e2, hI⟩ := hI
      subst e1
      subst e2
      obtain ⟨hB, f6, f7, f12, f13, f18, f19, hI⟩ := hI
      obtain ⟨g20, g21, g22, g23, g24, hF⟩ := hI
      have hi : l14 = false := by simpa using hl
      have n24 : l24 = false := by cases h : l24; rfl; (have := g24 h; simp [hi] at this)
      subst hi n24
      refine wpOp_step rfl (fun K hK => ?_)
      have HK := Lib.hid hK
      clear hK hl hd
      rw [if_pos (by rfl)]
      go_wp2_with fail
      exact HK.out _ _ ⟨l0, l1, l2, l3, l4, l5, l6, l7, l8, l9, l10, l11, l12, l13, true, l15, l16, l17, l18, l19, l20, l21, l22, l23, false, l25, x41, x42, x47, x48, x53, x54, rfl, rfl, hB, f6, f7, f12, f13, f18, f19, g20, g21, g22, g23, fun h => (by first | (cases h; done) | (simp at h; done)), fun h => (by first | (cases h; done) | (simp at h; done))⟩
    · -- operation 15
      cases ho
      obtain ⟨l0, l1, l2, l3, l4, l5, l6, l7, l8, l9, l10, l11, l12, l13, l14, l15, l16, l17, l18, l19, l20, l21, l22, l23, l24, l25, hI⟩ := hI
      obtain ⟨x41, x42, x47, x48, x53, x54, hI⟩ := hI
      obtain ⟨e1, e2, hI⟩ := hI
      subst e1
      subst e2
      obtain ⟨hB, f6, f7, f12, f13, f18, f19, hI⟩ := hI
      obtain ⟨g20, g21, g22, g23, g24, hF⟩ := hI
      have hi : l15 = false := by simpa using hl
      have d14 : l14 = true := by simpa using hd ⟨14, .data⟩ (by simp) rfl
      have n24 : l24 = false := by cases h : l24; rfl; (have := g24 h; simp [hi] at this)
      subst hi d14 n24
      refine wpOp_step rfl (fun K hK => ?_)
      have HK := Lib.hid hK
      clear hK hl hd
      rw [if_pos (by rfl)]
      obtain ⟨⟨z0, z1, z2, z3⟩, z4, z5, z6, z7⟩ := HXc.out _ (hB rfl)
      go_wp2_with fail
      exact HK.out _ _ ⟨l0, l1, l2, l3, l4, l5, l6, l7, l8, l9, l10, l11, l12, l13, true, true, l16, l17, l18, l19, l20, l21, l22, l23, false, l25, x41, x42, x47, x48, x53, x54, rfl, rfl, hB, f6, f7, f12, f13, f18, f19, g20, g21, g22, g23, fun h => (by first | (cases h; done) | (simp at h; done)), fun h => (by first | (cases h; done) | (simp at h; done))⟩
    · -- operation 16
      cases ho
      obtain ⟨l0, l1, l2, l3, l4, l5, l6, l7, l8, l9, l10, l11, l12, l13, l14, l15, l16, l17, l18, l19, l20, l21, l22, l23, l24, l25, hI⟩ := hI
      obtain ⟨x41, x42, x47, x48, x53, x54, hI⟩ := hI
      obtain ⟨e1, e2, hI⟩ := hI
      subst e1
      subst e2
      obtain ⟨hB, f6, f7, f12, f13, f18, f19, hI⟩ := hI
      obtain ⟨g20, g21, g22, g23, g24, hF⟩ := hI
      have hi : l16 = false := by simpa using hl
      have n24 : l24 = false := by cases h : l24; rfl; (have := g24 h; simp [hi] at this)
      subst hi n24
      refine wpOp_step rfl (fun K hK => ?_)
      have HK := Lib.hid hK
      clear hK hl hd
      rw [if_pos (by rfl)]
      go_wp2_with fail
      exact HK.out _ _ ⟨l0, l1, l2, l3, l4, l5, l6, l7, l8, l9, l10, l11, l12, l13, l14, l15, true, l17, l18, l19, l20, l21, l22, l23, false, l25, x41, x42, x47, x48, x53, x54, rfl, rfl, hB, f6, f7, f12, f13, f18, f19, g20, g21, g22, g23, fun h => (by first | (cases h; done) | (simp at h; done)), fun h => (by first | (cases h; done) | (simp at h; done))⟩
    · -- operation 17
      cases ho
      obtain ⟨l0, l1, l2, l3, l4, l5, l6, l7, l8, l9, l10, l11, l12, l13, l14, l15, l16, l17, l18, l19, l20, l21, l22, l23, l24, l25, hI⟩ := hI
      obtain ⟨x41, x42, x47, x48, x53, x54, hI⟩ := hI
      obtain ⟨e1, e2, hI⟩ := hI
      subst e1
      subst e2
      obtain ⟨hB, f6, f7, f12, f13, f18, f19, hI⟩ := hI
      obtain ⟨g20, g21, g22, g23, g24, hF⟩ := hI
      have hi : l17 = false := by simpa using hl
      have d16 : l16 = true := by simpa using hd ⟨16, .data⟩ (by simp) rfl
      have n24 : l24 = false := by cases h : l24; rfl; (have := g24 h; simp [hi] at this)
      subst hi d16 n24
      refine wpOp_step rfl (fun K hK => ?_)
      have HK := Lib.hid hK
      clear hK hl hd
      rw [if_pos (by rfl)]
      obtain ⟨⟨z0, z1, z2, z3⟩, z4, z5, z6, z7⟩ := HXc.out _ (hB rfl)
      go_wp2_with fail
      exact HK.out _ _ ⟨l0, l1, l2, l3, l4, l5, l6, l7, l8, l9, l10, l11, l12, l13, l14, l15, true, true, l18, l19, l20, l21, l22, l23, false, l25, x41, x42, x47, x48, x53, x54, rfl, rfl, hB, f6, f7, f12, f13, f18, f19, g20, g21, g22, g23, fun h => (by first | (cases h; done) | (simp at h; done)), fun h => (by first | (cases h; done) | (simp at h; done))⟩
    · -- operation 18
      cases ho
      obtain ⟨l0, l1, l2, l3, l4, l5, l6, l7, l8, l9, l10, l11, l12, l13, l14, l15, l16, l17, l18, l19, l20, l21, l22, l23, l24, l25, hI⟩ := hI
      obtain ⟨x41, x42, x47, x48, x53, x54, hI⟩ := hI
      obtain ⟨e1, e2, hI⟩ := hI
      subst e1
      subst e2
      obtain ⟨hB, f6, f7, f12, f13, f18, f19, hI⟩ := hI
      obtain ⟨g20, g21, g22, g23, g24, hF⟩ := hI
      have hi : l18 = false := by simpa using hl
      have d15 : l15 = true := by simpa using hd ⟨15, .data⟩ (by simp) rfl
      have d17 : l17 = true := by simpa using hd ⟨17, .data⟩ (by simp) rfl
      have n24 : l24 = false := by cases h : l24; rfl; (have := g24 h; simp [hi] at this)
      subst hi d15 d17 n24
      refine wpOp_step rfl (fun K hK => ?_)
      have HK := Lib.hid hK
      clear hK hl hd
      rw [if_pos (by rfl)]
      have hb' := hB rfl
      have hba : Below w'.heap.size w' (w'.alloc (.cells #[.slice iB ni id, .slice iC mi ie] 24)) := (Below.refl _ _).alloc (Nat.le_refl _) _
      go_wp2_with fail
      exact HK.out _ _ ⟨l0, l1, l2, l3, l4, l5, l6, l7, l8, l9, l10, l11, l12, l13, l14, true, l16, true, true, l19, l20, l21, l22, l23, false, l25, x41, x42, x47, x48, .slice (some ⟨w'.heap.size, 0, none⟩) 2 2, x54, rfl, rfl, fun _ => hb'.trans (hba.mono (Below.sizeE hb' HBe.out)), fun h h' => (by obtain ⟨g', q1, q2⟩ := f6 h h'; exact ⟨g', q1, (hba.block g' (Array.getElem?_eq_some_iff.1 q2).1).trans q2⟩), fun h h' => (f7 h h').below hba, fun h h' => (by obtain ⟨g', q1, q2⟩ := f12 h h'; exact ⟨g', q1, (hba.block g' (Array.getElem?_eq_some_iff.1 q2).1).trans q2⟩), fun h h' => (f13 h h').below hba, fun _ _ => ⟨w'.heap.size, rfl, heap_alloc_new w' _⟩, fun h h' => (f19 h h').below hba, g20, g21, g22, g23, fun h => (by first | (cases h; done) | (simp at h; done)), fun h => (by first | (cases h; done) | (simp at h; done))⟩
    · -- operation 19
      cases ho
      obtain ⟨l0, l1, l2, l3, l4, l5, l6, l7, l8, l9, l10, l11, l12, l13, l14, l15, l16, l17, l18, l19, l20, l21, l22, l23, l24, l25, hI⟩ := hI
      obtain ⟨x41, x42, x47, x48, x53, x54, hI⟩ := hI
      obtain ⟨e1, e2, hI⟩ := hI
      subst e1
      subst e2
      obtain ⟨hB, f6, f7, f12, f13, f18, f19, hI⟩ := hI
      obtain ⟨g20, g21, g22, g23, g24, hF⟩ := hI
      have hi : l19 = false := by simpa using hl
      have d18 : l18 = true := by simpa using hd ⟨18, .data⟩ (by simp) rfl
      have n24 : l24 = false := by cases h : l24; rfl; (have := g24 h; simp [hi] at this)
      have n20 : l20 = false := by cases h : l20; rfl; (have := g20 h; simp [hi] at this)
      have n21 : l21 = false := by cases h : l21; rfl; (have := g21 h; rw [n20] at this; cases this)
      have n22 : l22 = false := by cases h : l22; rfl; (have := g22 h; rw [n21] at this; cases this)
      have n23 : l23 = false := by cases h : l23; rfl; (have := g23 h; rw [n21] at this; cases this)
      subst hi d18 n24 n20 n21 n22 n23
      refine wpOp_step rfl (fun K hK => ?_)
      have HK := Lib.hid hK
      clear hK hl hd
      rw [if_pos (by rfl)]
      have hb' := hB rfl
      obtain ⟨g', q1, q2⟩ := f18 rfl rfl
      subst q1
      refine wp_goCall 58 _ _ (by rfl) Tryd.func58 (by kernel_rfl) (by kernel_rfl) _ (by simp [Act.eval]) (HPi.out w' g' hb' q2) ?_
      rintro e w9 ⟨v9, rfl, h9⟩
      refine ⟨_, rfl, ?_⟩
      have hba := h9.out.2
      exact HK.out _ _ ⟨l0, l1, l2, l3, l4, l5, l6, l7, l8, l9, l10, l11, l12, l13, l14, l15, l16, l17, true, true, false, false, false, false, false, l25, x41, x42, x47, x48, .slice (some ⟨g', 0, none⟩) 2 2, v9, rfl, rfl, fun _ => hb'.trans (hba.mono (Below.sizeE hb' HBe.out)), fun h h' => (by obtain ⟨g', q1, q2⟩ := f6 h h'; exact ⟨g', q1, (hba.block g' (Array.getElem?_eq_some_iff.1 q2).1).trans q2⟩), fun h h' => (f7 h h').below hba, fun h h' => (by obtain ⟨g', q1, q2⟩ := f12 h h'; exact ⟨g', q1, (hba.block g' (Array.getElem?_eq_some_iff.1 q2).1).trans q2⟩), fun h h' => (f13 h h').below hba, fun h h' => (by obtain ⟨g', q1, q2⟩ := f18 h h'; exact ⟨g', q1, (hba.block g' (Array.getElem?_eq_some_iff.1 q2).1).trans q2⟩), fun _ _ => h9.out.1.base' (Nat.le_trans hWB (Below.sizeE hb' HBe.out)), fun h => (by first | (cases h; done) | (simp at h; done)), fun h => (by first | (cases h; done) | (simp at h; done)), fun h => (by first | (cases h; done) | (simp at h; done)), fun h => (by first | (cases h; done) | (simp at h; done)), fun h => (by first | (cases h; done) | (simp at h; done)), fun h => (by first | (cases h; done) | (simp at h; done))⟩
    · -- operation 20
      cases ho
      obtain ⟨l0, l1, l2, l3, l4, l5, l6, l7, l8, l9, l10, l11, l12, l13, l14, l15, l16, l17, l18, l19, l20, l21, l22, l23, l24, l25, hI⟩ := hI
      obtain ⟨x41, x42, x47, x48, x53, x54, hI⟩ := hI
      obtain ⟨e1, e2, hI⟩ := hI
      subst e1
      subst e2
      obtain ⟨hB, f6, f7, f12, f13, f18, f19, hI⟩ := hI
      obtain ⟨g20, g21, g22, g23, g24, hF⟩ := hI
      have hi : l20 = false := by simpa using hl
      have d1 : l1 = true := by simpa using hd ⟨1, .data⟩ (by simp) rfl
      have d7 : l7 = true := by simpa using hd ⟨7, .data⟩ (by simp) rfl
      have d13 : l13 = true := by simpa using hd ⟨13, .data⟩ (by simp) rfl
      have d19 : l19 = true := by simpa using hd ⟨19, .data⟩ (by simp) rfl
      have n24 : l24 = false := by cases h : l24; rfl; (have := g24 h; simp [hi] at this)
      subst hi d1 d7 d13 d19 n24
      refine wpOp_step rfl (fun K hK => ?_)
      have HK := Lib.hid hK
      clear hK hl hd
      rw [if_pos (by rfl)]
      have F7 := Lib.hid (f7 rfl rfl)
      have F13 := Lib.hid (f13 rfl rfl)
      have F19 := Lib.hid (f19 rfl rfl)
      clear f7 f13 f19
      obtain ⟨A5, c5, e5, _⟩ := F7.out.sl
      obtain ⟨A7, c7, e7, _⟩ := F13.out.slice
      obtain ⟨A9, c9, e9, _⟩ := F19.out.sl
      rw [HLk.out] at e5
      rw [HLv.out] at e7
      rw [HLi.out] at e9
      subst e5 e7 e9
      go_wp2_with fail
      exact HK.out _ _ ⟨l0, true, l2, l3, l4, l5, l6, true, l8, l9, l10, l11, l12, true, l14, l15, l16, l17, l18, true, true, l21, l22, l23, false, l25, x41, .slice A5 LK c5, x47, .slice A7 LV c7, x53, .slice A9 LI c9, rfl, rfl, hB, f6, fun _ _ => F7.out, f12, fun _ _ => F13.out, f18, fun _ _ => F19.out, fun _ => ⟨rfl, rfl, rfl⟩, fun _ => rfl, g22, g23, fun h => (by first | (cases h; done) | (simp at h; done)), fun h => (by first | (cases h; done) | (simp at h; done))⟩
    · -- operation 21
      cases ho
      obtain ⟨l0, l1, l2, l3, l4, l5, l6, l7, l8, l9, l10, l11, l12, l13, l14, l15, l16, l17, l18, l19, l20, l21, l22, l23, l24, l25, hI⟩ := hI
      obtain ⟨x41, x42, x47, x48, x53, x54, hI⟩ := hI
      obtain ⟨e1, e2, hI⟩ := hI
      subst e1
      subst e2
      obtain ⟨hB, f6, f7, f12, f13, f18, f19, hI⟩ := hI
      obtain ⟨g20, g21, g22, g23, g24, hF⟩ := hI
      have hi : l21 = false := by simpa using hl
      have d20 : l20 = true := by simpa using hd ⟨20, .data⟩ (by simp) rfl
      have n24 : l24 = false := by cases h : l24; rfl; (have := g24 h; simp [hi] at this)
      subst hi d20 n24
      refine wpOp_step rfl (fun K hK => ?_)
      have HK := Lib.hid hK
      clear hK hl hd
      rw [if_pos (by rfl)]
      have hb' := hB rfl
      obtain ⟨d7, d13, d19⟩ := g20 rfl
      subst d7 d13 d19
      have F7 := Lib.hid (f7 rfl rfl)
      have F13 := Lib.hid (f13 rfl rfl)
      have F19 := Lib.hid (f19 rfl rfl)
      clear f7 f13 f19
      obtain ⟨A5, c5, e5, _⟩ := F7.out.sl
      obtain ⟨A7, c7, e7, _⟩ := F13.out.slice
      obtain ⟨A9, c9, e9, _⟩ := F19.out.sl
      rw [HLk.out] at e5
      rw [HLv.out] at e7
      rw [HLi.out] at e9
      subst e5 e7 e9
      have hO : NodeOwn w' W1.heap.size (joinM ⟨true, ks, vs, is⟩ key ⟨true, ls, us, js⟩) A5 c5 A7 c7 A9 c9 := by rw [HJe.out]; exact ⟨by have h := F7.out; rw [← HLk.out, strs_length] at h; exact h, by have h := F13.out; rw [← HLv.out] at h; exact h, by have h := F19.out; rw [← HLi.out, ints_length] at h; exact h⟩
      refine wp_goCall 52 _ _ (by rfl) Tryd.func52 (by kernel_rfl) (by kernel_rfl) _ (by simp [Act.eval]) (HCk.out w' A5 c5 A7 c7 A9 c9 hO.at') ?_
      rintro e w9 ⟨rfl, h9⟩
      refine ⟨_, rfl, ?_⟩
      have hba := h9.out
      exact HK.out _ _ ⟨l0, l1, l2, l3, l4, l5, l6, true, l8, l9, l10, l11, l12, true, l14, l15, l16, l17, l18, true, true, true, l22, l23, false, l25, x41, .slice A5 LK c5, x47, .slice A7 LV c7, x53, .slice A9 LI c9, rfl, rfl, fun _ => hb'.trans (hba.mono (Below.sizeE hb' HBe.out)), fun h h' => (by obtain ⟨g', q1, q2⟩ := f6 h h'; exact ⟨g', q1, (hba.block g' (Array.getElem?_eq_some_iff.1 q2).1).trans q2⟩), fun _ _ => F7.out.below hba, fun h h' => (by obtain ⟨g', q1, q2⟩ := f12 h h'; exact ⟨g', q1, (hba.block g' (Array.getElem?_eq_some_iff.1 q2).1).trans q2⟩), fun _ _ => F13.out.below hba, fun h h' => (by obtain ⟨g', q1, q2⟩ := f18 h h'; exact ⟨g', q1, (hba.block g' (Array.getElem?_eq_some_iff.1 q2).1).trans q2⟩), fun _ _ => F19.out.below hba, g20, fun _ => rfl, fun _ => rfl, fun _ => rfl, fun h => (by first | (cases h; done) | (simp at h; done)), fun h => (by first | (cases h; done) | (simp at h; done))⟩
    · -- operation 22
      cases ho
      obtain ⟨l0, l1, l2, l3, l4, l5, l6, l7, l8, l9, l10, l11, l12, l13, l14, l15, l16, l17, l18, l19, l20, l21, l22, l23, l24, l25, hI⟩ := hI
      obtain ⟨x41, x42, x47, x48, x53, x54, hI⟩ := hI
      obtain ⟨e1, e2, hI⟩ := hI
      subst e1
      subst e2
      obtain ⟨hB, f6, f7, f12, f13, f18, f19, hI⟩ := hI
      obtain ⟨g20, g21, g22, g23, g24, hF⟩ := hI
      have hi : l22 = false := by simpa using hl
      have d21 : l21 = true := by simpa using hd ⟨21, .data⟩ (by simp) rfl
      have n24 : l24 = false := by cases h : l24; rfl; (have := g24 h; simp [hi] at this)
      subst hi d21 n24
      refine wpOp_step rfl (fun K hK => ?_)
      have HK := Lib.hid hK
      clear hK hl hd
      rw [if_pos (by rfl)]
      go_wp2_with fail
      exact HK.out _ _ ⟨l0, l1, l2, l3, l4, l5, l6, l7, l8, l9, l10, l11, l12, l13, l14, l15, l16, l17, l18, l19, l20, true, true, l23, false, l25, x41, x42, x47, x48, x53, x54, rfl, rfl, hB, f6, f7, f12, f13, f18, f19, g20, g21, fun _ => rfl, fun _ => rfl, fun h => (by first | (cases h; done) | (simp at h; done)), fun h => (by first | (cases h; done) | (simp at h; done))⟩
    · -- operation 23
      cases ho
      obtain ⟨l0, l1, l2, l3, l4, l5, l6, l7, l8, l9, l10, l11, l12, l13, l14, l15, l16, l17, l18, l19, l20, l21, l22, l23, l24, l25, hI⟩ := hI
      obtain ⟨x41, x42, x47, x48, x53, x54, hI⟩ := hI
      obtain ⟨e1, e2, hI⟩ := hI
      subst e1
      subst e2
      obtain ⟨hB, f6, f7, f12, f13, f18, f19, hI⟩ := hI
      obtain ⟨g20, g21, g22, g23, g24, hF⟩ := hI
      have hi : l23 = false := by simpa using hl
      have d21 : l21 = true := by simpa using hd ⟨21, .data⟩ (by simp) rfl
      have n24 : l24 = false := by cases h : l24; rfl; (have := g24 h; simp [hi] at this)
      subst hi d21 n24
      refine wpOp_step rfl (fun K hK => ?_)
      have HK := Lib.hid hK
      clear hK hl hd
      rw [if_pos (by rfl)]
      go_wp2_with fail
      exact HK.out _ _ ⟨l0, l1, l2, l3, l4, l5, l6, l7, l8, l9, l10, l11, l12, l13, l14, l15, l16, l17, l18, l19, l20, true, l22, true, false, l25, x41, x42, x47, x48, x53, x54, rfl, rfl, hB, f6, f7, f12, f13, f18, f19, g20, g21, fun _ => rfl, fun _ => rfl, fun h => (by first | (cases h; done) | (simp at h; done)), fun h => (by first | (cases h; done) | (simp at h; done))⟩
    · -- operation 24
      cases ho
      obtain ⟨l0, l1, l2, l3, l4, l5, l6, l7, l8, l9, l10, l11, l12, l13, l14, l15, l16, l17, l18, l19, l20, l21, l22, l23, l24, l25, hI⟩ := hI
      obtain ⟨x41, x42, x47, x48, x53, x54, hI⟩ := hI
      obtain ⟨e1, e2, hI⟩ := hI
      subst e1
      subst e2
      obtain ⟨hB, f6, f7, f12, f13, f18, f19, hI⟩ := hI
      obtain ⟨g20, g21, g22, g23, g24, hF⟩ := hI
      have hi : l24 = false := by simpa using hl
      have d0 : l0 = true := by simpa using hd ⟨0, .phase⟩ (by simp) rfl
      have d1 : l1 = true := by simpa using hd ⟨1, .phase⟩ (by simp) rfl
      have d2 : l2 = true := by simpa using hd ⟨2, .phase⟩ (by simp) rfl
      have d3 : l3 = true := by simpa using hd ⟨3, .phase⟩ (by simp) rfl
      have d4 : l4 = true := by simpa using hd ⟨4, .phase⟩ (by simp) rfl
      have d5 : l5 = true := by simpa using hd ⟨5, .phase⟩ (by simp) rfl
      have d6 : l6 = true := by simpa using hd ⟨6, .phase⟩ (by simp) rfl
      have d7 : l7 = true := by simpa using hd ⟨7, .phase⟩ (by simp) rfl
      have d8 : l8 = true := by simpa using hd ⟨8, .phase⟩ (by simp) rfl
      have d9 : l9 = true := by simpa using hd ⟨9, .phase⟩ (by simp) rfl
      have d10 : l10 = true := by simpa using hd ⟨10, .phase⟩ (by simp) rfl
      have d11 : l11 = true := by simpa using hd ⟨11, .phase⟩ (by simp) rfl
      have d12 : l12 = true := by simpa using hd ⟨12, .phase⟩ (by simp) rfl
      have d13 : l13 = true := by simpa using hd ⟨13, .phase⟩ (by simp) rfl
      have d14 : l14 = true := by simpa using hd ⟨14, .phase⟩ (by simp) rfl
      have d15 : l15 = true := by simpa using hd ⟨15, .phase⟩ (by simp) rfl
      have d16 : l16 = true := by simpa using hd ⟨16, .phase⟩ (by simp) rfl
      have d17 : l17 = true := by simpa using hd ⟨17, .phase⟩ (by simp) rfl
      have d18 : l18 = true := by simpa using hd ⟨18, .phase⟩ (by simp) rfl
      have d19 : l19 = true := by simpa using hd ⟨19, .phase⟩ (by simp) rfl
      have d20 : l20 = true := by simpa using hd ⟨20, .phase⟩ (by simp) rfl
      have d21 : l21 = true := by simpa using hd ⟨21, .phase⟩ (by simp) rfl
      have d22 : l22 = true := by simpa using hd ⟨22, .data⟩ (by simp) rfl
      have d23 : l23 = true := by simpa using hd ⟨23, .phase⟩ (by simp) rfl
      subst hi d0 d1 d2 d3 d4 d5 d6 d7 d8 d9 d10 d11 d12 d13 d14 d15 d16 d17 d18 d19 d20 d21 d22 d23
      refine wpOp_step rfl (fun K hK => ?_)
      have HK := Lib.hid hK
      clear hK hl hd
      rw [if_pos (by rfl)]
      have hb' := hB rfl
      have F7 := Lib.hid (f7 rfl rfl)
      have F13 := Lib.hid (f13 rfl rfl)
      have F19 := Lib.hid (f19 rfl rfl)
      clear f7 f13 f19 hB
      obtain ⟨A5, c5, e5, _⟩ := F7.out.sl
      obtain ⟨A7, c7, e7, _⟩ := F13.out.slice
      obtain ⟨A9, c9, e9, _⟩ := F19.out.sl
      rw [HLk.out] at e5
      rw [HLv.out] at e7
      rw [HLi.out] at e9
      subst e5 e7 e9
      have hO : NodeOwn w' W1.heap.size (joinM ⟨true, ks, vs, is⟩ key ⟨true, ls, us, js⟩) A5 c5 A7 c7 A9 c9 := by rw [HJe.out]; exact ⟨by have h := F7.out; rw [← HLk.out, strs_length] at h; exact h, by have h := F13.out; rw [← HLv.out] at h; exact h, by have h := F19.out; rw [← HLi.out, ints_length] at h; exact h⟩
      have hz : w'.heap[r + 1 + 1]? = some (.cells #[.bool false, .slice none 0 0, .slice none 0 0, .slice none 0 0] 28 (0, 0)) := (hb'.block (r + 1 + 1) (by omega)).trans HZs.out
      refine wp_storeRow 28 (.tmp 6) (.tmp 57) rfl (r + 1 + 1) (by rfl) [.bool true, .slice A5 LK c5, .slice A7 LV c7, .slice A9 LI c9] [.bool false, .slice none 0 0, .slice none 0 0, .slice none 0 0] (by rfl) (by kernel_rfl) rfl (by intro u hu; simp only [List.mem_cons, List.mem_nil_iff, or_false] at hu; rcases hu with rfl | rfl | rfl | rfl <;> rfl) hz ?_
      intro w9 h9 hk9
      have hO9 := hO.keptN hk9 (fun k cs t fz hS hc => by rw [show k = r + 1 + 1 from hS, hz] at hc; injection hc with hc; injection hc with _ h4 _; exact h4.symm)
      have hb9 : Below r w w9 := (HBs.out.trans (hb'.mono (by omega))).trans (hk9.below (by have := (Below.sizeE hb' HBe.out); omega) (fun k hk e => by have e' : k = r + 1 + 1 := e; omega))
      exact HK.out _ _ ⟨true, true, true, true, true, true, true, true, true, true, true, true, true, true, true, true, true, true, true, true, true, true, true, true, true, l25, x41, .slice A5 LK c5, x47, .slice A7 LV c7, x53, .slice A9 LI c9, rfl, rfl, fun h => (by first | (cases h; done) | (simp at h; done)), fun _ h => (by first | (cases h; done) | (simp at h; done)), fun _ h => (by first | (cases h; done) | (simp at h; done)), fun _ h => (by first | (cases h; done) | (simp at h; done)), fun _ h => (by first | (cases h; done) | (simp at h; done)), fun _ h => (by first | (cases h; done) | (simp at h; done)), fun _ h => (by first | (cases h; done) | (simp at h; done)), fun _ => ⟨rfl, rfl, rfl⟩, fun _ => rfl, fun _ => rfl, fun _ => rfl, fun _ => ⟨rfl, rfl, rfl, rfl, rfl, rfl, rfl, rfl, rfl, rfl, rfl, rfl, rfl, rfl, rfl, rfl, rfl, rfl, rfl, rfl, rfl, rfl, rfl, rfl⟩, fun _ => ⟨A5, c5, A7, c7, A9, c9, rfl, rfl, rfl, h9.out, hO9, hb9⟩⟩
    · -- operation 25
      cases ho
      obtain ⟨l0, l1, l2, l3, l4, l5, l6, l7, l8, l9, l10, l11, l12, l13, l14, l15, l16, l17, l18, l19, l20, l21, l22, l23, l24, l25, hI⟩ := hI
      obtain ⟨x41, x42, x47, x48, x53, x54, hI⟩ := hI
      obtain ⟨e1, e2, hI⟩ := hI
      subst e1
      subst e2
      obtain ⟨hB, f6, f7, f12, f13, f18, f19, hI⟩ := hI
      obtain ⟨g20, g21, g22, g23, g24, hF⟩ := hI
      have hi : l25 = false := by simpa using hl
      have d23 : l23 = true := by simpa using hd ⟨23, .data⟩ (by simp) rfl
      have d24 : l24 = true := by simpa using hd ⟨24, .chain⟩ (by simp) rfl
      obtain ⟨e0, e1, e2, e3, e4, e5, e6, e7, e8, e9, e10, e11, e12, e13, e14, e15, e16, e17, e18, e19, e20, e21, e22, e23⟩ := g24 d24
      clear d23
      subst hi d24 e0 e1 e2 e3 e4 e5 e6 e7 e8 e9 e10 e11 e12 e13 e14 e15 e16 e17 e18 e19 e20 e21 e22 e23
      refine wpOp_step rfl (fun K hK => ?_)
      have HK := Lib.hid hK
      clear hK hl hd
      rw [if_pos (by rfl)]
      go_wp2_with fail
      exact HK.out _ _ ⟨true, true, true, true, true, true, true, true, true, true, true, true, true, true, true, true, true, true, true, true, true, true, true, true, true, true, x41, x42, x47, x48, x53, x54, rfl, rfl, hB, f6, f7, f12, f13, f18, f19, fun _ => ⟨rfl, rfl, rfl⟩, fun _ => rfl, fun _ => rfl, fun _ => rfl, fun _ => ⟨rfl, rfl, rfl, rfl, rfl, rfl, rfl, rfl, rfl, rfl, rfl, rfl, rfl, rfl, rfl, rfl, rfl, rfl, rfl, rfl, rfl, rfl, rfl, rfl⟩, hF⟩
    · exact absurd ho (by simp)
  · intro listed a w' hr hI
    obtain ⟨l0, l1, l2, l3, l4, l5, l6, l7, l8, l9, l10, l11, l12, l13, l14, l15, l16, l17, l18, l19, l20, l21, l22, l23, l24, l25, hI⟩ := hI
    obtain ⟨x41, x42, x47, x48, x53, x54, hI⟩ := hI
    obtain ⟨e1, e2, hI⟩ := hI
    subst e1
    subst e2
    obtain ⟨hB, f6, f7, f12, f13, f18, f19, hI⟩ := hI
    obtain ⟨g20, g21, g22, g23, g24, hF⟩ := hI
    have hall := ready_nil_all (by kernel_rfl) rfl hr
    have e0 : l0 = true := by simpa using hall 0
    have e1 : l1 = true := by simpa using hall 1
    have e2 : l2 = true := by simpa using hall 2
    have e3 : l3 = true := by simpa using hall 3
    have e4 : l4 = true := by simpa using hall 4
    have e5 : l5 = true := by simpa using hall 5
    have e6 : l6 = true := by simpa using hall 6
    have e7 : l7 = true := by simpa using hall 7
    have e8 : l8 = true := by simpa using hall 8
    have e9 : l9 = true := by simpa using hall 9
    have e10 : l10 = true := by simpa using hall 10
    have e11 : l11 = true := by simpa using hall 11
    have e12 : l12 = true := by simpa using hall 12
    have e13 : l13 = true := by simpa using hall 13
    have e14 : l14 = true := by simpa using hall 14
    have e15 : l15 = true := by simpa using hall 15
    have e16 : l16 = true := by simpa using hall 16
    have e17 : l17 = true := by simpa using hall 17
    have e18 : l18 = true := by simpa using hall 18
    have e19 : l19 = true := by simpa using hall 19
    have e20 : l20 = true := by simpa using hall 20
    have e21 : l21 = true := by simpa using hall 21
    have e22 : l22 = true := by simpa using hall 22
    have e23 : l23 = true := by simpa using hall 23
    have e24 : l24 = true := by simpa using hall 24
    have e25 : l25 = true := by simpa using hall 25
    clear hall hr
    subst e0 e1 e2 e3 e4 e5 e6 e7 e8 e9 e10 e11 e12 e13 e14 e15 e16 e17 e18 e19 e20 e21 e22 e23 e24 e25
    obtain ⟨A5, c5, A7, c7, A9, c9, rfl, rfl, rfl, q1, q2, q3⟩ := hF rfl
    clear hB f6 f7 f12 f13 f18 f19 g20 g21 g22 g23 g24 hF
    have Q1 := Lib.hid q1
    have Q2 := Lib.hid q2
    have Q3 := Lib.hid q3
    clear q1 q2 q3
    go_wp2_with fail
    simp only [cond_true]
    refine bodyPost_ret_by (results_cellTmp rfl _ rfl rfl (run_retNode Q1.out)) rfl ?_
    refine ⟨A5, c5, A7, c7, A9, c9, ?_, Q2.out.base' (by rw [HS1.out, HR0.out]; omega), by rw [HR0.out]; exact Q3.out⟩
    rw [← HLk.out, ← HLv.out, ← HLi.out, strs_length, ints_length]
    rfl
end Go.Proofs.YtibmlgkakeakcaaDoor
