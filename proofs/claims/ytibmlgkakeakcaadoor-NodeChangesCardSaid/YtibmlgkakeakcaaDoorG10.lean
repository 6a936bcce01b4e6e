/- Where Insert and Remove refuse (printed by wip/gen/refusegen.py). -/
import Derived.Test.YtibmlgkakeakcaaDoorG6
import Derived.Test.YtibmlgkakeakcaaDoorG3
set_option linter.unusedSimpArgs false
set_option linter.unusedVariables false
namespace Go.Proofs.YtibmlgkakeakcaaDoor
open Go.RowKit Go.Proofs.YtibmlgkakeakcaaDoor.Crc
theorem sizeNr : (Tryd.prog.info? 26).map (·.size) = some 4 := by kernel_rfl
theorem run_retNodeR {w : World} {r : Nat} {a b c d : Value} (h : w.heap[r]? = some (.cells #[a, b, c, d] 26 (0, 0))) : (loadVar 26 ⟨r, 0, none⟩).run Tryd.prog w = .ok (.agg #[a, b, c, d]) w :=
  run_loadVar_row _ _ _ 26 _ (0, 0) _ h Tryd.underlying26 rfl sizeNr
set_option maxRecDepth 10000 in
set_option maxHeartbeats 2000000 in
theorem InsertN_form {w : World} {n : NodeM} {kA : Option Addr} {kc : Nat} {vA : Option Addr} {vc : Nat} {iA : Option Addr} {ic : Nat} (h : NodeAt w n kA kc vA vc iA ic) (i : Int) (y : ByteArray) (dA : Option Addr) (dn dc : Nat) (kid : Int) (hr : ¬ RightM n) :
    Calls Tryd.prog 22 #[.agg #[.bool n.leaf, .slice kA n.keys.length kc, .slice vA n.vals.length vc, .slice iA n.kids.length ic], .int .i64 i, .string y, .slice dA dn dc, .int .i64 kid] w fun e w' => e = .returned (.tuple #[.agg #[.bool false, .slice none 0 0, .slice none 0 0, .slice none 0 0], .int .i64 22]) ∧ Hid (Below w.heap.size w w') := by
  obtain ⟨h1, h2, h3⟩ := node2_boxT w (.bool n.leaf) (.slice kA n.keys.length kc) (.slice vA n.vals.length vc) (.slice iA n.kids.length ic) (.bool false) (.slice none 0 0) (.slice none 0 0) (.slice none 0 0) 28
  have HRt := Lib.hid (Right_calls (h.below h1))
  rw [rightB_false hr] at HRt
  obtain ⟨nk, hnk⟩ : ∃ k, n.keys.length = k := ⟨_, rfl⟩
  obtain ⟨nv, hnv⟩ : ∃ k, n.vals.length = k := ⟨_, rfl⟩
  obtain ⟨ni, hni⟩ : ∃ k, n.kids.length = k := ⟨_, rfl⟩
  obtain ⟨lf, hlf⟩ : ∃ k, n.leaf = k := ⟨_, rfl⟩
  rw [hnk, hnv, hni, hlf] at h1 h2 h3 HRt ⊢
  obtain ⟨W1, hW1⟩ : ∃ x, (w.alloc (.cells #[.bool lf, .slice kA nk kc, .slice vA nv vc, .slice iA ni ic] 28)).alloc (.cells #[.bool false, .slice none 0 0, .slice none 0 0, .slice none 0 0] 28) = x := ⟨_, rfl⟩
  rw [hW1] at h1 h2 h3
  have HB := Lib.hid h1
  have HX := Lib.hid h2
  have HY := Lib.hid h3
  have HW1 := Lib.hid hW1
  obtain ⟨r, hr0⟩ : ∃ r, w.heap.size = r := ⟨_, rfl⟩
  have HR0 := Lib.hid hr0
  rw [hr0] at HX HY
  clear h1 h2 h3 hW1 h hr hnk hnv hni hlf hr0
  go_enter Tryd.func22, Tryd.ntmps22
  go_wp2_with (go_at_call 14; (with_reducible refine HRt.out.mono ?_); rintro e w2 ⟨rfl, hb2⟩; refine park ?_; intro q hq)
  rw [HW1.out] at hb2
  have hx2 := (hb2.block r (Array.getElem?_eq_some_iff.1 HX.out).1).trans HX.out
  have hy2 := (hb2.block (r + 1) (Array.getElem?_eq_some_iff.1 HY.out).1).trans HY.out
  have HB2 : Hid (Below r w w2) := by rw [← HR0.out]; exact HB.out.trans (hb2.mono HB.out.size)
  obtain ⟨x0, x1, x2, x3⟩ := row4_cells hx2
  obtain ⟨y0, y1, y2, y3⟩ := row4_cells hy2
  obtain ⟨f0, f1, f2, f3⟩ := row4_frozen hy2
  have HY2 := Lib.hid hy2
  clear hx2 hy2 hb2 HRt
  refine hq.out ?_
  clear hq
  simp only [HR0.out]
  go_wp2_with fail
  obtain ⟨g1, g2⟩ := row4_put HY2.out (.bool false) (.slice none 0 0) (.slice none 0 0) (.slice none 0 0)
  refine bodyPost_ret_by (results_cellTmp rfl _ rfl rfl (run_retNode g1)) rfl ?_
  refine ⟨rfl, ?_⟩
  have hfin := HB2.out.trans (g2.below (by have := (Array.getElem?_eq_some_iff.1 HY2.out).1; omega) (fun k hk e => by have e' : k = r + 1 := e; omega))
  exact (show Below w.heap.size w _ from by rw [HR0.out]; exact hfin)
set_option maxRecDepth 10000 in
set_option maxHeartbeats 2000000 in
theorem InsertN_none {w : World} {n : NodeM} {kA : Option Addr} {kc : Nat} {vA : Option Addr} {vc : Nat} {iA : Option Addr} {ic : Nat} (h : NodeAt w n kA kc vA vc iA ic) (i : Int) (y : ByteArray) (dA : Option Addr) (dn dc : Nat) (kid : Int) (hr : RightM n) (hi : i < 0 ∨ (n.keys.length : Int) < i) :
    Calls Tryd.prog 22 #[.agg #[.bool n.leaf, .slice kA n.keys.length kc, .slice vA n.vals.length vc, .slice iA n.kids.length ic], .int .i64 i, .string y, .slice dA dn dc, .int .i64 kid] w fun e w' => e = .returned (.tuple #[.agg #[.bool false, .slice none 0 0, .slice none 0 0, .slice none 0 0], .int .i64 40]) ∧ Hid (Below w.heap.size w w') := by
  obtain ⟨h1, h2, h3⟩ := node2_boxT w (.bool n.leaf) (.slice kA n.keys.length kc) (.slice vA n.vals.length vc) (.slice iA n.kids.length ic) (.bool false) (.slice none 0 0) (.slice none 0 0) (.slice none 0 0) 28
  have HRt := Lib.hid (Right_calls (h.below h1))
  rw [rightB_true hr] at HRt
  obtain ⟨nk, hnk⟩ : ∃ k, n.keys.length = k := ⟨_, rfl⟩
  obtain ⟨nv, hnv⟩ : ∃ k, n.vals.length = k := ⟨_, rfl⟩
  obtain ⟨ni, hni⟩ : ∃ k, n.kids.length = k := ⟨_, rfl⟩
  obtain ⟨lf, hlf⟩ : ∃ k, n.leaf = k := ⟨_, rfl⟩
  rw [hnk, hnv, hni, hlf] at h1 h2 h3 HRt ⊢
  rw [hnk] at hi
  obtain ⟨W1, hW1⟩ : ∃ x, (w.alloc (.cells #[.bool lf, .slice kA nk kc, .slice vA nv vc, .slice iA ni ic] 28)).alloc (.cells #[.bool false, .slice none 0 0, .slice none 0 0, .slice none 0 0] 28) = x := ⟨_, rfl⟩
  rw [hW1] at h1 h2 h3
  have HB := Lib.hid h1
  have HX := Lib.hid h2
  have HY := Lib.hid h3
  have HW1 := Lib.hid hW1
  obtain ⟨r, hr0⟩ : ∃ r, w.heap.size = r := ⟨_, rfl⟩
  have HR0 := Lib.hid hr0
  rw [hr0] at HX HY
  clear h1 h2 h3 hW1 h hr hnk hnv hni hlf hr0
  go_enter Tryd.func22, Tryd.ntmps22
  go_wp2_with (go_at_call 14; (with_reducible refine HRt.out.mono ?_); rintro e w2 ⟨rfl, hb2⟩; refine park ?_; intro q hq)
  rw [HW1.out] at hb2
  have hx2 := (hb2.block r (Array.getElem?_eq_some_iff.1 HX.out).1).trans HX.out
  have hy2 := (hb2.block (r + 1) (Array.getElem?_eq_some_iff.1 HY.out).1).trans HY.out
  have HB2 : Hid (Below r w w2) := by rw [← HR0.out]; exact HB.out.trans (hb2.mono HB.out.size)
  obtain ⟨x0, x1, x2, x3⟩ := row4_cells hx2
  obtain ⟨y0, y1, y2, y3⟩ := row4_cells hy2
  obtain ⟨f0, f1, f2, f3⟩ := row4_frozen hy2
  have HY2 := Lib.hid hy2
  clear hx2 hy2 hb2 HRt
  refine hq.out ?_
  clear hq
  simp only [HR0.out]
  by_cases h0 : i < 0
  · have d1 : decide (i < 0) = true := decide_eq_true h0
    clear hi
    go_wp2_with fail
    obtain ⟨g1, g2⟩ := row4_put HY2.out (.bool false) (.slice none 0 0) (.slice none 0 0) (.slice none 0 0)
    refine bodyPost_ret_by (results_cellTmp rfl _ rfl rfl (run_retNode g1)) rfl ?_
    refine ⟨rfl, ?_⟩
    have hfin := HB2.out.trans (g2.below (by have := (Array.getElem?_eq_some_iff.1 HY2.out).1; omega) (fun k hk e => by have e' : k = r + 1 := e; omega))
    exact (show Below w.heap.size w _ from by rw [HR0.out]; exact hfin)
  · have d1 : decide (i < 0) = false := decide_eq_false h0
    have h9 : (nk : Int) < i := by omega
    have d2 : decide ((nk : Int) < i) = true := decide_eq_true h9
    clear hi
    go_wp2_with fail
    obtain ⟨g1, g2⟩ := row4_put HY2.out (.bool false) (.slice none 0 0) (.slice none 0 0) (.slice none 0 0)
    refine bodyPost_ret_by (results_cellTmp rfl _ rfl rfl (run_retNode g1)) rfl ?_
    refine ⟨rfl, ?_⟩
    have hfin := HB2.out.trans (g2.below (by have := (Array.getElem?_eq_some_iff.1 HY2.out).1; omega) (fun k hk e => by have e' : k = r + 1 := e; omega))
    exact (show Below w.heap.size w _ from by rw [HR0.out]; exact hfin)
set_option maxRecDepth 10000 in
set_option maxHeartbeats 2000000 in
theorem RemoveN_form {w : World} {n : NodeM} {kA : Option Addr} {kc : Nat} {vA : Option Addr} {vc : Nat} {iA : Option Addr} {ic : Nat} (h : NodeAt w n kA kc vA vc iA ic) (i : Int) (hr : ¬ RightM n) :
    Calls Tryd.prog 23 #[.agg #[.bool n.leaf, .slice kA n.keys.length kc, .slice vA n.vals.length vc, .slice iA n.kids.length ic], .int .i64 i] w fun e w' => e = .returned (.tuple #[.agg #[.bool false, .slice none 0 0, .slice none 0 0, .slice none 0 0], .int .i64 22]) ∧ Hid (Below w.heap.size w w') := by
  obtain ⟨h1, h2, h3⟩ := node2_boxT w (.bool n.leaf) (.slice kA n.keys.length kc) (.slice vA n.vals.length vc) (.slice iA n.kids.length ic) (.bool false) (.slice none 0 0) (.slice none 0 0) (.slice none 0 0) 28
  have HRt := Lib.hid (Right_calls (h.below h1))
  rw [rightB_false hr] at HRt
  obtain ⟨nk, hnk⟩ : ∃ k, n.keys.length = k := ⟨_, rfl⟩
  obtain ⟨nv, hnv⟩ : ∃ k, n.vals.length = k := ⟨_, rfl⟩
  obtain ⟨ni, hni⟩ : ∃ k, n.kids.length = k := ⟨_, rfl⟩
  obtain ⟨lf, hlf⟩ : ∃ k, n.leaf = k := ⟨_, rfl⟩
  rw [hnk, hnv, hni, hlf] at h1 h2 h3 HRt ⊢
  obtain ⟨W1, hW1⟩ : ∃ x, (w.alloc (.cells #[.bool lf, .slice kA nk kc, .slice vA nv vc, .slice iA ni ic] 28)).alloc (.cells #[.bool false, .slice none 0 0, .slice none 0 0, .slice none 0 0] 28) = x := ⟨_, rfl⟩
  rw [hW1] at h1 h2 h3
  have HB := Lib.hid h1
  have HX := Lib.hid h2
  have HY := Lib.hid h3
  have HW1 := Lib.hid hW1
  obtain ⟨r, hr0⟩ : ∃ r, w.heap.size = r := ⟨_, rfl⟩
  have HR0 := Lib.hid hr0
  rw [hr0] at HX HY
  clear h1 h2 h3 hW1 h hr hnk hnv hni hlf hr0
  go_enter Tryd.func23, Tryd.ntmps23
  go_wp2_with (go_at_call 14; (with_reducible refine HRt.out.mono ?_); rintro e w2 ⟨rfl, hb2⟩; refine park ?_; intro q hq)
  rw [HW1.out] at hb2
  have hx2 := (hb2.block r (Array.getElem?_eq_some_iff.1 HX.out).1).trans HX.out
  have hy2 := (hb2.block (r + 1) (Array.getElem?_eq_some_iff.1 HY.out).1).trans HY.out
  have HB2 : Hid (Below r w w2) := by rw [← HR0.out]; exact HB.out.trans (hb2.mono HB.out.size)
  obtain ⟨x0, x1, x2, x3⟩ := row4_cells hx2
  obtain ⟨y0, y1, y2, y3⟩ := row4_cells hy2
  obtain ⟨f0, f1, f2, f3⟩ := row4_frozen hy2
  have HY2 := Lib.hid hy2
  clear hx2 hy2 hb2 HRt
  refine hq.out ?_
  clear hq
  simp only [HR0.out]
  go_wp2_with fail
  obtain ⟨g1, g2⟩ := row4_put HY2.out (.bool false) (.slice none 0 0) (.slice none 0 0) (.slice none 0 0)
  refine bodyPost_ret_by (results_cellTmp rfl _ rfl rfl (run_retNode g1)) rfl ?_
  refine ⟨rfl, ?_⟩
  have hfin := HB2.out.trans (g2.below (by have := (Array.getElem?_eq_some_iff.1 HY2.out).1; omega) (fun k hk e => by have e' : k = r + 1 := e; omega))
  exact (show Below w.heap.size w _ from by rw [HR0.out]; exact hfin)
set_option maxRecDepth 10000 in
set_option maxHeartbeats 2000000 in
theorem RemoveN_none {w : World} {n : NodeM} {kA : Option Addr} {kc : Nat} {vA : Option Addr} {vc : Nat} {iA : Option Addr} {ic : Nat} (h : NodeAt w n kA kc vA vc iA ic) (i : Int) (hr : RightM n) (hi : i < 0 ∨ (n.keys.length : Int) ≤ i) :
    Calls Tryd.prog 23 #[.agg #[.bool n.leaf, .slice kA n.keys.length kc, .slice vA n.vals.length vc, .slice iA n.kids.length ic], .int .i64 i] w fun e w' => e = .returned (.tuple #[.agg #[.bool false, .slice none 0 0, .slice none 0 0, .slice none 0 0], .int .i64 40]) ∧ Hid (Below w.heap.size w w') := by
  obtain ⟨h1, h2, h3⟩ := node2_boxT w (.bool n.leaf) (.slice kA n.keys.length kc) (.slice vA n.vals.length vc) (.slice iA n.kids.length ic) (.bool false) (.slice none 0 0) (.slice none 0 0) (.slice none 0 0) 28
  have HRt := Lib.hid (Right_calls (h.below h1))
  rw [rightB_true hr] at HRt
  obtain ⟨nk, hnk⟩ : ∃ k, n.keys.length = k := ⟨_, rfl⟩
  obtain ⟨nv, hnv⟩ : ∃ k, n.vals.length = k := ⟨_, rfl⟩
  obtain ⟨ni, hni⟩ : ∃ k, n.kids.length = k := ⟨_, rfl⟩
  obtain ⟨lf, hlf⟩ : ∃ k, n.leaf = k := ⟨_, rfl⟩
  rw [hnk, hnv, hni, hlf] at h1 h2 h3 HRt ⊢
  rw [hnk] at hi
  obtain ⟨W1, hW1⟩ : ∃ x, (w.alloc (.cells #[.bool lf, .slice kA nk kc, .slice vA nv vc, .slice iA ni ic] 28)).alloc (.cells #[.bool false, .slice none 0 0, .slice none 0 0, .slice none 0 0] 28) = x := ⟨_, rfl⟩
  rw [hW1] at h1 h2 h3
  have HB := Lib.hid h1
  have HX := Lib.hid h2
  have HY := Lib.hid h3
  have HW1 := Lib.hid hW1
  obtain ⟨r, hr0⟩ : ∃ r, w.heap.size = r := ⟨_, rfl⟩
  have HR0 := Lib.hid hr0
  rw [hr0] at HX HY
  clear h1 h2 h3 hW1 h hr hnk hnv hni hlf hr0
  go_enter Tryd.func23, Tryd.ntmps23
  go_wp2_with (go_at_call 14; (with_reducible refine HRt.out.mono ?_); rintro e w2 ⟨rfl, hb2⟩; refine park ?_; intro q hq)
  rw [HW1.out] at hb2
  have hx2 := (hb2.block r (Array.getElem?_eq_some_iff.1 HX.out).1).trans HX.out
  have hy2 := (hb2.block (r + 1) (Array.getElem?_eq_some_iff.1 HY.out).1).trans HY.out
  have HB2 : Hid (Below r w w2) := by rw [← HR0.out]; exact HB.out.trans (hb2.mono HB.out.size)
  obtain ⟨x0, x1, x2, x3⟩ := row4_cells hx2
  obtain ⟨y0, y1, y2, y3⟩ := row4_cells hy2
  obtain ⟨f0, f1, f2, f3⟩ := row4_frozen hy2
  have HY2 := Lib.hid hy2
  clear hx2 hy2 hb2 HRt
  refine hq.out ?_
  clear hq
  simp only [HR0.out]
  by_cases h0 : i < 0
  · have d1 : decide (i < 0) = true := decide_eq_true h0
    clear hi
    go_wp2_with fail
    obtain ⟨g1, g2⟩ := row4_put HY2.out (.bool false) (.slice none 0 0) (.slice none 0 0) (.slice none 0 0)
    refine bodyPost_ret_by (results_cellTmp rfl _ rfl rfl (run_retNode g1)) rfl ?_
    refine ⟨rfl, ?_⟩
    have hfin := HB2.out.trans (g2.below (by have := (Array.getElem?_eq_some_iff.1 HY2.out).1; omega) (fun k hk e => by have e' : k = r + 1 := e; omega))
    exact (show Below w.heap.size w _ from by rw [HR0.out]; exact hfin)
  · have d1 : decide (i < 0) = false := decide_eq_false h0
    have h9 : (nk : Int) ≤ i := by omega
    have d2 : decide ((nk : Int) ≤ i) = true := decide_eq_true h9
    clear hi
    go_wp2_with fail
    obtain ⟨g1, g2⟩ := row4_put HY2.out (.bool false) (.slice none 0 0) (.slice none 0 0) (.slice none 0 0)
    refine bodyPost_ret_by (results_cellTmp rfl _ rfl rfl (run_retNode g1)) rfl ?_
    refine ⟨rfl, ?_⟩
    have hfin := HB2.out.trans (g2.below (by have := (Array.getElem?_eq_some_iff.1 HY2.out).1; omega) (fun k hk e => by have e' : k = r + 1 := e; omega))
    exact (show Below w.heap.size w _ from by rw [HR0.out]; exact hfin)
set_option maxRecDepth 10000 in
set_option maxHeartbeats 2000000 in
theorem InsertRf_form {w : World} {n : NodeM} {kA : Option Addr} {kc : Nat} {vA : Option Addr} {vc : Nat} {iA : Option Addr} {ic : Nat} (h : NodeAt w n kA kc vA vc iA ic) (i : Int) (y : ByteArray) (dA : Option Addr) (dn dc : Nat) (kid : Int) (hr : ¬ RightM n) :
    Calls Tryd.prog 26 #[.agg #[.bool n.leaf, .slice kA n.keys.length kc, .slice vA n.vals.length vc, .slice iA n.kids.length ic], .int .i64 i, .string y, .slice dA dn dc, .int .i64 kid] w fun e w' => e = .returned (.tuple #[.agg #[.bool false, .slice none 0 0, .slice none 0 0, .slice none 0 0], .int .i64 22]) ∧ Hid (Below w.heap.size w w') := by
  obtain ⟨h1, h2, h3⟩ := node2_boxT w (.bool n.leaf) (.slice kA n.keys.length kc) (.slice vA n.vals.length vc) (.slice iA n.kids.length ic) (.bool false) (.slice none 0 0) (.slice none 0 0) (.slice none 0 0) 26
  have HRt := Lib.hid (refRight_calls (h.below h1))
  rw [rightB_false hr] at HRt
  obtain ⟨nk, hnk⟩ : ∃ k, n.keys.length = k := ⟨_, rfl⟩
  obtain ⟨nv, hnv⟩ : ∃ k, n.vals.length = k := ⟨_, rfl⟩
  obtain ⟨ni, hni⟩ : ∃ k, n.kids.length = k := ⟨_, rfl⟩
  obtain ⟨lf, hlf⟩ : ∃ k, n.leaf = k := ⟨_, rfl⟩
  rw [hnk, hnv, hni, hlf] at h1 h2 h3 HRt ⊢
  obtain ⟨W1, hW1⟩ : ∃ x, (w.alloc (.cells #[.bool lf, .slice kA nk kc, .slice vA nv vc, .slice iA ni ic] 26)).alloc (.cells #[.bool false, .slice none 0 0, .slice none 0 0, .slice none 0 0] 26) = x := ⟨_, rfl⟩
  rw [hW1] at h1 h2 h3
  have HB := Lib.hid h1
  have HX := Lib.hid h2
  have HY := Lib.hid h3
  have HW1 := Lib.hid hW1
  obtain ⟨r, hr0⟩ : ∃ r, w.heap.size = r := ⟨_, rfl⟩
  have HR0 := Lib.hid hr0
  rw [hr0] at HX HY
  clear h1 h2 h3 hW1 h hr hnk hnv hni hlf hr0
  go_enter Tryd.func26, Tryd.ntmps26
  go_wp2_with (go_at_call 15; (with_reducible refine HRt.out.mono ?_); rintro e w2 ⟨rfl, hb2⟩; refine park ?_; intro q hq)
  rw [HW1.out] at hb2
  have hx2 := (hb2.block r (Array.getElem?_eq_some_iff.1 HX.out).1).trans HX.out
  have hy2 := (hb2.block (r + 1) (Array.getElem?_eq_some_iff.1 HY.out).1).trans HY.out
  have HB2 : Hid (Below r w w2) := by rw [← HR0.out]; exact HB.out.trans (hb2.mono HB.out.size)
  obtain ⟨x0, x1, x2, x3⟩ := row4_cells hx2
  obtain ⟨y0, y1, y2, y3⟩ := row4_cells hy2
  obtain ⟨f0, f1, f2, f3⟩ := row4_frozen hy2
  have HY2 := Lib.hid hy2
  clear hx2 hy2 hb2 HRt
  refine hq.out ?_
  clear hq
  simp only [HR0.out]
  go_wp2_with fail
  obtain ⟨g1, g2⟩ := row4_put HY2.out (.bool false) (.slice none 0 0) (.slice none 0 0) (.slice none 0 0)
  refine bodyPost_ret_by (results_cellTmp rfl _ rfl rfl (run_retNodeR g1)) rfl ?_
  refine ⟨rfl, ?_⟩
  have hfin := HB2.out.trans (g2.below (by have := (Array.getElem?_eq_some_iff.1 HY2.out).1; omega) (fun k hk e => by have e' : k = r + 1 := e; omega))
  exact (show Below w.heap.size w _ from by rw [HR0.out]; exact hfin)
set_option maxRecDepth 10000 in
set_option maxHeartbeats 2000000 in
theorem InsertRf_none {w : World} {n : NodeM} {kA : Option Addr} {kc : Nat} {vA : Option Addr} {vc : Nat} {iA : Option Addr} {ic : Nat} (h : NodeAt w n kA kc vA vc iA ic) (i : Int) (y : ByteArray) (dA : Option Addr) (dn dc : Nat) (kid : Int) (hr : RightM n) (hi : i < 0 ∨ (n.keys.length : Int) < i) :
    Calls Tryd.prog 26 #[.agg #[.bool n.leaf, .slice kA n.keys.length kc, .slice vA n.vals.length vc, .slice iA n.kids.length ic], .int .i64 i, .string y, .slice dA dn dc, .int .i64 kid] w fun e w' => e = .returned (.tuple #[.agg #[.bool false, .slice none 0 0, .slice none 0 0, .slice none 0 0], .int .i64 40]) ∧ Hid (Below w.heap.size w w') := by
  obtain ⟨h1, h2, h3⟩ := node2_boxT w (.bool n.leaf) (.slice kA n.keys.length kc) (.slice vA n.vals.length vc) (.slice iA n.kids.length ic) (.bool false) (.slice none 0 0) (.slice none 0 0) (.slice none 0 0) 26
  have HRt := Lib.hid (refRight_calls (h.below h1))
  rw [rightB_true hr] at HRt
  obtain ⟨nk, hnk⟩ : ∃ k, n.keys.length = k := ⟨_, rfl⟩
  obtain ⟨nv, hnv⟩ : ∃ k, n.vals.length = k := ⟨_, rfl⟩
  obtain ⟨ni, hni⟩ : ∃ k, n.kids.length = k := ⟨_, rfl⟩
  obtain ⟨lf, hlf⟩ : ∃ k, n.leaf = k := ⟨_, rfl⟩
  rw [hnk, hnv, hni, hlf] at h1 h2 h3 HRt ⊢
  rw [hnk] at hi
  obtain ⟨W1, hW1⟩ : ∃ x, (w.alloc (.cells #[.bool lf, .slice kA nk kc, .slice vA nv vc, .slice iA ni ic] 26)).alloc (.cells #[.bool false, .slice none 0 0, .slice none 0 0, .slice none 0 0] 26) = x := ⟨_, rfl⟩
  rw [hW1] at h1 h2 h3
  have HB := Lib.hid h1
  have HX := Lib.hid h2
  have HY := Lib.hid h3
  have HW1 := Lib.hid hW1
  obtain ⟨r, hr0⟩ : ∃ r, w.heap.size = r := ⟨_, rfl⟩
  have HR0 := Lib.hid hr0
  rw [hr0] at HX HY
  clear h1 h2 h3 hW1 h hr hnk hnv hni hlf hr0
  go_enter Tryd.func26, Tryd.ntmps26
  go_wp2_with (go_at_call 15; (with_reducible refine HRt.out.mono ?_); rintro e w2 ⟨rfl, hb2⟩; refine park ?_; intro q hq)
  rw [HW1.out] at hb2
  have hx2 := (hb2.block r (Array.getElem?_eq_some_iff.1 HX.out).1).trans HX.out
  have hy2 := (hb2.block (r + 1) (Array.getElem?_eq_some_iff.1 HY.out).1).trans HY.out
  have HB2 : Hid (Below r w w2) := by rw [← HR0.out]; exact HB.out.trans (hb2.mono HB.out.size)
  obtain ⟨x0, x1, x2, x3⟩ := row4_cells hx2
  obtain ⟨y0, y1, y2, y3⟩ := row4_cells hy2
  obtain ⟨f0, f1, f2, f3⟩ := row4_frozen hy2
  have HY2 := Lib.hid hy2
  clear hx2 hy2 hb2 HRt
  refine hq.out ?_
  clear hq
  simp only [HR0.out]
  by_cases h0 : i < 0
  · have d1 : decide (i < 0) = true := decide_eq_true h0
    clear hi
    go_wp2_with fail
    obtain ⟨g1, g2⟩ := row4_put HY2.out (.bool false) (.slice none 0 0) (.slice none 0 0) (.slice none 0 0)
    refine bodyPost_ret_by (results_cellTmp rfl _ rfl rfl (run_retNodeR g1)) rfl ?_
    refine ⟨rfl, ?_⟩
    have hfin := HB2.out.trans (g2.below (by have := (Array.getElem?_eq_some_iff.1 HY2.out).1; omega) (fun k hk e => by have e' : k = r + 1 := e; omega))
    exact (show Below w.heap.size w _ from by rw [HR0.out]; exact hfin)
  · have d1 : decide (i < 0) = false := decide_eq_false h0
    have h9 : (nk : Int) < i := by omega
    have d2 : decide ((nk : Int) < i) = true := decide_eq_true h9
    clear hi
    go_wp2_with fail
    obtain ⟨g1, g2⟩ := row4_put HY2.out (.bool false) (.slice none 0 0) (.slice none 0 0) (.slice none 0 0)
    refine bodyPost_ret_by (results_cellTmp rfl _ rfl rfl (run_retNodeR g1)) rfl ?_
    refine ⟨rfl, ?_⟩
    have hfin := HB2.out.trans (g2.below (by have := (Array.getElem?_eq_some_iff.1 HY2.out).1; omega) (fun k hk e => by have e' : k = r + 1 := e; omega))
    exact (show Below w.heap.size w _ from by rw [HR0.out]; exact hfin)
set_option maxRecDepth 10000 in
set_option maxHeartbeats 2000000 in
theorem RemoveRf_form {w : World} {n : NodeM} {kA : Option Addr} {kc : Nat} {vA : Option Addr} {vc : Nat} {iA : Option Addr} {ic : Nat} (h : NodeAt w n kA kc vA vc iA ic) (i : Int) (hr : ¬ RightM n) :
    Calls Tryd.prog 28 #[.agg #[.bool n.leaf, .slice kA n.keys.length kc, .slice vA n.vals.length vc, .slice iA n.kids.length ic], .int .i64 i] w fun e w' => e = .returned (.tuple #[.agg #[.bool false, .slice none 0 0, .slice none 0 0, .slice none 0 0], .int .i64 22]) ∧ Hid (Below w.heap.size w w') := by
  obtain ⟨h1, h2, h3⟩ := node2_boxT w (.bool n.leaf) (.slice kA n.keys.length kc) (.slice vA n.vals.length vc) (.slice iA n.kids.length ic) (.bool false) (.slice none 0 0) (.slice none 0 0) (.slice none 0 0) 26
  have HRt := Lib.hid (refRight_calls (h.below h1))
  rw [rightB_false hr] at HRt
  obtain ⟨nk, hnk⟩ : ∃ k, n.keys.length = k := ⟨_, rfl⟩
  obtain ⟨nv, hnv⟩ : ∃ k, n.vals.length = k := ⟨_, rfl⟩
  obtain ⟨ni, hni⟩ : ∃ k, n.kids.length = k := ⟨_, rfl⟩
  obtain ⟨lf, hlf⟩ : ∃ k, n.leaf = k := ⟨_, rfl⟩
  rw [hnk, hnv, hni, hlf] at h1 h2 h3 HRt ⊢
  obtain ⟨W1, hW1⟩ : ∃ x, (w.alloc (.cells #[.bool lf, .slice kA nk kc, .slice vA nv vc, .slice iA ni ic] 26)).alloc (.cells #[.bool false, .slice none 0 0, .slice none 0 0, .slice none 0 0] 26) = x := ⟨_, rfl⟩
  rw [hW1] at h1 h2 h3
  have HB := Lib.hid h1
  have HX := Lib.hid h2
  have HY := Lib.hid h3
  have HW1 := Lib.hid hW1
  obtain ⟨r, hr0⟩ : ∃ r, w.heap.size = r := ⟨_, rfl⟩
  have HR0 := Lib.hid hr0
  rw [hr0] at HX HY
  clear h1 h2 h3 hW1 h hr hnk hnv hni hlf hr0
  go_enter Tryd.func28, Tryd.ntmps28
  go_wp2_with (go_at_call 15; (with_reducible refine HRt.out.mono ?_); rintro e w2 ⟨rfl, hb2⟩; refine park ?_; intro q hq)
  rw [HW1.out] at hb2
  have hx2 := (hb2.block r (Array.getElem?_eq_some_iff.1 HX.out).1).trans HX.out
  have hy2 := (hb2.block (r + 1) (Array.getElem?_eq_some_iff.1 HY.out).1).trans HY.out
  have HB2 : Hid (Below r w w2) := by rw [← HR0.out]; exact HB.out.trans (hb2.mono HB.out.size)
  obtain ⟨x0, x1, x2, x3⟩ := row4_cells hx2
  obtain ⟨y0, y1, y2, y3⟩ := row4_cells hy2
  obtain ⟨f0, f1, f2, f3⟩ := row4_frozen hy2
  have HY2 := Lib.hid hy2
  clear hx2 hy2 hb2 HRt
  refine hq.out ?_
  clear hq
  simp only [HR0.out]
  go_wp2_with fail
  obtain ⟨g1, g2⟩ := row4_put HY2.out (.bool false) (.slice none 0 0) (.slice none 0 0) (.slice none 0 0)
  refine bodyPost_ret_by (results_cellTmp rfl _ rfl rfl (run_retNodeR g1)) rfl ?_
  refine ⟨rfl, ?_⟩
  have hfin := HB2.out.trans (g2.below (by have := (Array.getElem?_eq_some_iff.1 HY2.out).1; omega) (fun k hk e => by have e' : k = r + 1 := e; omega))
  exact (show Below w.heap.size w _ from by rw [HR0.out]; exact hfin)
set_option maxRecDepth 10000 in
set_option maxHeartbeats 2000000 in
theorem RemoveRf_none {w : World} {n : NodeM} {kA : Option Addr} {kc : Nat} {vA : Option Addr} {vc : Nat} {iA : Option Addr} {ic : Nat} (h : NodeAt w n kA kc vA vc iA ic) (i : Int) (hr : RightM n) (hi : i < 0 ∨ (n.keys.length : Int) ≤ i) :
    Calls Tryd.prog 28 #[.agg #[.bool n.leaf, .slice kA n.keys.length kc, .slice vA n.vals.length vc, .slice iA n.kids.length ic], .int .i64 i] w fun e w' => e = .returned (.tuple #[.agg #[.bool false, .slice none 0 0, .slice none 0 0, .slice none 0 0], .int .i64 40]) ∧ Hid (Below w.heap.size w w') := by
  obtain ⟨h1, h2, h3⟩ := node2_boxT w (.bool n.leaf) (.slice kA n.keys.length kc) (.slice vA n.vals.length vc) (.slice iA n.kids.length ic) (.bool false) (.slice none 0 0) (.slice none 0 0) (.slice none 0 0) 26
  have HRt := Lib.hid (refRight_calls (h.below h1))
  rw [rightB_true hr] at HRt
  obtain ⟨nk, hnk⟩ : ∃ k, n.keys.length = k := ⟨_, rfl⟩
  obtain ⟨nv, hnv⟩ : ∃ k, n.vals.length = k := ⟨_, rfl⟩
  obtain ⟨ni, hni⟩ : ∃ k, n.kids.length = k := ⟨_, rfl⟩
  obtain ⟨lf, hlf⟩ : ∃ k, n.leaf = k := ⟨_, rfl⟩
  rw [hnk, hnv, hni, hlf] at h1 h2 h3 HRt ⊢
  rw [hnk] at hi
  obtain ⟨W1, hW1⟩ : ∃ x, (w.alloc (.cells #[.bool lf, .slice kA nk kc, .slice vA nv vc, .slice iA ni ic] 26)).alloc (.cells #[.bool false, .slice none 0 0, .slice none 0 0, .slice none 0 0] 26) = x := ⟨_, rfl⟩
  rw [hW1] at h1 h2 h3
  have HB := Lib.hid h1
  have HX := Lib.hid h2
  have HY := Lib.hid h3
  have HW1 := Lib.hid hW1
  obtain ⟨r, hr0⟩ : ∃ r, w.heap.size = r := ⟨_, rfl⟩
  have HR0 := Lib.hid hr0
  rw [hr0] at HX HY
  clear h1 h2 h3 hW1 h hr hnk hnv hni hlf hr0
  go_enter Tryd.func28, Tryd.ntmps28
  go_wp2_with (go_at_call 15; (with_reducible refine HRt.out.mono ?_); rintro e w2 ⟨rfl, hb2⟩; refine park ?_; intro q hq)
  rw [HW1.out] at hb2
  have hx2 := (hb2.block r (Array.getElem?_eq_some_iff.1 HX.out).1).trans HX.out
  have hy2 := (hb2.block (r + 1) (Array.getElem?_eq_some_iff.1 HY.out).1).trans HY.out
  have HB2 : Hid (Below r w w2) := by rw [← HR0.out]; exact HB.out.trans (hb2.mono HB.out.size)
  obtain ⟨x0, x1, x2, x3⟩ := row4_cells hx2
  obtain ⟨y0, y1, y2, y3⟩ := row4_cells hy2
  obtain ⟨f0, f1, f2, f3⟩ := row4_frozen hy2
  have HY2 := Lib.hid hy2
  clear hx2 hy2 hb2 HRt
  refine hq.out ?_
  clear hq
  simp only [HR0.out]
  by_cases h0 : i < 0
  · have d1 : decide (i < 0) = true := decide_eq_true h0
    clear hi
    go_wp2_with fail
    obtain ⟨g1, g2⟩ := row4_put HY2.out (.bool false) (.slice none 0 0) (.slice none 0 0) (.slice none 0 0)
    refine bodyPost_ret_by (results_cellTmp rfl _ rfl rfl (run_retNodeR g1)) rfl ?_
    refine ⟨rfl, ?_⟩
    have hfin := HB2.out.trans (g2.below (by have := (Array.getElem?_eq_some_iff.1 HY2.out).1; omega) (fun k hk e => by have e' : k = r + 1 := e; omega))
    exact (show Below w.heap.size w _ from by rw [HR0.out]; exact hfin)
  · have d1 : decide (i < 0) = false := decide_eq_false h0
    have h9 : (nk : Int) ≤ i := by omega
    have d2 : decide ((nk : Int) ≤ i) = true := decide_eq_true h9
    clear hi
    go_wp2_with fail
    obtain ⟨g1, g2⟩ := row4_put HY2.out (.bool false) (.slice none 0 0) (.slice none 0 0) (.slice none 0 0)
    refine bodyPost_ret_by (results_cellTmp rfl _ rfl rfl (run_retNodeR g1)) rfl ?_
    refine ⟨rfl, ?_⟩
    have hfin := HB2.out.trans (g2.below (by have := (Array.getElem?_eq_some_iff.1 HY2.out).1; omega) (fun k hk e => by have e' : k = r + 1 := e; omega))
    exact (show Below w.heap.size w _ from by rw [HR0.out]; exact hfin)
set_option maxRecDepth 10000 in
set_option maxHeartbeats 2000000 in
theorem RemoveO_calls {w : World} {n : NodeM} {kA : Option Addr} {kc : Nat} {vA : Option Addr} {vc : Nat} {iA : Option Addr} {ic : Nat} (h : NodeAt w n kA kc vA vc iA ic) (hr : RightM n) (hs : n.keys.length ≤ 1000) (i : Nat) (hi : i < n.keys.length) :
    Calls Tryd.prog 23 #[.agg #[.bool n.leaf, .slice kA n.keys.length kc, .slice vA n.vals.length vc, .slice iA n.kids.length ic], .int .i64 (i : Int)] w fun e w' => ∃ kB kd vB vd iB id, e = .returned (.tuple #[.agg #[.bool (outM (firstM (delM n i))).leaf, .slice kB (outM (firstM (delM n i))).keys.length kd, .slice vB (outM (firstM (delM n i))).vals.length vd, .slice iB (outM (firstM (delM n i))).kids.length id], .int .i64 (codeN (firstM (delM n i)))]) ∧ Hid (NodeOwn w' w.heap.size (outM (firstM (delM n i))) kB kd vB vd iB id ∧ Below w.heap.size w w') := by
  obtain ⟨hv1, hv2, hv3⟩ := hr.lens
  obtain ⟨h1, h2, h3⟩ := node2_boxT w (.bool n.leaf) (.slice kA n.keys.length kc) (.slice vA n.vals.length vc) (.slice iA n.kids.length ic) (.bool false) (.slice none 0 0) (.slice none 0 0) (.slice none 0 0) 28
  have HRt := Lib.hid (Right_calls (h.below h1))
  rw [rightB_true hr] at HRt
  have HOw : Hid (∀ w' kA kc vA vc iA ic, NodeAt w' n kA kc vA vc iA ic → Calls Tryd.prog 48 #[.agg #[.bool n.leaf, .slice kA n.keys.length kc, .slice vA n.vals.length vc, .slice iA n.kids.length ic]] w' fun e w'' => ∃ kB kd vB vd iB id, e = .returned (.agg #[.bool n.leaf, .slice kB n.keys.length kd, .slice vB n.vals.length vd, .slice iB n.kids.length id]) ∧ Hid (NodeOwn w'' w'.heap.size n kB kd vB vd iB id ∧ Below w'.heap.size w' w'')) := fun w' kA kc vA vc iA ic h => ownN_calls h ⟨hs, by omega, by omega⟩ (fun v hv => by have := hv3 v hv; omega)
  have H := Lib.hid (h.below h1)
  obtain ⟨lf, ks, vs, is⟩ := n
  simp only at hi hs hv1 hv2 h1 h2 h3 HRt HOw ⊢
  obtain ⟨nk, hnk⟩ : ∃ k, ks.length = k := ⟨_, rfl⟩
  obtain ⟨nv, hnv⟩ : ∃ k, vs.length = k := ⟨_, rfl⟩
  obtain ⟨ni, hni⟩ : ∃ k, is.length = k := ⟨_, rfl⟩
  have HNK := Lib.hid hnk
  have HNV := Lib.hid hnv
  have HNI := Lib.hid hni
  rw [hnk] at hi hs hv1 hv2
  rw [hnv] at hv1
  rw [hni] at hv2
  rw [hnk, hnv, hni] at h1 h2 h3 HRt HOw ⊢
  obtain ⟨W1, hW1⟩ : ∃ x, (w.alloc (.cells #[.bool lf, .slice kA nk kc, .slice vA nv vc, .slice iA ni ic] 28)).alloc (.cells #[.bool false, .slice none 0 0, .slice none 0 0, .slice none 0 0] 28) = x := ⟨_, rfl⟩
  rw [hnk, hnv, hni, hW1] at H
  rw [hW1] at h1 h2 h3
  have HB := Lib.hid h1
  have HX := Lib.hid h2
  have HY := Lib.hid h3
  have HW1 := Lib.hid hW1
  have HR := Lib.hid hr
  obtain ⟨r, hr0⟩ : ∃ r, w.heap.size = r := ⟨_, rfl⟩
  have HR0 := Lib.hid hr0
  rw [hr0] at HX HY
  clear h1 h2 h3 hW1 h hr hnk hnv hni hr0 hv3
  have hd2 : decide (nk ≤ i) = false := by simp; omega
  go_enter Tryd.func23, Tryd.ntmps23
  go_wp2_with (go_at_call 14; (with_reducible refine HRt.out.mono ?_); rintro e w2 ⟨rfl, hb2⟩; refine park ?_; intro q hq)
  rw [HW1.out] at hb2
  have hx2 := (hb2.block r (Array.getElem?_eq_some_iff.1 HX.out).1).trans HX.out
  have hy2 := (hb2.block (r + 1) (Array.getElem?_eq_some_iff.1 HY.out).1).trans HY.out
  have HB2 : Hid (Below r w w2) := by rw [← HR0.out]; exact HB.out.trans (hb2.mono HB.out.size)
  have HO2 := Lib.hid (HOw.out w2 _ _ _ _ _ _ (H.out.below hb2))
  obtain ⟨x0, x1, x2, x3⟩ := row4_cells hx2
  have HX2 := Lib.hid hx2
  have HY2 := Lib.hid hy2
  clear hx2 hy2 hb2 HRt HOw H
  refine hq.out ?_
  clear hq
  simp only [HR0.out]
  go_wp2_with (go_at_call 48; (with_reducible refine HO2.out.mono ?_); rintro e w3 ⟨kB, kd, vB, vd, iB, id, rfl, h3⟩; refine park ?_; intro q hq)
  have hx3 := (h3.out.2.block r (Array.getElem?_eq_some_iff.1 HX2.out).1).trans HX2.out
  have hy3 := (h3.out.2.block (r + 1) (Array.getElem?_eq_some_iff.1 HY2.out).1).trans HY2.out
  obtain ⟨f0, f1, f2, f3⟩ := row4_frozen hx3
  obtain ⟨x0', x1', x2', x3'⟩ := row4_cells hx3
  obtain ⟨g1, g2⟩ := row4_put hx3 (.bool lf) (.slice kB nk kd) (.slice vB nv vd) (.slice iB ni id)
  have hty : ∀ k cs t fz, k = r → w3.heap[k]? = some (.cells cs t fz) → t = 28 := fun k cs t fz e hc => by
    rw [e, hx3] at hc; injection hc with hc; injection hc with _ h4 _; exact h4.symm
  have hO3 := h3.out.1
  have HO4 := Lib.hid (hO3.keptN g2 hty)
  have hrr : r < w2.heap.size := (Array.getElem?_eq_some_iff.1 HX2.out).1
  have hrr1 : r + 1 < w2.heap.size := (Array.getElem?_eq_some_iff.1 HY2.out).1
  have HB4 : Hid (Below r w ((((w3.setCell ⟨r, 0, none⟩ (.bool lf)).setCell ⟨r, 1, none⟩ (.slice kB nk kd)).setCell ⟨r, 2, none⟩ (.slice vB nv vd)).setCell ⟨r, 3, none⟩ (.slice iB ni id))) := (HB2.out.trans (h3.out.2.mono (Nat.le_of_lt hrr))).trans (g2.below (Nat.le_trans (Nat.le_of_lt hrr) h3.out.2.size) (fun k hk e => by have e' : k = r := e; omega))
  have HY4 : Hid (((((w3.setCell ⟨r, 0, none⟩ (.bool lf)).setCell ⟨r, 1, none⟩ (.slice kB nk kd)).setCell ⟨r, 2, none⟩ (.slice vB nv vd)).setCell ⟨r, 3, none⟩ (.slice iB ni id)).heap[r + 1]? = some (.cells #[.bool false, .slice none 0 0, .slice none 0 0, .slice none 0 0] 28 (0, 0))) := (g2.block (r + 1) (Nat.lt_of_lt_of_le hrr1 h3.out.2.size) (by show ¬ r + 1 = r; omega)).trans hy3
  have HX4 := Lib.hid g1
  have HS4 : Hid (w2.heap.size ≤ ((((w3.setCell ⟨r, 0, none⟩ (.bool lf)).setCell ⟨r, 1, none⟩ (.slice kB nk kd)).setCell ⟨r, 2, none⟩ (.slice vB nv vd)).setCell ⟨r, 3, none⟩ (.slice iB ni id)).heap.size) := Nat.le_trans h3.out.2.size g2.size
  have HC5 : Hid (Calls Tryd.prog 49 #[.slice kB nk kd, .int .i64 (i : Int), .int .i64 ((i : Int) + 1), .slice none 0 0] ((((w3.setCell ⟨r, 0, none⟩ (.bool lf)).setCell ⟨r, 1, none⟩ (.slice kB nk kd)).setCell ⟨r, 2, none⟩ (.slice vB nv vd)).setCell ⟨r, 3, none⟩ (.slice iB ni id)) fun e w' => ∃ v, e = .returned v ∧ Hid (OwnVs w' (((((w3.setCell ⟨r, 0, none⟩ (.bool lf)).setCell ⟨r, 1, none⟩ (.slice kB nk kd)).setCell ⟨r, 2, none⟩ (.slice vB nv vd)).setCell ⟨r, 3, none⟩ (.slice iB ni id))).heap.size 9 v (strs (ks.take i ++ ks.drop (i + 1))) ∧ Below (((((w3.setCell ⟨r, 0, none⟩ (.bool lf)).setCell ⟨r, 1, none⟩ (.slice kB nk kd)).setCell ⟨r, 2, none⟩ (.slice vB nv vd)).setCell ⟨r, 3, none⟩ (.slice iB ni id))).heap.size ((((w3.setCell ⟨r, 0, none⟩ (.bool lf)).setCell ⟨r, 1, none⟩ (.slice kB nk kd)).setCell ⟨r, 2, none⟩ (.slice vB nv vd)).setCell ⟨r, 3, none⟩ (.slice iB ni id)) w')) := by
    have hK4 : OwnVs ((((w3.setCell ⟨r, 0, none⟩ (.bool lf)).setCell ⟨r, 1, none⟩ (.slice kB nk kd)).setCell ⟨r, 2, none⟩ (.slice vB nv vd)).setCell ⟨r, 3, none⟩ (.slice iB ni id)) w2.heap.size 9 (.slice kB nk kd) (strs ks) := by
      have h := HO4.out.k
      change OwnVs _ _ _ (.slice kB ks.length kd) (strs ks) at h
      rw [HNK.out] at h
      exact h
    obtain ⟨e1, v1, n1, l1, m1⟩ := hK4.at'
    have h := splicedS_calls (xs := strs ks) (ys := []) (Ai := none) (ci := 0) (i := i) (j := i + 1) v1 (by rw [strs_length, HNK.out]) l1 m1 n1 (strs_one ks) (Nat.le_succ i) hi (ValsAt.nil _ _) rfl (fun _ => rfl) (fun u hu => by cases hu) (by omega) (Nat.zero_le _)
    rw [List.append_nil, strs_take, strs_drop, ← strs_app, Int.natCast_succ] at h
    exact h
  obtain ⟨W4, hW4⟩ : ∃ x, ((((w3.setCell ⟨r, 0, none⟩ (.bool lf)).setCell ⟨r, 1, none⟩ (.slice kB nk kd)).setCell ⟨r, 2, none⟩ (.slice vB nv vd)).setCell ⟨r, 3, none⟩ (.slice iB ni id)) = x := ⟨_, rfl⟩
  rw [hW4] at HO4 HB4 HY4 HX4 HS4
  have HW4 := Lib.hid hW4
  clear hx3 hy3 x0 x1 x2 x3 hty hO3 h3 g1 g2 HX2 HY2 HO2 HB2 hW4
  refine hq.out ?_
  clear hq
  go_wp2_with (go_at_call 49; (with_reducible refine HC5.out.mono ?_); rintro e w5 ⟨v5, rfl, h5⟩; refine park ?_; intro q hq)
  rw [HW4.out] at h5
  obtain ⟨A5, c5, hv5, _⟩ := h5.out.1.sl
  rw [strs_length] at hv5
  obtain ⟨nk', hnk'⟩ : ∃ x, (ks.take i ++ ks.drop (i + 1)).length = x := ⟨_, rfl⟩
  have HNK' := Lib.hid hnk'
  rw [hnk'] at hv5
  subst hv5
  have hx5 := (h5.out.2.block r (Array.getElem?_eq_some_iff.1 HX4.out).1).trans HX4.out
  have hy5 := (h5.out.2.block (r + 1) (Array.getElem?_eq_some_iff.1 HY4.out).1).trans HY4.out
  have HO5 := Lib.hid (HO4.out.below h5.out.2)
  have HK5 := Lib.hid (h5.out.1.base' HS4.out)
  have HB5 : Hid (Below r w w5) := HB4.out.trans (h5.out.2.mono (Nat.le_trans (Nat.le_of_lt hrr) HS4.out))
  have HS5 : Hid (w2.heap.size ≤ w5.heap.size) := Nat.le_trans HS4.out h5.out.2.size
  clear h5 f0 f1 f2 f3 x0' x1' x2' x3' HC5 hnk' HX4 HY4 HO4 HB4 HS4 HW4
  obtain ⟨f0, f1, f2, f3⟩ := row4_frozen hx5
  obtain ⟨x0, x1, x2, x3⟩ := row4_cells hx5
  have k6 : Kept (· = r) w5 (w5.setCell ⟨r, 1, none⟩ (.slice A5 nk' c5)) := Kept.set1 w5 r 1 _
  have hx6 := row4_set1 hx5 (.slice A5 nk' c5)
  have hty : ∀ k cs t fz, k = r → w5.heap[k]? = some (.cells cs t fz) → t = 28 := fun k cs t fz e hc => by
    rw [e, hx5] at hc; injection hc with hc; injection hc with _ h4 _; exact h4.symm
  have HO6 := Lib.hid (HO5.out.keptN k6 hty)
  have HK6 := Lib.hid (HK5.out.keptT k6 (fun k cs hS hc => absurd (hty _ _ _ _ hS hc) (by decide)))
  have HB6 : Hid (Below r w (w5.setCell ⟨r, 1, none⟩ (.slice A5 nk' c5))) := HB5.out.trans (k6.below (Nat.le_trans (Nat.le_of_lt hrr) HS5.out) (fun k hk e => by have e' : k = r := e; omega))
  have hy6 := (k6.block (r + 1) (Nat.lt_of_lt_of_le hrr1 HS5.out) (by show ¬ r + 1 = r; omega)).trans hy5
  have HS6 : Hid (w2.heap.size ≤ (w5.setCell ⟨r, 1, none⟩ (.slice A5 nk' c5)).heap.size) := Nat.le_trans HS5.out k6.size
  have HX6 := Lib.hid hx6
  have HY6 := Lib.hid hy6
  have HZ := Lib.hid hx5
  clear hx6 hy6 k6 hty hx5 hy5 HO5 HK5 HB5 HS5
  cases lf
  · have _t := trivial
    have hW7 := HX6.out
    have hni : ni = nk := by have h := HR.out.2; simp only [Bool.false_eq_true, if_false] at h; rw [← HNI.out, ← HNK.out]; exact h.1
    have HC7 : Hid (Calls Tryd.prog 51 #[.slice iB ni id, .int .i64 (i : Int), .int .i64 ((i : Int) + 1), .slice none 0 0] (w5.setCell ⟨r, 1, none⟩ (.slice A5 nk' c5)) fun e w' => ∃ v, e = .returned v ∧ Hid (OwnVs w' w2.heap.size 3 v (ints (is.take i ++ is.drop (i + 1))) ∧ Below ((w5.setCell ⟨r, 1, none⟩ (.slice A5 nk' c5))).heap.size (w5.setCell ⟨r, 1, none⟩ (.slice A5 nk' c5)) w')) := by
      have hI6 : OwnVs (w5.setCell ⟨r, 1, none⟩ (.slice A5 nk' c5)) w2.heap.size 3 (.slice iB ni id) (ints is) := by
        have h := HO6.out.i
        change OwnVs _ _ _ (.slice iB is.length id) (ints is) at h
        rw [HNI.out] at h
        exact h
      obtain ⟨e1, v1, n1, l1, m1⟩ := hI6.at'
      have h := splicedI_calls (xs := ints is) (ys := []) (Ai := none) (ci := 0) (i := i) (j := i + 1) v1 e1 l1 m1 n1 (ints_one is) (Nat.le_succ i) (by rw [hni]; omega) (ValsAt.nil _ _) rfl (fun _ => rfl) (fun u hu => by cases hu) (by omega) (Nat.zero_le _)
      rw [List.append_nil, ints_take, ints_drop, ← ints_app, Int.natCast_succ] at h
      refine h.mono ?_
      rintro e w' ⟨v, rfl, h7⟩
      exact ⟨v, rfl, h7.out.1.base' HS6.out, h7.out.2⟩
    obtain ⟨W6, hW6⟩ : ∃ x, (w5.setCell ⟨r, 1, none⟩ (.slice A5 nk' c5)) = x := ⟨_, rfl⟩
    rw [hW6] at HO6 HK6 HB6 HY6 HX6 HS6
    have HW6 := Lib.hid hW6
    clear hW6 hW7
    clear hni
    refine hq.out ?_
    clear hq
    go_wp2_with (go_at_call 51; (with_reducible refine HC7.out.mono ?_); rintro e w7 ⟨v7, rfl, h7⟩; refine park ?_; intro q hq)
    rw [HW6.out] at h7
    obtain ⟨A7, c7, hv7, _⟩ := h7.out.1.sl
    rw [ints_length] at hv7
    obtain ⟨ni', hni'⟩ : ∃ x, (is.take i ++ is.drop (i + 1)).length = x := ⟨_, rfl⟩
    have HNI' := Lib.hid hni'
    rw [hni'] at hv7
    subst hv7
    clear hni'
    have hx7 := (h7.out.2.block r (Array.getElem?_eq_some_iff.1 HX6.out).1).trans HX6.out
    have hy7 := (h7.out.2.block (r + 1) (Array.getElem?_eq_some_iff.1 HY6.out).1).trans HY6.out
    have hty : ∀ k cs t fz, k = r → w7.heap[k]? = some (.cells cs t fz) → t = 28 := fun k cs t fz e hc => by
      rw [e, hx7] at hc; injection hc with hc; injection hc with _ h4 _; exact h4.symm
    have k8 : Kept (· = r) w7 (w7.setCell ⟨r, 3, none⟩ (.slice A7 ni' c7)) := Kept.set1 w7 r 3 _
    have hx8 := row4_set3 hx7 (.slice A7 ni' c7)
    have hs8 : w2.heap.size ≤ w7.heap.size := Nat.le_trans HS6.out h7.out.2.size
    have hy8 := (k8.block (r + 1) (Nat.lt_of_lt_of_le hrr1 hs8) (by show ¬ r + 1 = r; omega)).trans hy7
    have HB8 : Hid (Below r w (w7.setCell ⟨r, 3, none⟩ (.slice A7 ni' c7))) := (HB6.out.trans (h7.out.2.mono (Nat.le_trans (Nat.le_of_lt hrr) HS6.out))).trans (k8.below (Nat.le_trans (Nat.le_of_lt hrr) hs8) (fun k hk e => by have e' : k = r := e; omega))
    have HS8 : Hid (w2.heap.size ≤ (w7.setCell ⟨r, 3, none⟩ (.slice A7 ni' c7)).heap.size) := Nat.le_trans hs8 k8.size
    have hM : delM ⟨false, ks, vs, is⟩ i = ⟨false, ks.take i ++ ks.drop (i + 1), vs, is.take i ++ is.drop (i + 1)⟩ := rfl
    have hO7 : NodeOwn w7 w2.heap.size (delM ⟨false, ks, vs, is⟩ i) A5 c5 vB vd A7 c7 := by
      rw [hM]
      exact ⟨by have h := HK6.out.below h7.out.2; rw [← HNK'.out] at h; exact h, HO6.out.v.below h7.out.2, by have h := h7.out.1; rw [← HNI'.out] at h; exact h⟩
    have hO8 := hO7.keptN k8 hty
    have hshape := firstM_shape (delM ⟨false, ks, vs, is⟩ i)
    have HFst : Hid (Calls Tryd.prog 53 #[.agg #[.bool false, .slice A5 nk' c5, .slice vB nv vd, .slice A7 ni' c7]] (w7.setCell ⟨r, 3, none⟩ (.slice A7 ni' c7)) fun e w' => e = .returned (.agg #[.bool false, .slice A5 nk' c5, .slice vB nv vd, .slice A7 ni' c7]) ∧ Hid (NodeOwn w' w2.heap.size (firstM (delM ⟨false, ks, vs, is⟩ i)) A5 c5 vB vd A7 c7 ∧ Below w2.heap.size (w7.setCell ⟨r, 3, none⟩ (.slice A7 ni' c7)) w')) := by
      have h := firstN_calls hO8 HS8.out
      rw [show (delM ⟨false, ks, vs, is⟩ i).keys.length = nk' from by rw [hM]; exact HNK'.out, show (delM ⟨false, ks, vs, is⟩ i).vals.length = nv from by rw [hM]; exact HNV.out, show (delM ⟨false, ks, vs, is⟩ i).kids.length = ni' from by rw [hM]; exact HNI'.out, show (delM ⟨false, ks, vs, is⟩ i).leaf = false from rfl] at h
      exact h
    have HSh : Hid ((firstM (delM ⟨false, ks, vs, is⟩ i)).leaf = false ∧ (firstM (delM ⟨false, ks, vs, is⟩ i)).keys.length = nk' ∧ (firstM (delM ⟨false, ks, vs, is⟩ i)).vals.length = nv ∧ (firstM (delM ⟨false, ks, vs, is⟩ i)).kids.length = ni') := by
      obtain ⟨q1, q2, q3, q4⟩ := hshape
      refine ⟨q1.trans rfl, q2.trans ?_, ?_, ?_⟩
      · rw [hM]; exact HNK'.out
      · rw [q3, hM]; exact HNV.out
      · rw [q4, hM]; exact HNI'.out
    have HCk : Hid (∀ w', NodeOwn w' w2.heap.size (firstM (delM ⟨false, ks, vs, is⟩ i)) A5 c5 vB vd A7 c7 → Calls Tryd.prog 52 #[.agg #[.bool false, .slice A5 nk' c5, .slice vB nv vd, .slice A7 ni' c7]] w' fun e w'' => ∃ b kB nkB kd vB nvB vd iB niB id cd, e = .returned (.tuple #[.agg #[.bool b, .slice kB nkB kd, .slice vB nvB vd, .slice iB niB id], .int .i64 cd]) ∧ Hid (b = (outM (firstM (delM ⟨false, ks, vs, is⟩ i))).leaf ∧ nkB = (outM (firstM (delM ⟨false, ks, vs, is⟩ i))).keys.length ∧ nvB = (outM (firstM (delM ⟨false, ks, vs, is⟩ i))).vals.length ∧ niB = (outM (firstM (delM ⟨false, ks, vs, is⟩ i))).kids.length ∧ cd = codeN (firstM (delM ⟨false, ks, vs, is⟩ i)) ∧ NodeOwn w'' w2.heap.size (outM (firstM (delM ⟨false, ks, vs, is⟩ i))) kB kd vB vd iB id ∧ Below w'.heap.size w' w'')) := fun w' h => by
      have h := checkedO_calls h
      rw [HSh.out.1, HSh.out.2.1, HSh.out.2.2.1, HSh.out.2.2.2] at h
      refine h.mono ?_
      rintro e w'' ⟨kB, kd, vB, vd, iB, id, rfl, h9⟩
      exact ⟨_, _, _, _, _, _, _, _, _, _, _, rfl, rfl, rfl, rfl, rfl, rfl, h9.out.1, h9.out.2⟩
    have HX8 := Lib.hid hx8
    have HY8 := Lib.hid hy8
    obtain ⟨f0', f1', f2', f3'⟩ := row4_frozen hx7
    obtain ⟨y0, y1, y2, y3⟩ := row4_cells hx7
    clear x0 x1 x2 x3 f0 f1 f2 f3
    clear hx8 hy8 hx7 hy7 hty k8 hs8 hO7 hO8 hshape hM h7 HC7 HX6 HY6 HO6 HK6 HB6 HS6 HW6
    refine hq.out ?_
    clear hq
    go_wp2_with (go_at_call 53; (with_reducible refine HFst.out.mono ?_); rintro e w9 ⟨rfl, h9⟩; refine park ?_; intro q hq)
    have HCk9 := Lib.hid (HCk.out w9 h9.out.1)
    have hy9 := (h9.out.2.block (r + 1) hrr1).trans HY8.out
    have HB9 : Hid (Below r w w9) := HB8.out.trans (h9.out.2.mono (Nat.le_of_lt hrr))
    have HS9 : Hid (w2.heap.size ≤ w9.heap.size) := Nat.le_trans HS8.out h9.out.2.size
    have HO9 := Lib.hid h9.out.1
    clear h9 HFst HCk y0 y1 y2 y3 f0' f1' f2' f3'
    refine hq.out ?_
    clear hq
    go_wp2_with (go_at_call 52; (with_reducible refine HCk9.out.mono ?_); rintro e w10 ⟨b10, kE, nkE, ke, vE, nvE, ve, iE, niE, ie, cd, rfl, h10⟩; refine park ?_; intro q hq)
    obtain ⟨s1, s2, s3, s4, s5, hO10, hb10⟩ := h10.out
    have hy10 := (hb10.block (r + 1) (Nat.lt_of_lt_of_le hrr1 HS9.out)).trans hy9
    have HSh2 := Lib.hid (And.intro s1 (And.intro s2 (And.intro s3 (And.intro s4 s5))))
    have HO10 := Lib.hid hO10
    have HB10 : Hid (Below r w w10) := HB9.out.trans (hb10.mono (Nat.le_trans (Nat.le_of_lt hrr) HS9.out))
    have HS10 : Hid (w2.heap.size ≤ w10.heap.size) := Nat.le_trans HS9.out hb10.size
    have HY10 := Lib.hid hy10
    obtain ⟨y0, y1, y2, y3⟩ := row4_cells hy10
    obtain ⟨f0, f1, f2, f3⟩ := row4_frozen hy10
    clear h10 hy9 hy10 HCk9 s1 s2 s3 s4 s5 hO10 hb10
    refine hq.out ?_
    clear hq
    go_wp2_with fail
    obtain ⟨g1, g2⟩ := row4_put HY10.out (.bool b10) (.slice kE nkE ke) (.slice vE nvE ve) (.slice iE niE ie)
    refine bodyPost_ret_by (results_cellTmp rfl _ rfl rfl (run_retNode g1)) rfl ?_
    obtain ⟨s1, s2, s3, s4, s5⟩ := HSh2.out
    refine ⟨_, _, _, _, _, _, by rw [← s1, ← s2, ← s3, ← s4, ← s5]; rfl, (HO10.out.keptN g2 (fun k cs t fz hS hc => ?_)).base' (by rw [HR0.out]; exact Nat.le_of_lt hrr), ?_⟩
    · rw [show k = r + 1 from hS, HY10.out] at hc; injection hc with hc; injection hc with _ h4 _; exact h4.symm
    · rw [HR0.out]
      exact HB10.out.trans (g2.below (Nat.le_trans (Nat.le_of_lt hrr) HS10.out) (fun k hk e => by have e' : k = r + 1 := e; omega))
  · have _t := trivial
    have hW7 := HX6.out
    have hV6 : OwnRL (w5.setCell ⟨r, 1, none⟩ (.slice A5 nk' c5)) w2.heap.size (.slice vB nv vd) vs := by
      have h := HO6.out.v
      change OwnRL _ _ (.slice vB vs.length vd) vs at h
      rw [HNV.out] at h
      exact h
    obtain ⟨us, hu1, hu2⟩ := RowsV.of_own hV6
    have hul := hu2.len
    have hnv : nv = nk := by have h := HR.out.2; simp only [if_true] at h; rw [← HNV.out, ← HNK.out]; exact h.1
    have HC7 : Hid (Calls Tryd.prog 50 #[.slice vB nv vd, .int .i64 (i : Int), .int .i64 ((i : Int) + 1), .slice none 0 0] (w5.setCell ⟨r, 1, none⟩ (.slice A5 nk' c5)) fun e w' => ∃ v, e = .returned v ∧ Hid (OwnRL w' w2.heap.size v (vs.take i ++ vs.drop (i + 1)) ∧ Below ((w5.setCell ⟨r, 1, none⟩ (.slice A5 nk' c5))).heap.size (w5.setCell ⟨r, 1, none⟩ (.slice A5 nk' c5)) w')) := by
      obtain ⟨e1, v1, n1, l1, m1⟩ := hu1.at'
      have h := splicedR_calls (xs := us) (ys := []) (Ai := none) (ci := 0) (i := i) (j := i + 1) v1 e1 l1 m1 n1 hu2.one (Nat.le_succ i) (by omega) (ValsAt.nil _ _) rfl (fun _ => rfl) (fun u hu => by cases hu) (by omega) (Nat.zero_le _)
      rw [List.append_nil, Int.natCast_succ] at h
      refine h.mono ?_
      rintro e w' ⟨v, rfl, h7⟩
      exact ⟨v, rfl, RowsV.own (h7.out.1.base' HS6.out) (((hu2.take i).append (hu2.drop (i + 1))).below h7.out.2), h7.out.2⟩
    obtain ⟨W6, hW6⟩ : ∃ x, (w5.setCell ⟨r, 1, none⟩ (.slice A5 nk' c5)) = x := ⟨_, rfl⟩
    rw [hW6] at HO6 HK6 HB6 HY6 HX6 HS6
    have HW6 := Lib.hid hW6
    clear hW6 hW7
    clear hnv hul hu1 hu2 hV6
    refine hq.out ?_
    clear hq
    go_wp2_with (go_at_call 50; (with_reducible refine HC7.out.mono ?_); rintro e w7 ⟨v7, rfl, h7⟩; refine park ?_; intro q hq)
    rw [HW6.out] at h7
    obtain ⟨A7, c7, hv7, _⟩ := h7.out.1.slice
    obtain ⟨nv', hnv'⟩ : ∃ x, (vs.take i ++ vs.drop (i + 1)).length = x := ⟨_, rfl⟩
    have HNV' := Lib.hid hnv'
    rw [hnv'] at hv7
    subst hv7
    clear hnv'
    have hx7 := (h7.out.2.block r (Array.getElem?_eq_some_iff.1 HX6.out).1).trans HX6.out
    have hy7 := (h7.out.2.block (r + 1) (Array.getElem?_eq_some_iff.1 HY6.out).1).trans HY6.out
    have hty : ∀ k cs t fz, k = r → w7.heap[k]? = some (.cells cs t fz) → t = 28 := fun k cs t fz e hc => by
      rw [e, hx7] at hc; injection hc with hc; injection hc with _ h4 _; exact h4.symm
    have k8 : Kept (· = r) w7 (w7.setCell ⟨r, 2, none⟩ (.slice A7 nv' c7)) := Kept.set1 w7 r 2 _
    have hx8 := row4_set2 hx7 (.slice A7 nv' c7)
    have hs8 : w2.heap.size ≤ w7.heap.size := Nat.le_trans HS6.out h7.out.2.size
    have hy8 := (k8.block (r + 1) (Nat.lt_of_lt_of_le hrr1 hs8) (by show ¬ r + 1 = r; omega)).trans hy7
    have HB8 : Hid (Below r w (w7.setCell ⟨r, 2, none⟩ (.slice A7 nv' c7))) := (HB6.out.trans (h7.out.2.mono (Nat.le_trans (Nat.le_of_lt hrr) HS6.out))).trans (k8.below (Nat.le_trans (Nat.le_of_lt hrr) hs8) (fun k hk e => by have e' : k = r := e; omega))
    have HS8 : Hid (w2.heap.size ≤ (w7.setCell ⟨r, 2, none⟩ (.slice A7 nv' c7)).heap.size) := Nat.le_trans hs8 k8.size
    have hM : delM ⟨true, ks, vs, is⟩ i = ⟨true, ks.take i ++ ks.drop (i + 1), vs.take i ++ vs.drop (i + 1), is⟩ := rfl
    have hO7 : NodeOwn w7 w2.heap.size (delM ⟨true, ks, vs, is⟩ i) A5 c5 A7 c7 iB id := by
      rw [hM]
      exact ⟨by have h := HK6.out.below h7.out.2; rw [← HNK'.out] at h; exact h, by have h := h7.out.1; rw [← HNV'.out] at h; exact h, HO6.out.i.below h7.out.2⟩
    have hO8 := hO7.keptN k8 hty
    have hshape := firstM_shape (delM ⟨true, ks, vs, is⟩ i)
    have HFst : Hid (Calls Tryd.prog 53 #[.agg #[.bool true, .slice A5 nk' c5, .slice A7 nv' c7, .slice iB ni id]] (w7.setCell ⟨r, 2, none⟩ (.slice A7 nv' c7)) fun e w' => e = .returned (.agg #[.bool true, .slice A5 nk' c5, .slice A7 nv' c7, .slice iB ni id]) ∧ Hid (NodeOwn w' w2.heap.size (firstM (delM ⟨true, ks, vs, is⟩ i)) A5 c5 A7 c7 iB id ∧ Below w2.heap.size (w7.setCell ⟨r, 2, none⟩ (.slice A7 nv' c7)) w')) := by
      have h := firstN_calls hO8 HS8.out
      rw [show (delM ⟨true, ks, vs, is⟩ i).keys.length = nk' from by rw [hM]; exact HNK'.out, show (delM ⟨true, ks, vs, is⟩ i).vals.length = nv' from by rw [hM]; exact HNV'.out, show (delM ⟨true, ks, vs, is⟩ i).kids.length = ni from by rw [hM]; exact HNI.out, show (delM ⟨true, ks, vs, is⟩ i).leaf = true from rfl] at h
      exact h
    have HSh : Hid ((firstM (delM ⟨true, ks, vs, is⟩ i)).leaf = true ∧ (firstM (delM ⟨true, ks, vs, is⟩ i)).keys.length = nk' ∧ (firstM (delM ⟨true, ks, vs, is⟩ i)).vals.length = nv' ∧ (firstM (delM ⟨true, ks, vs, is⟩ i)).kids.length = ni) := by
      obtain ⟨q1, q2, q3, q4⟩ := hshape
      refine ⟨q1.trans rfl, q2.trans ?_, ?_, ?_⟩
      · rw [hM]; exact HNK'.out
      · rw [q3, hM]; exact HNV'.out
      · rw [q4, hM]; exact HNI.out
    have HCk : Hid (∀ w', NodeOwn w' w2.heap.size (firstM (delM ⟨true, ks, vs, is⟩ i)) A5 c5 A7 c7 iB id → Calls Tryd.prog 52 #[.agg #[.bool true, .slice A5 nk' c5, .slice A7 nv' c7, .slice iB ni id]] w' fun e w'' => ∃ b kB nkB kd vB nvB vd iB niB id cd, e = .returned (.tuple #[.agg #[.bool b, .slice kB nkB kd, .slice vB nvB vd, .slice iB niB id], .int .i64 cd]) ∧ Hid (b = (outM (firstM (delM ⟨true, ks, vs, is⟩ i))).leaf ∧ nkB = (outM (firstM (delM ⟨true, ks, vs, is⟩ i))).keys.length ∧ nvB = (outM (firstM (delM ⟨true, ks, vs, is⟩ i))).vals.length ∧ niB = (outM (firstM (delM ⟨true, ks, vs, is⟩ i))).kids.length ∧ cd = codeN (firstM (delM ⟨true, ks, vs, is⟩ i)) ∧ NodeOwn w'' w2.heap.size (outM (firstM (delM ⟨true, ks, vs, is⟩ i))) kB kd vB vd iB id ∧ Below w'.heap.size w' w'')) := fun w' h => by
      have h := checkedO_calls h
      rw [HSh.out.1, HSh.out.2.1, HSh.out.2.2.1, HSh.out.2.2.2] at h
      refine h.mono ?_
      rintro e w'' ⟨kB, kd, vB, vd, iB, id, rfl, h9⟩
      exact ⟨_, _, _, _, _, _, _, _, _, _, _, rfl, rfl, rfl, rfl, rfl, rfl, h9.out.1, h9.out.2⟩
    have HX8 := Lib.hid hx8
    have HY8 := Lib.hid hy8
    obtain ⟨f0', f1', f2', f3'⟩ := row4_frozen hx7
    obtain ⟨y0, y1, y2, y3⟩ := row4_cells hx7
    clear x0 x1 x2 x3 f0 f1 f2 f3
    clear hx8 hy8 hx7 hy7 hty k8 hs8 hO7 hO8 hshape hM h7 HC7 HX6 HY6 HO6 HK6 HB6 HS6 HW6
    refine hq.out ?_
    clear hq
    go_wp2_with (go_at_call 53; (with_reducible refine HFst.out.mono ?_); rintro e w9 ⟨rfl, h9⟩; refine park ?_; intro q hq)
    have HCk9 := Lib.hid (HCk.out w9 h9.out.1)
    have hy9 := (h9.out.2.block (r + 1) hrr1).trans HY8.out
    have HB9 : Hid (Below r w w9) := HB8.out.trans (h9.out.2.mono (Nat.le_of_lt hrr))
    have HS9 : Hid (w2.heap.size ≤ w9.heap.size) := Nat.le_trans HS8.out h9.out.2.size
    have HO9 := Lib.hid h9.out.1
    clear h9 HFst HCk y0 y1 y2 y3 f0' f1' f2' f3'
    refine hq.out ?_
    clear hq
    go_wp2_with (go_at_call 52; (with_reducible refine HCk9.out.mono ?_); rintro e w10 ⟨b10, kE, nkE, ke, vE, nvE, ve, iE, niE, ie, cd, rfl, h10⟩; refine park ?_; intro q hq)
    obtain ⟨s1, s2, s3, s4, s5, hO10, hb10⟩ := h10.out
    have hy10 := (hb10.block (r + 1) (Nat.lt_of_lt_of_le hrr1 HS9.out)).trans hy9
    have HSh2 := Lib.hid (And.intro s1 (And.intro s2 (And.intro s3 (And.intro s4 s5))))
    have HO10 := Lib.hid hO10
    have HB10 : Hid (Below r w w10) := HB9.out.trans (hb10.mono (Nat.le_trans (Nat.le_of_lt hrr) HS9.out))
    have HS10 : Hid (w2.heap.size ≤ w10.heap.size) := Nat.le_trans HS9.out hb10.size
    have HY10 := Lib.hid hy10
    obtain ⟨y0, y1, y2, y3⟩ := row4_cells hy10
    obtain ⟨f0, f1, f2, f3⟩ := row4_frozen hy10
    clear h10 hy9 hy10 HCk9 s1 s2 s3 s4 s5 hO10 hb10
    refine hq.out ?_
    clear hq
    go_wp2_with fail
    obtain ⟨g1, g2⟩ := row4_put HY10.out (.bool b10) (.slice kE nkE ke) (.slice vE nvE ve) (.slice iE niE ie)
    refine bodyPost_ret_by (results_cellTmp rfl _ rfl rfl (run_retNode g1)) rfl ?_
    obtain ⟨s1, s2, s3, s4, s5⟩ := HSh2.out
    refine ⟨_, _, _, _, _, _, by rw [← s1, ← s2, ← s3, ← s4, ← s5]; rfl, (HO10.out.keptN g2 (fun k cs t fz hS hc => ?_)).base' (by rw [HR0.out]; exact Nat.le_of_lt hrr), ?_⟩
    · rw [show k = r + 1 from hS, HY10.out] at hc; injection hc with hc; injection hc with _ h4 _; exact h4.symm
    · rw [HR0.out]
      exact HB10.out.trans (g2.below (Nat.le_trans (Nat.le_of_lt hrr) HS10.out) (fun k hk e => by have e' : k = r + 1 := e; omega))

end Go.Proofs.YtibmlgkakeakcaaDoor
/- Where Join refuses (printed by wip/gen/joinform.py). -/
set_option linter.unusedSimpArgs false
set_option linter.unusedVariables false
namespace Go.Proofs.YtibmlgkakeakcaaDoor
open Go.RowKit Go.Proofs.YtibmlgkakeakcaaDoor.Crc
set_option maxRecDepth 10000 in
set_option maxHeartbeats 4000000 in
theorem JoinF_calls {w : World} {a b : NodeM} {kA : Option Addr} {kc : Nat} {vA : Option Addr} {vc : Nat} {iA : Option Addr} {ic : Nat} {kX : Option Addr} {kx : Nat} {vX : Option Addr} {vx : Nat} {iX : Option Addr} {ix : Nat} (h : NodeAt w a kA kc vA vc iA ic) (h' : NodeAt w b kX kx vX vx iX ix) (hc : ¬ (RightM a ∧ RightM b ∧ a.leaf = b.leaf)) (y : ByteArray) :
    Calls Tryd.prog 25 #[.agg #[.bool a.leaf, .slice kA a.keys.length kc, .slice vA a.vals.length vc, .slice iA a.kids.length ic], .string y, .agg #[.bool b.leaf, .slice kX b.keys.length kx, .slice vX b.vals.length vx, .slice iX b.kids.length ix]] w fun e w' => e = .returned (.tuple #[.agg #[.bool false, .slice none 0 0, .slice none 0 0, .slice none 0 0], .int .i64 22]) ∧ Hid (Below w.heap.size w w') := by
  have HRa0 := Lib.hid (fun w' (h : NodeAt w' a kA kc vA vc iA ic) => Right_calls h)
  have HRb0 := Lib.hid (fun w' (h : NodeAt w' b kX kx vX vx iX ix) => Right_calls h)
  obtain ⟨nk, hnk⟩ : ∃ k, a.keys.length = k := ⟨_, rfl⟩
  obtain ⟨nv, hnv⟩ : ∃ k, a.vals.length = k := ⟨_, rfl⟩
  obtain ⟨ni, hni⟩ : ∃ k, a.kids.length = k := ⟨_, rfl⟩
  obtain ⟨la, hla⟩ : ∃ k, a.leaf = k := ⟨_, rfl⟩
  obtain ⟨mk, hmk⟩ : ∃ k, b.keys.length = k := ⟨_, rfl⟩
  obtain ⟨mv, hmv⟩ : ∃ k, b.vals.length = k := ⟨_, rfl⟩
  obtain ⟨mi, hmi⟩ : ∃ k, b.kids.length = k := ⟨_, rfl⟩
  obtain ⟨lb, hlb⟩ : ∃ k, b.leaf = k := ⟨_, rfl⟩
  rw [hnk, hnv, hni, hla] at HRa0 ⊢
  rw [hmk, hmv, hmi, hlb] at HRb0 ⊢
  rw [hla, hlb] at hc
  obtain ⟨h1, hr2, hr3⟩ := node2_boxT w (.bool la) (.slice kA nk kc) (.slice vA nv vc) (.slice iA ni ic) (.bool lb) (.slice kX mk kx) (.slice vX mv vx) (.slice iX mi ix) 28
  obtain ⟨W0, hW0⟩ : ∃ x, (w.alloc (.cells #[.bool la, .slice kA nk kc, .slice vA nv vc, .slice iA ni ic] 28)).alloc (.cells #[.bool lb, .slice kX mk kx, .slice vX mv vx, .slice iX mi ix] 28) = x := ⟨_, rfl⟩
  rw [hW0] at h1 hr2 hr3
  have hs0 : W0.heap.size = w.heap.size + 2 := by rw [← hW0]; simp
  have hb2 : Below W0.heap.size W0 (W0.alloc (.cells #[.bool false, .slice none 0 0, .slice none 0 0, .slice none 0 0] 28)) := (Below.refl _ _).alloc (Nat.le_refl _) _
  have hr4 := heap_alloc_new W0 (.cells #[.bool false, .slice none 0 0, .slice none 0 0, .slice none 0 0] 28)
  have hx1 := (hb2.block _ (by omega)).trans hr2
  have hy1 := (hb2.block _ (by omega)).trans hr3
  obtain ⟨W1, hW1⟩ : ∃ x, W0.alloc (.cells #[.bool false, .slice none 0 0, .slice none 0 0, .slice none 0 0] 28) = x := ⟨_, rfl⟩
  rw [hW1] at hb2 hr4 hx1 hy1
  rw [hs0] at hr4
  have hs1 : W1.heap.size = w.heap.size + 3 := by rw [← hW1]; simp [hs0]
  have hW1' : ((w.alloc (.cells #[.bool la, .slice kA nk kc, .slice vA nv vc, .slice iA ni ic] 28)).alloc (.cells #[.bool lb, .slice kX mk kx, .slice vX mv vx, .slice iX mi ix] 28)).alloc (.cells #[.bool false, .slice none 0 0, .slice none 0 0, .slice none 0 0] 28) = W1 := by rw [hW0]; exact hW1
  have hbw : Below w.heap.size w W1 := h1.trans (hb2.mono (by omega))
  obtain ⟨r, hr0⟩ : ∃ r, w.heap.size = r := ⟨_, rfl⟩
  have HAt := Lib.hid (h.below hbw)
  have HBt := Lib.hid (h'.below hbw)
  rw [hr0] at hr4 hx1 hy1 hbw hs1
  have HX := Lib.hid (box_cells hx1)
  have HY := Lib.hid (box_cells hy1)
  have HZ := Lib.hid hr4
  have HB := Lib.hid hbw
  have HR0 := Lib.hid hr0
  have HS1 := Lib.hid hs1
  have HW := Lib.hid hW1'
  have HRa := Lib.hid (HRa0.out W1 HAt.out)
  rw [← hW1'] at HRa
  have HC := Lib.hid hc
  clear h1 hr2 hr3 hW0 hs0 hb2 hr4 hx1 hy1 hW1 hs1 hW1' hbw hnk hnv hni hla hmk hmv hmi hlb h h' hr0 HRa0 hc
  go_enter Tryd.func25, Tryd.ntmps25
  go_wp2_with (go_at_call 14; (with_reducible refine HRa.out.mono ?_); rintro e w2 ⟨rfl, hb2⟩; refine park ?_; intro q hq)
  rw [HW.out] at hb2
  have HB2 := Lib.hid hb2
  clear hb2 HRa
  refine hq.out ?_
  clear hq
  simp only [HR0.out]
  obtain ⟨x0, x1, x2, x3⟩ := HX.out w2 HB2.out
  obtain ⟨y0, y1, y2, y3⟩ := HY.out w2 HB2.out
  by_cases hra : RightM a
  · rw [rightB_true hra]
    have HRb := Lib.hid (HRb0.out w2 (HBt.out.below HB2.out))
    go_wp2_with (go_at_call 14; (with_reducible refine HRb.out.mono ?_); rintro e w3 ⟨rfl, hb3⟩; refine park ?_; intro q hq)
    have HB3 : Hid (Below W1.heap.size W1 w3) := HB2.out.trans (hb3.mono HB2.out.size)
    clear hb3 HRb HRb0 x0 x1 x2 x3 y0 y1 y2 y3
    refine hq.out ?_
    clear hq
    obtain ⟨x0, x1, x2, x3⟩ := HX.out w3 HB3.out
    obtain ⟨y0, y1, y2, y3⟩ := HY.out w3 HB3.out
    by_cases hrb : RightM b
    · rw [rightB_true hrb]
      cases la <;> cases lb
      · exact absurd ⟨hra, hrb, rfl⟩ HC.out
      · skip
        have hz9 := (HB3.out.block (r + 1 + 1) (by rw [HS1.out]; omega)).trans HZ.out
        obtain ⟨u0, u1, u2, u3⟩ := row4_cells hz9
        obtain ⟨v0, v1, v2, v3⟩ := row4_frozen hz9
        have HZ9 := Lib.hid hz9
        clear hz9
        go_wp2_with fail
        obtain ⟨g1, g2⟩ := row4_put HZ9.out (.bool false) (.slice none 0 0) (.slice none 0 0) (.slice none 0 0)
        refine bodyPost_ret_by (results_cellTmp rfl _ rfl rfl (run_retNode g1)) rfl ?_
        refine ⟨rfl, ?_⟩
        have hs2 : r + 3 ≤ w3.heap.size := by have := HB3.out.size; rw [HS1.out] at this; exact this
        have hfin := (HB.out.trans (HB3.out.mono (by rw [HS1.out]; omega))).trans (g2.below (B := r) (by omega) (fun k hk e => by have e' : k = r + 1 + 1 := e; omega))
        exact (show Below w.heap.size w _ from by rw [HR0.out]; exact hfin)
      · skip
        have hz9 := (HB3.out.block (r + 1 + 1) (by rw [HS1.out]; omega)).trans HZ.out
        obtain ⟨u0, u1, u2, u3⟩ := row4_cells hz9
        obtain ⟨v0, v1, v2, v3⟩ := row4_frozen hz9
        have HZ9 := Lib.hid hz9
        clear hz9
        go_wp2_with fail
        obtain ⟨g1, g2⟩ := row4_put HZ9.out (.bool false) (.slice none 0 0) (.slice none 0 0) (.slice none 0 0)
        refine bodyPost_ret_by (results_cellTmp rfl _ rfl rfl (run_retNode g1)) rfl ?_
        refine ⟨rfl, ?_⟩
        have hs2 : r + 3 ≤ w3.heap.size := by have := HB3.out.size; rw [HS1.out] at this; exact this
        have hfin := (HB.out.trans (HB3.out.mono (by rw [HS1.out]; omega))).trans (g2.below (B := r) (by omega) (fun k hk e => by have e' : k = r + 1 + 1 := e; omega))
        exact (show Below w.heap.size w _ from by rw [HR0.out]; exact hfin)
      · exact absurd ⟨hra, hrb, rfl⟩ HC.out
    · rw [rightB_false hrb]
      have hz9 := (HB3.out.block (r + 1 + 1) (by rw [HS1.out]; omega)).trans HZ.out
      obtain ⟨u0, u1, u2, u3⟩ := row4_cells hz9
      obtain ⟨v0, v1, v2, v3⟩ := row4_frozen hz9
      have HZ9 := Lib.hid hz9
      clear hz9
      go_wp2_with fail
      obtain ⟨g1, g2⟩ := row4_put HZ9.out (.bool false) (.slice none 0 0) (.slice none 0 0) (.slice none 0 0)
      refine bodyPost_ret_by (results_cellTmp rfl _ rfl rfl (run_retNode g1)) rfl ?_
      refine ⟨rfl, ?_⟩
      have hs2 : r + 3 ≤ w3.heap.size := by have := HB3.out.size; rw [HS1.out] at this; exact this
      have hfin := (HB.out.trans (HB3.out.mono (by rw [HS1.out]; omega))).trans (g2.below (B := r) (by omega) (fun k hk e => by have e' : k = r + 1 + 1 := e; omega))
      exact (show Below w.heap.size w _ from by rw [HR0.out]; exact hfin)
  · rw [rightB_false hra]
    have hz9 := (HB2.out.block (r + 1 + 1) (by rw [HS1.out]; omega)).trans HZ.out
    obtain ⟨u0, u1, u2, u3⟩ := row4_cells hz9
    obtain ⟨v0, v1, v2, v3⟩ := row4_frozen hz9
    have HZ9 := Lib.hid hz9
    clear hz9
    go_wp2_with fail
    obtain ⟨g1, g2⟩ := row4_put HZ9.out (.bool false) (.slice none 0 0) (.slice none 0 0) (.slice none 0 0)
    refine bodyPost_ret_by (results_cellTmp rfl _ rfl rfl (run_retNode g1)) rfl ?_
    refine ⟨rfl, ?_⟩
    have hs2 : r + 3 ≤ w2.heap.size := by have := HB2.out.size; rw [HS1.out] at this; exact this
    have hfin := (HB.out.trans (HB2.out.mono (by rw [HS1.out]; omega))).trans (g2.below (B := r) (by omega) (fun k hk e => by have e' : k = r + 1 + 1 := e; omega))
    exact (show Below w.heap.size w _ from by rw [HR0.out]; exact hfin)
set_option maxRecDepth 10000 in
set_option maxHeartbeats 4000000 in
theorem JoinRf_calls {w : World} {a b : NodeM} {kA : Option Addr} {kc : Nat} {vA : Option Addr} {vc : Nat} {iA : Option Addr} {ic : Nat} {kX : Option Addr} {kx : Nat} {vX : Option Addr} {vx : Nat} {iX : Option Addr} {ix : Nat} (h : NodeAt w a kA kc vA vc iA ic) (h' : NodeAt w b kX kx vX vx iX ix) (hc : ¬ (RightM a ∧ RightM b ∧ a.leaf = b.leaf)) (y : ByteArray) :
    Calls Tryd.prog 30 #[.agg #[.bool a.leaf, .slice kA a.keys.length kc, .slice vA a.vals.length vc, .slice iA a.kids.length ic], .string y, .agg #[.bool b.leaf, .slice kX b.keys.length kx, .slice vX b.vals.length vx, .slice iX b.kids.length ix]] w fun e w' => e = .returned (.tuple #[.agg #[.bool false, .slice none 0 0, .slice none 0 0, .slice none 0 0], .int .i64 22]) ∧ Hid (Below w.heap.size w w') := by
  have HRa0 := Lib.hid (fun w' (h : NodeAt w' a kA kc vA vc iA ic) => refRight_calls h)
  have HRb0 := Lib.hid (fun w' (h : NodeAt w' b kX kx vX vx iX ix) => refRight_calls h)
  obtain ⟨nk, hnk⟩ : ∃ k, a.keys.length = k := ⟨_, rfl⟩
  obtain ⟨nv, hnv⟩ : ∃ k, a.vals.length = k := ⟨_, rfl⟩
  obtain ⟨ni, hni⟩ : ∃ k, a.kids.length = k := ⟨_, rfl⟩
  obtain ⟨la, hla⟩ : ∃ k, a.leaf = k := ⟨_, rfl⟩
  obtain ⟨mk, hmk⟩ : ∃ k, b.keys.length = k := ⟨_, rfl⟩
  obtain ⟨mv, hmv⟩ : ∃ k, b.vals.length = k := ⟨_, rfl⟩
  obtain ⟨mi, hmi⟩ : ∃ k, b.kids.length = k := ⟨_, rfl⟩
  obtain ⟨lb, hlb⟩ : ∃ k, b.leaf = k := ⟨_, rfl⟩
  rw [hnk, hnv, hni, hla] at HRa0 ⊢
  rw [hmk, hmv, hmi, hlb] at HRb0 ⊢
  rw [hla, hlb] at hc
  obtain ⟨h1, hr2, hr3⟩ := node2_boxT w (.bool la) (.slice kA nk kc) (.slice vA nv vc) (.slice iA ni ic) (.bool lb) (.slice kX mk kx) (.slice vX mv vx) (.slice iX mi ix) 26
  obtain ⟨W0, hW0⟩ : ∃ x, (w.alloc (.cells #[.bool la, .slice kA nk kc, .slice vA nv vc, .slice iA ni ic] 26)).alloc (.cells #[.bool lb, .slice kX mk kx, .slice vX mv vx, .slice iX mi ix] 26) = x := ⟨_, rfl⟩
  rw [hW0] at h1 hr2 hr3
  have hs0 : W0.heap.size = w.heap.size + 2 := by rw [← hW0]; simp
  have hb2 : Below W0.heap.size W0 (W0.alloc (.cells #[.bool false, .slice none 0 0, .slice none 0 0, .slice none 0 0] 26)) := (Below.refl _ _).alloc (Nat.le_refl _) _
  have hr4 := heap_alloc_new W0 (.cells #[.bool false, .slice none 0 0, .slice none 0 0, .slice none 0 0] 26)
  have hx1 := (hb2.block _ (by omega)).trans hr2
  have hy1 := (hb2.block _ (by omega)).trans hr3
  obtain ⟨W1, hW1⟩ : ∃ x, W0.alloc (.cells #[.bool false, .slice none 0 0, .slice none 0 0, .slice none 0 0] 26) = x := ⟨_, rfl⟩
  rw [hW1] at hb2 hr4 hx1 hy1
  rw [hs0] at hr4
  have hs1 : W1.heap.size = w.heap.size + 3 := by rw [← hW1]; simp [hs0]
  have hW1' : ((w.alloc (.cells #[.bool la, .slice kA nk kc, .slice vA nv vc, .slice iA ni ic] 26)).alloc (.cells #[.bool lb, .slice kX mk kx, .slice vX mv vx, .slice iX mi ix] 26)).alloc (.cells #[.bool false, .slice none 0 0, .slice none 0 0, .slice none 0 0] 26) = W1 := by rw [hW0]; exact hW1
  have hbw : Below w.heap.size w W1 := h1.trans (hb2.mono (by omega))
  obtain ⟨r, hr0⟩ : ∃ r, w.heap.size = r := ⟨_, rfl⟩
  have HAt := Lib.hid (h.below hbw)
  have HBt := Lib.hid (h'.below hbw)
  rw [hr0] at hr4 hx1 hy1 hbw hs1
  have HX := Lib.hid (box_cells hx1)
  have HY := Lib.hid (box_cells hy1)
  have HZ := Lib.hid hr4
  have HB := Lib.hid hbw
  have HR0 := Lib.hid hr0
  have HS1 := Lib.hid hs1
  have HW := Lib.hid hW1'
  have HRa := Lib.hid (HRa0.out W1 HAt.out)
  rw [← hW1'] at HRa
  have HC := Lib.hid hc
  clear h1 hr2 hr3 hW0 hs0 hb2 hr4 hx1 hy1 hW1 hs1 hW1' hbw hnk hnv hni hla hmk hmv hmi hlb h h' hr0 HRa0 hc
  go_enter Tryd.func30, Tryd.ntmps30
  go_wp2_with (go_at_call 15; (with_reducible refine HRa.out.mono ?_); rintro e w2 ⟨rfl, hb2⟩; refine park ?_; intro q hq)
  rw [HW.out] at hb2
  have HB2 := Lib.hid hb2
  clear hb2 HRa
  refine hq.out ?_
  clear hq
  simp only [HR0.out]
  obtain ⟨x0, x1, x2, x3⟩ := HX.out w2 HB2.out
  obtain ⟨y0, y1, y2, y3⟩ := HY.out w2 HB2.out
  by_cases hra : RightM a
  · rw [rightB_true hra]
    have HRb := Lib.hid (HRb0.out w2 (HBt.out.below HB2.out))
    go_wp2_with (go_at_call 15; (with_reducible refine HRb.out.mono ?_); rintro e w3 ⟨rfl, hb3⟩; refine park ?_; intro q hq)
    have HB3 : Hid (Below W1.heap.size W1 w3) := HB2.out.trans (hb3.mono HB2.out.size)
    clear hb3 HRb HRb0 x0 x1 x2 x3 y0 y1 y2 y3
    refine hq.out ?_
    clear hq
    obtain ⟨x0, x1, x2, x3⟩ := HX.out w3 HB3.out
    obtain ⟨y0, y1, y2, y3⟩ := HY.out w3 HB3.out
    by_cases hrb : RightM b
    · rw [rightB_true hrb]
      cases la <;> cases lb
      · exact absurd ⟨hra, hrb, rfl⟩ HC.out
      · skip
        have hz9 := (HB3.out.block (r + 1 + 1) (by rw [HS1.out]; omega)).trans HZ.out
        obtain ⟨u0, u1, u2, u3⟩ := row4_cells hz9
        obtain ⟨v0, v1, v2, v3⟩ := row4_frozen hz9
        have HZ9 := Lib.hid hz9
        clear hz9
        go_wp2_with fail
        obtain ⟨g1, g2⟩ := row4_put HZ9.out (.bool false) (.slice none 0 0) (.slice none 0 0) (.slice none 0 0)
        refine bodyPost_ret_by (results_cellTmp rfl _ rfl rfl (run_retNodeR g1)) rfl ?_
        refine ⟨rfl, ?_⟩
        have hs2 : r + 3 ≤ w3.heap.size := by have := HB3.out.size; rw [HS1.out] at this; exact this
        have hfin := (HB.out.trans (HB3.out.mono (by rw [HS1.out]; omega))).trans (g2.below (B := r) (by omega) (fun k hk e => by have e' : k = r + 1 + 1 := e; omega))
        exact (show Below w.heap.size w _ from by rw [HR0.out]; exact hfin)
      · skip
        have hz9 := (HB3.out.block (r + 1 + 1) (by rw [HS1.out]; omega)).trans HZ.out
        obtain ⟨u0, u1, u2, u3⟩ := row4_cells hz9
        obtain ⟨v0, v1, v2, v3⟩ := row4_frozen hz9
        have HZ9 := Lib.hid hz9
        clear hz9
        go_wp2_with fail
        obtain ⟨g1, g2⟩ := row4_put HZ9.out (.bool false) (.slice none 0 0) (.slice none 0 0) (.slice none 0 0)
        refine bodyPost_ret_by (results_cellTmp rfl _ rfl rfl (run_retNodeR g1)) rfl ?_
        refine ⟨rfl, ?_⟩
        have hs2 : r + 3 ≤ w3.heap.size := by have := HB3.out.size; rw [HS1.out] at this; exact this
        have hfin := (HB.out.trans (HB3.out.mono (by rw [HS1.out]; omega))).trans (g2.below (B := r) (by omega) (fun k hk e => by have e' : k = r + 1 + 1 := e; omega))
        exact (show Below w.heap.size w _ from by rw [HR0.out]; exact hfin)
      · exact absurd ⟨hra, hrb, rfl⟩ HC.out
    · rw [rightB_false hrb]
      have hz9 := (HB3.out.block (r + 1 + 1) (by rw [HS1.out]; omega)).trans HZ.out
      obtain ⟨u0, u1, u2, u3⟩ := row4_cells hz9
      obtain ⟨v0, v1, v2, v3⟩ := row4_frozen hz9
      have HZ9 := Lib.hid hz9
      clear hz9
      go_wp2_with fail
      obtain ⟨g1, g2⟩ := row4_put HZ9.out (.bool false) (.slice none 0 0) (.slice none 0 0) (.slice none 0 0)
      refine bodyPost_ret_by (results_cellTmp rfl _ rfl rfl (run_retNodeR g1)) rfl ?_
      refine ⟨rfl, ?_⟩
      have hs2 : r + 3 ≤ w3.heap.size := by have := HB3.out.size; rw [HS1.out] at this; exact this
      have hfin := (HB.out.trans (HB3.out.mono (by rw [HS1.out]; omega))).trans (g2.below (B := r) (by omega) (fun k hk e => by have e' : k = r + 1 + 1 := e; omega))
      exact (show Below w.heap.size w _ from by rw [HR0.out]; exact hfin)
  · rw [rightB_false hra]
    have hz9 := (HB2.out.block (r + 1 + 1) (by rw [HS1.out]; omega)).trans HZ.out
    obtain ⟨u0, u1, u2, u3⟩ := row4_cells hz9
    obtain ⟨v0, v1, v2, v3⟩ := row4_frozen hz9
    have HZ9 := Lib.hid hz9
    clear hz9
    go_wp2_with fail
    obtain ⟨g1, g2⟩ := row4_put HZ9.out (.bool false) (.slice none 0 0) (.slice none 0 0) (.slice none 0 0)
    refine bodyPost_ret_by (results_cellTmp rfl _ rfl rfl (run_retNodeR g1)) rfl ?_
    refine ⟨rfl, ?_⟩
    have hs2 : r + 3 ≤ w2.heap.size := by have := HB2.out.size; rw [HS1.out] at this; exact this
    have hfin := (HB.out.trans (HB2.out.mono (by rw [HS1.out]; omega))).trans (g2.below (B := r) (by omega) (fun k hk e => by have e' : k = r + 1 + 1 := e; omega))
    exact (show Below w.heap.size w _ from by rw [HR0.out]; exact hfin)
end Go.Proofs.YtibmlgkakeakcaaDoor
/- The walk of the law's own spoil. -/
set_option linter.unusedSimpArgs false
set_option linter.unusedVariables false
namespace Go.Proofs.YtibmlgkakeakcaaDoor
open Go.RowKit Go.Proofs.YtibmlgkakeakcaaDoor.Crc
theorem set_ty {wr : World} {g : Nat} {T : TypeId} {cur : Array Value} (hc : wr.heap[g]? = some (.cells cur T (0, 0))) : ∀ k cs t fz, k = g → wr.heap[k]? = some (.cells cs t fz) → t = T := fun k cs t fz e hc' => by
  rw [e, hc] at hc'; injection hc' with hc'; injection hc' with _ h4 _; exact h4.symm
/-- A node's memory of one's own, whatever it holds. -/
structure Sh (wr : World) (B : Nat) (kA : Option Addr) (nk kc : Nat) (vA : Option Addr) (nv vc : Nat) (iA : Option Addr) (ni ic : Nat) (us : List Value) : Prop where
  k : ∃ ks : List (List UInt8), ks.length = nk ∧ OwnVs wr B 9 (.slice kA nk kc) (strs ks)
  v : OwnVs wr B 30 (.slice vA nv vc) us
  b : ∀ u ∈ us, ∃ (l : List UInt8) (A : Option Addr) (c : Nat), u = .slice A l.length c ∧ OwnB wr B u l
  i : ∃ zs : List Int, zs.length = ni ∧ OwnVs wr B 3 (.slice iA ni ic) (ints zs)
theorem OwnVs.setAny {w : World} {B : Nat} {t : TypeId} {A : Option Addr} {n c : Nat} {vs : List Value} (h : OwnVs w B t (.slice A n c) vs) {g : Nat} {cur : Array Value} (hg : w.heap[g]? = some (.cells cur t (0, 0))) (k : Nat) (x : Value) : OwnVs (w.setCell ⟨g, k, none⟩ x) B t (.slice A n c) vs ∨ OwnVs (w.setCell ⟨g, k, none⟩ x) B t (.slice A n c) (vs.set k x) := by
  rcases h.form with ⟨e, e2⟩ | ⟨g2, c2, e, _⟩
  · exact .inl (h.kept (Kept.set1 w g k x) (fun k hv => by simp only [Value.slice.injEq] at e; obtain ⟨rfl, _⟩ := e; cases hv))
  · simp only [Value.slice.injEq] at e
    obtain ⟨rfl, _⟩ := e
    by_cases hgg : g2 = g
    · subst hgg; exact .inr (h.set k x)
    · exact .inl (h.kept (Kept.set1 w g k x) (fun k hv hS => by cases hv; exact hgg hS))
theorem Sh.setStr {wr : World} {B : Nat} {kA : Option Addr} {nk kc : Nat} {vA : Option Addr} {nv vc : Nat} {iA : Option Addr} {ni ic : Nat} {us : List Value} (h : Sh wr B kA nk kc vA nv vc iA ni ic us) {g : Nat} {cur : Array Value} (hcur : wr.heap[g]? = some (.cells cur 9 (0, 0))) (k : Nat) (x : List UInt8) : Sh (wr.setCell ⟨g, k, none⟩ (strV x)) B kA nk kc vA nv vc iA ni ic us := by
  have hty := set_ty hcur
  have hs : Kept (· = g) wr (wr.setCell ⟨g, k, none⟩ (strV x)) := Kept.set1 wr g k _
  refine ⟨?_, h.v.keptT hs (fun k cs hS hc' => absurd (hty _ _ _ _ hS hc') (by decide)), ?_, ?_⟩
  · obtain ⟨ks, hl, hk⟩ := h.k
    rcases hk.setAny hcur k (strV x) with h1 | h1
    · exact ⟨ks, hl, h1⟩
    · rw [show (strs ks).set k (strV x) = strs (ks.set k x) from by unfold strs; rw [List.map_set]] at h1
      exact ⟨ks.set k x, by rw [List.length_set]; exact hl, h1⟩
  · intro u hu
    obtain ⟨l, A, c, rfl, hb'⟩ := h.b u hu
    exact ⟨l, A, c, rfl, hb'.kept hs (fun k hv hS => by obtain ⟨cur', hc'⟩ := ownsRow_block hb' hv; exact absurd (hty _ _ _ _ hS hc') (by decide))⟩
  · obtain ⟨zs, hz, hi⟩ := h.i
    exact ⟨zs, hz, hi.keptT hs (fun k cs hS hc' => absurd (hty _ _ _ _ hS hc') (by decide))⟩
theorem Sh.setInt {wr : World} {B : Nat} {kA : Option Addr} {nk kc : Nat} {vA : Option Addr} {nv vc : Nat} {iA : Option Addr} {ni ic : Nat} {us : List Value} (h : Sh wr B kA nk kc vA nv vc iA ni ic us) {g : Nat} {cur : Array Value} (hcur : wr.heap[g]? = some (.cells cur 3 (0, 0))) (k : Nat) (x : Int) : Sh (wr.setCell ⟨g, k, none⟩ (intV x)) B kA nk kc vA nv vc iA ni ic us := by
  have hty := set_ty hcur
  have hs : Kept (· = g) wr (wr.setCell ⟨g, k, none⟩ (intV x)) := Kept.set1 wr g k _
  refine ⟨?_, h.v.keptT hs (fun k cs hS hc' => absurd (hty _ _ _ _ hS hc') (by decide)), ?_, ?_⟩
  · obtain ⟨zs, hz, hi⟩ := h.k
    exact ⟨zs, hz, hi.keptT hs (fun k cs hS hc' => absurd (hty _ _ _ _ hS hc') (by decide))⟩
  · intro u hu
    obtain ⟨l, A, c, rfl, hb'⟩ := h.b u hu
    exact ⟨l, A, c, rfl, hb'.kept hs (fun k hv hS => by obtain ⟨cur', hc'⟩ := ownsRow_block hb' hv; exact absurd (hty _ _ _ _ hS hc') (by decide))⟩
  · obtain ⟨ks, hl, hk⟩ := h.i
    rcases hk.setAny hcur k (intV x) with h1 | h1
    · exact ⟨ks, hl, h1⟩
    · rw [show (ints ks).set k (intV x) = ints (ks.set k x) from by unfold ints; rw [List.map_set]] at h1
      exact ⟨ks.set k x, by rw [List.length_set]; exact hl, h1⟩
theorem Sh.setByte {wr : World} {B : Nat} {kA : Option Addr} {nk kc : Nat} {vA : Option Addr} {nv vc : Nat} {iA : Option Addr} {ni ic : Nat} {us : List Value} (h : Sh wr B kA nk kc vA nv vc iA ni ic us) {g : Nat} {cur : Array Value} (hcur : wr.heap[g]? = some (.cells cur 5 (0, 0))) (k : Nat) (x : UInt8) : Sh (wr.setCell ⟨g, k, none⟩ (.int .u8 (x.toNat : Int))) B kA nk kc vA nv vc iA ni ic us := by
  have hty := set_ty hcur
  have hs : Kept (· = g) wr (wr.setCell ⟨g, k, none⟩ (.int .u8 (x.toNat : Int))) := Kept.set1 wr g k _
  refine ⟨?_, h.v.keptT hs (fun k cs hS hc' => absurd (hty _ _ _ _ hS hc') (by decide)), ?_, ?_⟩
  · obtain ⟨zs, hz, hi⟩ := h.k
    exact ⟨zs, hz, hi.keptT hs (fun k cs hS hc' => absurd (hty _ _ _ _ hS hc') (by decide))⟩
  · intro u hu'
    obtain ⟨l2, A2, c2, rfl, hb'⟩ := h.b u hu'
    rcases hb'.form with ⟨e, hl⟩ | ⟨g2, c3, e, _, _, _⟩
    · simp only [Value.slice.injEq] at e
      obtain ⟨rfl, _, rfl⟩ := e
      exact ⟨l2, none, 0, rfl, hb'.kept hs (fun k hv hS => by cases hv)⟩
    · simp only [Value.slice.injEq] at e
      obtain ⟨rfl, _, rfl⟩ := e
      by_cases hg : g2 = g
      · subst hg
        exact ⟨l2.set k x, _, c2, by rw [List.length_set], by have := hb'.set k x; exact this⟩
      · exact ⟨l2, _, c2, rfl, hb'.kept hs (fun k hv hS => by cases hv; exact hg hS)⟩
  · obtain ⟨zs, hz, hi⟩ := h.i
    exact ⟨zs, hz, hi.keptT hs (fun k cs hS hc' => absurd (hty _ _ _ _ hS hc') (by decide))⟩
theorem Sh.below {wr w' : World} {B : Nat} {kA : Option Addr} {nk kc : Nat} {vA : Option Addr} {nv vc : Nat} {iA : Option Addr} {ni ic : Nat} {us : List Value} (h : Sh wr B kA nk kc vA nv vc iA ni ic us) (hb : Below wr.heap.size wr w') : Sh w' B kA nk kc vA nv vc iA ni ic us := by
  obtain ⟨ks, h1, h2⟩ := h.k
  obtain ⟨zs, h3, h4⟩ := h.i
  refine ⟨⟨ks, h1, h2.below hb⟩, h.v.below hb, fun u hu => ?_, ⟨zs, h3, h4.below hb⟩⟩
  obtain ⟨l, A, c, rfl, hb'⟩ := h.b u hu
  exact ⟨l, A, c, rfl, hb'.below hb⟩
theorem NodeOwn.sh {w : World} {B : Nat} {n : NodeM} {kA : Option Addr} {kc : Nat} {vA : Option Addr} {vc : Nat} {iA : Option Addr} {ic : Nat} (h : NodeOwn w B n kA kc vA vc iA ic) : ∃ us, us.length = n.vals.length ∧ Sh w B kA n.keys.length kc vA n.vals.length vc iA n.kids.length ic us := by
  obtain ⟨us, hu1, hu2⟩ := RowsV.of_own h.v
  refine ⟨us, hu2.len, ⟨n.keys, rfl, h.k⟩, hu1, fun u hu => ?_, ⟨n.kids, rfl, h.i⟩⟩
  obtain ⟨ps, e1, e2, h2⟩ := hu2
  rw [e1] at hu
  obtain ⟨p, hp, rfl⟩ := List.mem_map.1 hu
  obtain ⟨A, c, h3, h4⟩ := h2 p hp
  exact ⟨p.2, A, c, h3, h4⟩
/-- What spoiling keeps. -/
structure SpK (w wr : World) : Prop where
  ty : ∀ (k : Nat) (cs : Array Value) (T : TypeId) (fz : Nat × Nat), w.heap[k]? = some (.cells cs T fz) → T ≠ 9 → T ≠ 3 → T ≠ 5 → wr.heap[k]? = some (.cells cs T fz)
  oth : ∀ B kA nk kc vA nv vc iA ni ic us, Sh w B kA nk kc vA nv vc iA ni ic us → Sh wr B kA nk kc vA nv vc iA ni ic us
theorem SpK.of_below {w wr : World} (h : Below w.heap.size w wr) : SpK w wr := ⟨fun k cs T fz hk _ _ _ => (h.block k (Array.getElem?_eq_some_iff.1 hk).1).trans hk, fun B kA nk kc vA nv vc iA ni ic us hs => hs.below h⟩
/-- A node of one's own that is being spoilt. -/
structure Spo (B r : Nat) (w wr : World) (lf : Bool) (kA : Option Addr) (nk kc : Nat) (vA : Option Addr) (nv vc : Nat) (iA : Option Addr) (ni ic : Nat) (us : List Value) : Prop where
  row : wr.heap[r]? = some (.cells #[.bool lf, .slice kA nk kc, .slice vA nv vc, .slice iA ni ic] 28 (0, 0))
  s : Sh wr B kA nk kc vA nv vc iA ni ic us
  be : Below B w wr
  sz : B ≤ wr.heap.size
  kp : SpK w wr
theorem SpK.set {w wr w' : World} (h : SpK w wr) {g : Nat} {cur : Array Value} {t : TypeId} (hcur : wr.heap[g]? = some (.cells cur t (0, 0))) (ht : t = 9 ∨ t = 3 ∨ t = 5) (hk : Kept (· = g) wr w') (ho : ∀ B kA nk kc vA nv vc iA ni ic us, Sh wr B kA nk kc vA nv vc iA ni ic us → Sh w' B kA nk kc vA nv vc iA ni ic us) : SpK w w' :=
  ⟨fun k cs T fz hc h1 h2 h3 => by
    have hc2 := h.ty k cs T fz hc h1 h2 h3
    refine (hk.block k (Array.getElem?_eq_some_iff.1 hc2).1 (fun e => ?_)).trans hc2
    have e' : k = g := e
    have := set_ty hcur _ _ _ _ e' hc2
    rcases ht with rfl | rfl | rfl
    · exact h1 this
    · exact h2 this
    · exact h3 this, fun B kA nk kc vA nv vc iA ni ic us hs => ho _ _ _ _ _ _ _ _ _ _ _ (h.oth _ _ _ _ _ _ _ _ _ _ _ hs)⟩
theorem Spo.rowK {B r : Nat} {w wr w' : World} {lf : Bool} {kA : Option Addr} {nk kc : Nat} {vA : Option Addr} {nv vc : Nat} {iA : Option Addr} {ni ic : Nat} {us : List Value} (h : Spo B r w wr lf kA nk kc vA nv vc iA ni ic us) {g : Nat} {cur : Array Value} {t : TypeId} (hcur : wr.heap[g]? = some (.cells cur t (0, 0))) (ht : t ≠ 28) (hk : Kept (· = g) wr w') : w'.heap[r]? = some (.cells #[.bool lf, .slice kA nk kc, .slice vA nv vc, .slice iA ni ic] 28 (0, 0)) :=
  (hk.block r (Array.getElem?_eq_some_iff.1 h.row).1 (fun e => ht (set_ty hcur _ _ _ _ e h.row).symm)).trans h.row
theorem Spo.setK {B r : Nat} {w wr : World} {lf : Bool} {kA : Option Addr} {nk kc : Nat} {vA : Option Addr} {nv vc : Nat} {iA : Option Addr} {ni ic : Nat} {us : List Value} (h : Spo B r w wr lf kA nk kc vA nv vc iA ni ic us) (k : Nat) (hk : k < nk) (x : List UInt8) :
    ∃ g, kA = some ⟨g, 0, none⟩ ∧ (∃ y, wr.cell? ⟨g, k, none⟩ = some (.string y)) ∧ wr.frozen? ⟨g, k, none⟩ = false ∧ Hid (Spo B r w (wr.setCell ⟨g, k, none⟩ (strV x)) lf kA nk kc vA nv vc iA ni ic us) := by
  obtain ⟨ks, hl, hk0⟩ := h.s.k
  obtain ⟨g, rfl, hf, hc⟩ := hk0.fr k (by rw [strs_length, hl]; exact hk)
  rw [strs_get] at hc
  have hb := hk0.lt g rfl
  obtain ⟨cur, hcur⟩ := ownsRow_block hk0 (show (Value.slice (some ⟨g, 0, none⟩) nk kc).ownBlock = some g from rfl)
  have hs : Kept (· = g) wr (wr.setCell ⟨g, k, none⟩ (strV x)) := Kept.set1 wr g k _
  exact ⟨g, rfl, ⟨_, hc⟩, hf, h.rowK hcur (by decide) hs, h.s.setStr hcur k x, h.be.trans (hs.below h.sz (fun k hk e => by have e' : k = g := e; omega)), Nat.le_trans h.sz hs.size, h.kp.set hcur (.inl rfl) hs (fun _ _ _ _ _ _ _ _ _ _ _ hh => hh.setStr hcur k x)⟩
theorem Spo.setI {B r : Nat} {w wr : World} {lf : Bool} {kA : Option Addr} {nk kc : Nat} {vA : Option Addr} {nv vc : Nat} {iA : Option Addr} {ni ic : Nat} {us : List Value} (h : Spo B r w wr lf kA nk kc vA nv vc iA ni ic us) (k : Nat) (hk : k < ni) :
    ∃ g z, iA = some ⟨g, 0, none⟩ ∧ wr.cell? ⟨g, k, none⟩ = some (.int .i64 z) ∧ wr.frozen? ⟨g, k, none⟩ = false ∧ Hid (∀ x, Spo B r w (wr.setCell ⟨g, k, none⟩ (.int .i64 x)) lf kA nk kc vA nv vc iA ni ic us) := by
  obtain ⟨zs, hl, hk0⟩ := h.s.i
  obtain ⟨g, rfl, hf, hc⟩ := hk0.fr k (by rw [ints_length, hl]; exact hk)
  rw [ints_get] at hc
  have hb := hk0.lt g rfl
  obtain ⟨cur, hcur⟩ := ownsRow_block hk0 (show (Value.slice (some ⟨g, 0, none⟩) ni ic).ownBlock = some g from rfl)
  refine ⟨g, _, rfl, hc, hf, fun x => ?_⟩
  have hs : Kept (· = g) wr (wr.setCell ⟨g, k, none⟩ (intV x)) := Kept.set1 wr g k _
  exact ⟨h.rowK hcur (by decide) hs, h.s.setInt hcur k x, h.be.trans (hs.below h.sz (fun k hk e => by have e' : k = g := e; omega)), Nat.le_trans h.sz hs.size, h.kp.set hcur (.inr (.inl rfl)) hs (fun _ _ _ _ _ _ _ _ _ _ _ hh => hh.setInt hcur k x)⟩
theorem Spo.setB {B r : Nat} {w wr : World} {lf : Bool} {kA : Option Addr} {nk kc : Nat} {vA : Option Addr} {nv vc : Nat} {iA : Option Addr} {ni ic : Nat} {us : List Value} (h : Spo B r w wr lf kA nk kc vA nv vc iA ni ic us) {A : Option Addr} {m c : Nat} (hu : Value.slice A m c ∈ us) (k : Nat) (hk : k < m) :
    ∃ g, ∃ y : UInt8, A = some ⟨g, 0, none⟩ ∧ wr.cell? ⟨g, k, none⟩ = some (.int .u8 (y.toNat : Int)) ∧ wr.frozen? ⟨g, k, none⟩ = false ∧ Hid (∀ x : UInt8, Spo B r w (wr.setCell ⟨g, k, none⟩ (.int .u8 (x.toNat : Int))) lf kA nk kc vA nv vc iA ni ic us) := by
  obtain ⟨l, A', c', e, hb0⟩ := h.s.b _ hu
  simp only [Value.slice.injEq] at e
  obtain ⟨rfl, rfl, rfl⟩ := e
  rcases hb0.form with ⟨e, hl⟩ | ⟨g, c2, e, hbg, hgs, _⟩
  · rw [hl] at hk; exact absurd hk (by simp)
  simp only [Value.slice.injEq] at e
  obtain ⟨rfl, _, rfl⟩ := e
  obtain ⟨cur, hcur⟩ := ownsRow_block hb0 (show (Value.slice (some ⟨g, 0, none⟩) l.length c).ownBlock = some g from rfl)
  have hcl := hb0.cells k hk
  refine ⟨g, _, rfl, hcl.1, hcl.2, fun x => ?_⟩
  have hs : Kept (· = g) wr (wr.setCell ⟨g, k, none⟩ (.int .u8 (x.toNat : Int))) := Kept.set1 wr g k _
  exact ⟨h.rowK hcur (by decide) hs, h.s.setByte hcur k x, h.be.trans (hs.below h.sz (fun k hk e => by have e' : k = g := e; omega)), Nat.le_trans h.sz hs.size, h.kp.set hcur (.inr (.inr rfl)) hs (fun _ _ _ _ _ _ _ _ _ _ _ hh => hh.setByte hcur k x)⟩
set_option maxRecDepth 10000 in
set_option maxHeartbeats 8000000 in
theorem spoil_calls {w : World} {B : Nat} {lf : Bool} {nk nv ni : Nat} {us : List Value} {kA : Option Addr} {kc : Nat} {vA : Option Addr} {vc : Nat} {iA : Option Addr} {ic : Nat} (h : Sh w B kA nk kc vA nv vc iA ni ic us) (hul : us.length = nv) (hB : B ≤ w.heap.size) (hn : nk ≤ 5000 ∧ nv ≤ 5000 ∧ ni ≤ 5000) :
    Calls Tryd.prog 27 #[.agg #[.bool lf, .slice kA nk kc, .slice vA nv vc, .slice iA ni ic]] w fun e w' => e = .returned (.tuple #[]) ∧ Hid (Below B w w' ∧ SpK w w') := by
  obtain ⟨hb1, hr1⟩ := node_box w (.bool lf) (.slice kA nk kc) (.slice vA nv vc) (.slice iA ni ic) 28
  have hO := h.below hb1
  obtain ⟨r, hr0⟩ : ∃ r, w.heap.size = r := ⟨_, rfl⟩
  have hb1' := hb1.mono hB
  have hkp := SpK.of_below hb1
  rw [hr0] at hr1
  obtain ⟨W1, hW1⟩ : ∃ x, w.alloc (.cells #[.bool lf, .slice kA nk kc, .slice vA nv vc, .slice iA ni ic] 28) = x := ⟨_, rfl⟩
  rw [hW1] at hr1 hO hb1' hkp
  have HR0 := Lib.hid hr0
  have HW := Lib.hid hW1
  have H0 : Hid (Spo B r w W1 lf kA nk kc vA nv vc iA ni ic us) := ⟨hr1, hO, hb1', Nat.le_trans hB (by have := hb1.size; rw [hW1] at this; exact this), hkp⟩
  have HUl : Hid (us.length = nv) := hul
  have hn1 : nk ≤ 5000 := hn.1
  have hn2 : nv ≤ 5000 := hn.2.1
  have hn3 : ni ≤ 5000 := hn.2.2
  clear h hO hul hb1 hb1' hr1 hr0 hW1 hB hn hkp
  go_enter Tryd.func27, Tryd.ntmps27
  go_wp2_with fail
  simp only [HR0.out, HW.out]
  obtain ⟨x0, x1, x2, x3⟩ := row4_cells H0.out.row
  go_wp2_with fail
  clear x0 x1 x2 x3
  go_loopw [10] (fun i wr => ∃ t : Nat, t ≤ nk ∧ i = .int .i64 (t : Int) ∧ Hid (Spo B r w wr lf kA nk kc vA nv vc iA ni ic us)) (fun i _ => nk - (intOf i).toNat)
  case atStart => exact ⟨0, Nat.zero_le _, rfl, H0.out⟩
  case round =>
    obtain ⟨t, ht, rfl, HS⟩ := hrel
    obtain ⟨x0, x1, x2, x3⟩ := row4_cells HS.out.row
    by_cases hlt : t < nk
    · obtain ⟨g, rfl, ⟨y, hy⟩, hf, HN⟩ := HS.out.setK t hlt [122, 122]
      have HNx : Hid (Spo B r w (wr.setCell ⟨g, t, none⟩ (.string { data := #[122, 122] })) lf (some ⟨g, 0, none⟩) nk kc vA nv vc iA ni ic us) := HN.out
      clear HN HS H0
      go_wp2_with fail
      exact ⟨⟨t + 1, by omega, by simp, HNx.out⟩, by simp [intOf]; omega⟩
    · obtain rfl : t = nk := by omega
      clear hlt H0
      go_wp2_with fail
      clear x0 x1 x2 x3
      go_loopw [21] (fun i wr => ∃ t' : Nat, t' ≤ nv ∧ i = .int .i64 (t' : Int) ∧ Hid (Spo B r w wr lf kA t kc vA nv vc iA ni ic us)) (fun i _ => nv - (intOf i).toNat)
      case atStart => exact ⟨0, Nat.zero_le _, rfl, HS.out⟩
      case round =>
        obtain ⟨t', ht', rfl, HV⟩ := hrel
        clear HS
        by_cases hlt : t' < nv
        · obtain ⟨g, rfl, hf, hc⟩ := HV.out.s.v.fr t' (by rw [HUl.out]; exact hlt)
          obtain ⟨u, hu⟩ : ∃ u, us[t']'(by rw [HUl.out]; exact hlt) = u := ⟨_, rfl⟩
          have hmem : u ∈ us := by rw [← hu]; exact List.getElem_mem _
          rw [hu] at hc
          obtain ⟨l, A, c, rfl, hob⟩ := HV.out.s.b u hmem
          obtain ⟨m, hm⟩ : ∃ m, l.length = m := ⟨_, rfl⟩
          have hmb : m ≤ 9223372036854775807 := by rw [← hm]; obtain ⟨A', c', e, _, h1, h2⟩ := hob.sl; omega
          rw [hm] at hc hmem
          have HM := Lib.hid hmem
          clear hob hm hu hmem
          go_wp2_with fail
          clear hc hf
          go_loopw [27] (fun i wr => ∃ j : Nat, j ≤ m ∧ i = .int .i64 (j : Int) ∧ Hid (Spo B r w wr lf kA t kc (some ⟨g, 0, none⟩) nv vc iA ni ic us)) (fun i _ => m - (intOf i).toNat)
          case atStart => exact ⟨0, Nat.zero_le _, rfl, HV.out⟩
          case round =>
            obtain ⟨j, hj, rfl, HJ⟩ := hrel
            clear HV
            by_cases hlt2 : j < m
            · obtain ⟨g2, y, rfl, hc2, hf2, HN⟩ := HJ.out.setB HM.out j hlt2
              have HNx := Lib.hid (HN.out (y + 1))
              have hy1 : IntKind.u8.wrap ((y.toNat : Int) + 1) = ((y + 1).toNat : Int) := by
                rw [IntKind.wrap_u8, UInt8.toNat_add]; simp
              obtain ⟨z, hz⟩ : ∃ z, ((y + 1).toNat : Int) = z := ⟨_, rfl⟩
              rw [hz] at hy1 HNx
              obtain ⟨z0, hz0⟩ : ∃ z0, (y.toNat : Int) = z0 := ⟨_, rfl⟩
              rw [hz0] at hy1 hc2
              clear HN HJ hz hz0
              go_wp2_with fail
              exact ⟨⟨j + 1, by omega, by simp, HNx.out⟩, by simp [intOf]; omega⟩
            · obtain rfl : j = m := by omega
              go_wp2_with fail
              exact ⟨⟨t' + 1, by omega, by simp, HJ.out⟩, by simp [intOf]; omega⟩
        · obtain rfl : t' = nv := by omega
          clear hlt
          obtain ⟨x0, x1, x2, x3⟩ := row4_cells HV.out.row
          go_wp2_with fail
          clear x0 x1 x2 x3
          go_loopw [41] (fun i wr => ∃ j : Nat, j ≤ ni ∧ i = .int .i64 (j : Int) ∧ Hid (Spo B r w wr lf kA t kc vA t' vc iA ni ic us)) (fun i _ => ni - (intOf i).toNat)
          case atStart => exact ⟨0, Nat.zero_le _, rfl, HV.out⟩
          case round =>
            obtain ⟨j, hj, rfl, HJ⟩ := hrel
            clear HV
            obtain ⟨x0, x1, x2, x3⟩ := row4_cells HJ.out.row
            by_cases hlt2 : j < ni
            · obtain ⟨g2, z, rfl, hc2, hf2, HN⟩ := HJ.out.setI j hlt2
              have HNx := Lib.hid (HN.out (wrap64 (z - 1)))
              obtain ⟨z1, hz1⟩ : ∃ z1, wrap64 (z - 1) = z1 := ⟨_, rfl⟩
              rw [hz1] at HNx
              clear HN HJ
              go_wp2_with fail
              exact ⟨⟨j + 1, by omega, by simp, HNx.out⟩, by simp [intOf]; omega⟩
            · obtain rfl : j = ni := by omega
              go_wp2_with fail
              clear x0 x1 x2 x3
              go_end0
              exact ⟨rfl, HJ.out.be, HJ.out.kp⟩
end Go.Proofs.YtibmlgkakeakcaaDoor
/- copied: a node whose memory is all one's own (printed by wip/gen/unigen.py). -/
set_option linter.unusedSimpArgs false
set_option linter.unusedVariables false
namespace Go.Proofs.YtibmlgkakeakcaaDoor
open Go.RowKit Go.Proofs.YtibmlgkakeakcaaDoor.Crc
set_option maxRecDepth 10000 in
set_option maxHeartbeats 4000000 in
theorem copiedO_calls {w : World} {n : NodeM} {kA : Option Addr} {kc : Nat} {vA : Option Addr} {vc : Nat} {iA : Option Addr} {ic : Nat} (h : NodeAt w n kA kc vA vc iA ic) (hn : n.keys.length ≤ 1000 ∧ n.vals.length ≤ 1000 ∧ n.kids.length ≤ 1000) (hv : ∀ v ∈ n.vals, v.length ≤ 1000) :
    Calls Tryd.prog 9 #[.agg #[.bool n.leaf, .slice kA n.keys.length kc, .slice vA n.vals.length vc, .slice iA n.kids.length ic]] w fun e w' => ∃ kB kd vB vd iB id, e = .returned (.agg #[.bool n.leaf, .slice kB n.keys.length kd, .slice vB n.vals.length vd, .slice iB n.kids.length id]) ∧ Hid (NodeOwn w' w.heap.size n kB kd vB vd iB id ∧ Below w.heap.size w w') := by
  obtain ⟨lf, ks, vs, is⟩ := n
  obtain ⟨hb1, hr1, hr2⟩ := node2_box' w (.bool lf) (.slice kA ks.length kc) (.slice vA vs.length vc) (.slice iA is.length ic) (.bool false) (.slice none 0 0) (.slice none 0 0) (.slice none 0 0) 26 28
  obtain ⟨w1, hw1⟩ : ∃ w1, (w.alloc (.cells #[.bool lf, .slice kA ks.length kc, .slice vA vs.length vc, .slice iA is.length ic] 26)).alloc (.cells #[.bool false, .slice none 0 0, .slice none 0 0, .slice none 0 0] 28) = w1 := ⟨_, rfl⟩
  rw [hw1] at hb1 hr1 hr2
  have hx := box_cells hr1
  have H := Lib.hid (h.below hb1)
  have HB0 : Hid (Below w.heap.size w w1) := hb1
  have hsz : Hid (w.heap.size ≤ w1.heap.size) := hb1.size
  have HR2 := Lib.hid hr2
  obtain ⟨r, hr0⟩ : ∃ r, w.heap.size = r := ⟨_, rfl⟩
  rw [hr0] at hx HR2
  have HX := Lib.hid hx
  have HNs : Hid (ks.length ≤ 1000 ∧ vs.length ≤ 1000 ∧ is.length ≤ 1000) := hn
  have HVl := Lib.hid hv
  clear hb1 hr1 hr2 hx h hn hv
  obtain ⟨B, hBe⟩ : ∃ B, w1.heap.size = B := ⟨_, rfl⟩
  have hrB : r + 1 < B := by rw [← hBe]; exact (Array.getElem?_eq_some_iff.1 HR2.out).1
  rw [hBe] at hsz HX
  obtain ⟨nk, hnk⟩ : ∃ k, ks.length = k := ⟨_, rfl⟩
  obtain ⟨nv, hnv⟩ : ∃ k, vs.length = k := ⟨_, rfl⟩
  obtain ⟨ni, hni⟩ : ∃ k, is.length = k := ⟨_, rfl⟩
  have HKs : Hid (nk = (strs ks).length ∧ (kA = none → kc = 0) ∧ ValsAt w1 kA (strs ks)) := ⟨by rw [strs_length, hnk], H.out.kn.1, H.out.k⟩
  have HIs : Hid (ni = (ints is).length ∧ (iA = none → ic = 0) ∧ ValsAt w1 iA (ints is)) := ⟨by rw [ints_length, hni], H.out.inn.1, H.out.i⟩
  have HK := Lib.hid hnk
  have HV := Lib.hid hnv
  have HI := Lib.hid hni
  simp only at hw1 ⊢
  simp only [hnk, hnv, hni] at hw1 HX
  rw [hnk, hnv, hni]
  clear hnk hnv hni
  go_enter Tryd.func9, Tryd.ntmps9
  go_wp2_with fail
  clear hw1
  refine wp_region_inv (fun listed a w' => ∃ (l0 l1 l2 l3 l4 l5 l6 l7 l8 l9 l10 l11 l12 : Bool) (x8 x11 x12 x15 x3 : Value), listed = #[l0, l1, l2, l3, l4, l5, l6, l7, l8, l9, l10, l11, l12] ∧ a = ⟨#[Value.agg #[Value.bool lf, Value.slice kA nk kc, Value.slice vA nv vc, Value.slice iA ni ic], Value.pointer (some ⟨r, 0, none⟩), Value.pointer (some ⟨r + 1, 0, none⟩), bif l11 then x3 else undef, undef, undef, bif l0 then Value.pointer (some ⟨r, 0, none⟩) else undef, bif l1 then Value.bool lf else undef, bif l2 then x8 else undef, bif l3 then Value.pointer (some ⟨r, 1, none⟩) else undef, bif l4 then Value.slice kA nk kc else undef, bif l5 then x11 else undef, bif l6 then x12 else undef, bif l7 then Value.pointer (some ⟨r, 3, none⟩) else undef, bif l8 then Value.slice iA ni ic else undef, bif l9 then x15 else undef, bif l10 then Value.agg #[Value.bool lf, x11, Value.slice none 0 0, x15] else undef, undef, undef, undef, undef, undef, undef, undef, undef, undef, undef, undef, undef, undef, undef, undef, undef, undef], []⟩ ∧ Below B w1 w' ∧ (l2 = true → l5 = false → OwnVs w' B 9 x8 []) ∧ (l5 = true → OwnVs w' B 9 x11 (strs ks)) ∧ (l6 = true → l9 = false → OwnVs w' B 3 x12 []) ∧ (l9 = true → OwnVs w' B 3 x15 (ints is)) ∧ (l11 = true → ∃ p, x3 = .pointer (some ⟨p, 0, none⟩) ∧ B ≤ p ∧ w'.heap[p]? = some (.cells (bif l12 then #[.bool lf, x11, .slice none 0 0, x15] else #[.bool false, .slice none 0 0, .slice none 0 0, .slice none 0 0]) 28 (0, 0))) ∧ (l10 = true → l5 = true ∧ l9 = true) ∧ (l12 = true → l10 = true ∧ l11 = true)) rfl ?_ ?_ ?_
  · exact ⟨false, false, false, false, false, false, false, false, false, false, false, false, false, undef, undef, undef, undef, undef, rfl, rfl, by rw [← hBe]; exact (Below.refl _ _).drew, fun h => (by cases h), fun h => (by cases h), fun h => (by cases h), fun h => (by cases h), fun h => (by cases h), fun h => (by cases h), fun h => (by cases h)⟩
  · intro i o listed a w ho hl hd hI
    rcases i with _ | _ | _ | _ | _ | _ | _ | _ | _ | _ | _ | _ | _ | i
    · -- operation 0
      cases ho
      obtain ⟨l0, l1, l2, l3, l4, l5, l6, l7, l8, l9, l10, l11, l12, x8, x11, x12, x15, x3, rfl, rfl, hB, f2, f5, f6, f9, f11, g10, g12⟩ := hI
      have hBs : B ≤ w.heap.size := by have := hB.size; omega
      have hi : l0 = false := by simpa using hl
      subst hi
      refine wpOp_step rfl (fun K hK => ?_)
      have HK := Lib.hid hK
      clear hK hl hd
      rw [if_pos (by rfl)]
      go_wp2_with fail
      exact HK.out _ _ ⟨true, l1, l2, l3, l4, l5, l6, l7, l8, l9, l10, l11, l12, x8, x11, x12, x15, x3, rfl, rfl, hB, f2, f5, f6, f9, f11, g10, g12⟩
    · -- operation 1
      cases ho
      obtain ⟨l0, l1, l2, l3, l4, l5, l6, l7, l8, l9, l10, l11, l12, x8, x11, x12, x15, x3, rfl, rfl, hB, f2, f5, f6, f9, f11, g10, g12⟩ := hI
      have hBs : B ≤ w.heap.size := by have := hB.size; omega
      have hi : l1 = false := by simpa using hl
      have d0 : l0 = true := by simpa using hd ⟨0, .data⟩ (by simp) rfl
      subst hi d0
      refine wpOp_step rfl (fun K hK => ?_)
      have HK := Lib.hid hK
      clear hK hl hd
      rw [if_pos (by rfl)]
      obtain ⟨z0, z1, z2, z3⟩ := HX.out _ hB
      go_wp2_with fail
      exact HK.out _ _ ⟨true, true, l2, l3, l4, l5, l6, l7, l8, l9, l10, l11, l12, x8, x11, x12, x15, x3, rfl, rfl, hB, f2, f5, f6, f9, f11, g10, g12⟩
    · -- operation 2
      cases ho
      obtain ⟨l0, l1, l2, l3, l4, l5, l6, l7, l8, l9, l10, l11, l12, x8, x11, x12, x15, x3, rfl, rfl, hB, f2, f5, f6, f9, f11, g10, g12⟩ := hI
      have hBs : B ≤ w.heap.size := by have := hB.size; omega
      have hi : l2 = false := by simpa using hl
      subst hi
      refine wpOp_step rfl (fun K hK => ?_)
      have HK := Lib.hid hK
      clear hK hl hd
      rw [if_pos (by rfl)]
      go_wp2_with fail
      have hba : Below w.heap.size w (w.alloc (.cells #[] 9)) := (Below.refl _ _).alloc (Nat.le_refl _) _
      refine HK.out _ _ ⟨l0, l1, true, l3, l4, l5, l6, l7, l8, l9, l10, l11, l12, .slice (some ⟨w.heap.size, 0, none⟩) 0 0, x11, x12, x15, x3, rfl, rfl, hB.trans (hba.mono hBs), fun _ _ => OwnVs.lit w B hBs [] (by decide), fun h => (f5 h).below hba, fun h h' => (f6 h h').below hba, fun h => (f9 h).below hba, fun h => ?_, g10, g12⟩
      obtain ⟨p, h1, h2, h3⟩ := f11 h
      exact ⟨p, h1, h2, (hba.block p (Array.getElem?_eq_some_iff.1 h3).1).trans h3⟩
    · -- operation 3
      cases ho
      obtain ⟨l0, l1, l2, l3, l4, l5, l6, l7, l8, l9, l10, l11, l12, x8, x11, x12, x15, x3, rfl, rfl, hB, f2, f5, f6, f9, f11, g10, g12⟩ := hI
      have hBs : B ≤ w.heap.size := by have := hB.size; omega
      have hi : l3 = false := by simpa using hl
      subst hi
      refine wpOp_step rfl (fun K hK => ?_)
      have HK := Lib.hid hK
      clear hK hl hd
      rw [if_pos (by rfl)]
      go_wp2_with fail
      exact HK.out _ _ ⟨l0, l1, l2, true, l4, l5, l6, l7, l8, l9, l10, l11, l12, x8, x11, x12, x15, x3, rfl, rfl, hB, f2, f5, f6, f9, f11, g10, g12⟩
    · -- operation 4
      cases ho
      obtain ⟨l0, l1, l2, l3, l4, l5, l6, l7, l8, l9, l10, l11, l12, x8, x11, x12, x15, x3, rfl, rfl, hB, f2, f5, f6, f9, f11, g10, g12⟩ := hI
      have hBs : B ≤ w.heap.size := by have := hB.size; omega
      have hi : l4 = false := by simpa using hl
      have d3 : l3 = true := by simpa using hd ⟨3, .data⟩ (by simp) rfl
      subst hi d3
      refine wpOp_step rfl (fun K hK => ?_)
      have HK := Lib.hid hK
      clear hK hl hd
      rw [if_pos (by rfl)]
      obtain ⟨z0, z1, z2, z3⟩ := HX.out _ hB
      go_wp2_with fail
      exact HK.out _ _ ⟨l0, l1, l2, true, true, l5, l6, l7, l8, l9, l10, l11, l12, x8, x11, x12, x15, x3, rfl, rfl, hB, f2, f5, f6, f9, f11, g10, g12⟩
    · -- operation 5
      cases ho
      obtain ⟨l0, l1, l2, l3, l4, l5, l6, l7, l8, l9, l10, l11, l12, x8, x11, x12, x15, x3, rfl, rfl, hB, f2, f5, f6, f9, f11, g10, g12⟩ := hI
      have hBs : B ≤ w.heap.size := by have := hB.size; omega
      have hi : l5 = false := by simpa using hl
      have d2 : l2 = true := by simpa using hd ⟨2, .data⟩ (by simp) rfl
      have d4 : l4 = true := by simpa using hd ⟨4, .data⟩ (by simp) rfl
      have n10 : l10 = false := by cases h : l10; rfl; (have := g10 h; rw [hi] at this; simp at this)
      have n12 : l12 = false := by cases h : l12; rfl; (have := (g12 h).1; rw [n10] at this; cases this)
      subst hi d2 d4 n10 n12
      refine wpOp_step rfl (fun K hK => ?_)
      have HK := Lib.hid hK
      clear hK hl hd
      rw [if_pos (by rfl)]
      refine wp_append_vals elStr (.tmp 8) (.tmp 10) rfl B x8 [] rfl (f2 rfl rfl) kA nk kc (strs ks) rfl HKs.out.1 HKs.out.2.1 (HKs.out.2.2.below (by rw [hBe]; exact hB)) (strs_one ks) (by have := HNs.out; simp only [strs_length, List.length_nil]; omega) hBs ?_
      intro v9 w9 h9
      have h9v := h9.out.1
      rw [List.nil_append] at h9v
      have hlt : ∀ k, x8.ownBlock = some k → B ≤ k := fun k hk => ((f2 rfl rfl).lt k hk).1
      have hB9 : Below B w1 w9 := hB.grown h9.out.2 hBs hlt
      refine HK.out _ _ ⟨l0, l1, true, l3, true, true, l6, l7, l8, l9, false, l11, false, x8, v9, x12, x15, x3, rfl, rfl, hB9, fun _ h => (by cases h), fun _ => h9v, fun h h' => (f6 h h').grown h9.out.2 (ownVs_apart (f6 h h') (f2 rfl rfl) (by decide)), fun h => (f9 h).grown h9.out.2 (ownVs_apart (f9 h) (f2 rfl rfl) (by decide)), fun h => ?_, fun h => (by cases h), fun h => (by cases h)⟩
      obtain ⟨p, h1, h2, h3⟩ := f11 h
      exact ⟨p, h1, h2, ownVs_node (f2 rfl rfl) h9.out.2 h3 (by decide)⟩
    · -- operation 6
      cases ho
      obtain ⟨l0, l1, l2, l3, l4, l5, l6, l7, l8, l9, l10, l11, l12, x8, x11, x12, x15, x3, rfl, rfl, hB, f2, f5, f6, f9, f11, g10, g12⟩ := hI
      have hBs : B ≤ w.heap.size := by have := hB.size; omega
      have hi : l6 = false := by simpa using hl
      subst hi
      refine wpOp_step rfl (fun K hK => ?_)
      have HK := Lib.hid hK
      clear hK hl hd
      rw [if_pos (by rfl)]
      go_wp2_with fail
      have hba : Below w.heap.size w (w.alloc (.cells #[] 3)) := (Below.refl _ _).alloc (Nat.le_refl _) _
      refine HK.out _ _ ⟨l0, l1, l2, l3, l4, l5, true, l7, l8, l9, l10, l11, l12, x8, x11, .slice (some ⟨w.heap.size, 0, none⟩) 0 0, x15, x3, rfl, rfl, hB.trans (hba.mono hBs), fun h h' => (f2 h h').below hba, fun h => (f5 h).below hba, fun _ _ => OwnVs.lit w B hBs [] (by decide), fun h => (f9 h).below hba, fun h => ?_, g10, g12⟩
      obtain ⟨p, h1, h2, h3⟩ := f11 h
      exact ⟨p, h1, h2, (hba.block p (Array.getElem?_eq_some_iff.1 h3).1).trans h3⟩
    · -- operation 7
      cases ho
      obtain ⟨l0, l1, l2, l3, l4, l5, l6, l7, l8, l9, l10, l11, l12, x8, x11, x12, x15, x3, rfl, rfl, hB, f2, f5, f6, f9, f11, g10, g12⟩ := hI
      have hBs : B ≤ w.heap.size := by have := hB.size; omega
      have hi : l7 = false := by simpa using hl
      subst hi
      refine wpOp_step rfl (fun K hK => ?_)
      have HK := Lib.hid hK
      clear hK hl hd
      rw [if_pos (by rfl)]
      go_wp2_with fail
      exact HK.out _ _ ⟨l0, l1, l2, l3, l4, l5, l6, true, l8, l9, l10, l11, l12, x8, x11, x12, x15, x3, rfl, rfl, hB, f2, f5, f6, f9, f11, g10, g12⟩
    · -- operation 8
      cases ho
      obtain ⟨l0, l1, l2, l3, l4, l5, l6, l7, l8, l9, l10, l11, l12, x8, x11, x12, x15, x3, rfl, rfl, hB, f2, f5, f6, f9, f11, g10, g12⟩ := hI
      have hBs : B ≤ w.heap.size := by have := hB.size; omega
      have hi : l8 = false := by simpa using hl
      have d7 : l7 = true := by simpa using hd ⟨7, .data⟩ (by simp) rfl
      subst hi d7
      refine wpOp_step rfl (fun K hK => ?_)
      have HK := Lib.hid hK
      clear hK hl hd
      rw [if_pos (by rfl)]
      obtain ⟨z0, z1, z2, z3⟩ := HX.out _ hB
      go_wp2_with fail
      exact HK.out _ _ ⟨l0, l1, l2, l3, l4, l5, l6, true, true, l9, l10, l11, l12, x8, x11, x12, x15, x3, rfl, rfl, hB, f2, f5, f6, f9, f11, g10, g12⟩
    · -- operation 9
      cases ho
      obtain ⟨l0, l1, l2, l3, l4, l5, l6, l7, l8, l9, l10, l11, l12, x8, x11, x12, x15, x3, rfl, rfl, hB, f2, f5, f6, f9, f11, g10, g12⟩ := hI
      have hBs : B ≤ w.heap.size := by have := hB.size; omega
      have hi : l9 = false := by simpa using hl
      have d6 : l6 = true := by simpa using hd ⟨6, .data⟩ (by simp) rfl
      have d8 : l8 = true := by simpa using hd ⟨8, .data⟩ (by simp) rfl
      have d5 : l5 = true := by simpa using hd ⟨5, .chain⟩ (by simp) rfl
      have n10 : l10 = false := by cases h : l10; rfl; (have := g10 h; rw [hi] at this; simp at this)
      have n12 : l12 = false := by cases h : l12; rfl; (have := (g12 h).1; rw [n10] at this; cases this)
      subst hi d6 d8 d5 n10 n12
      refine wpOp_step rfl (fun K hK => ?_)
      have HK := Lib.hid hK
      clear hK hl hd
      rw [if_pos (by rfl)]
      refine wp_append_vals elInt (.tmp 12) (.tmp 14) rfl B x12 [] rfl (f6 rfl rfl) iA ni ic (ints is) rfl HIs.out.1 HIs.out.2.1 (HIs.out.2.2.below (by rw [hBe]; exact hB)) (ints_one is) (by have := HNs.out; simp only [ints_length, List.length_nil]; omega) hBs ?_
      intro v9 w9 h9
      have h9v := h9.out.1
      rw [List.nil_append] at h9v
      have hlt : ∀ k, x12.ownBlock = some k → B ≤ k := fun k hk => ((f6 rfl rfl).lt k hk).1
      have hB9 : Below B w1 w9 := hB.grown h9.out.2 hBs hlt
      refine HK.out _ _ ⟨l0, l1, l2, l3, l4, true, true, l7, true, true, false, l11, false, x8, x11, x12, v9, x3, rfl, rfl, hB9, fun h h' => (f2 h h').grown h9.out.2 (ownVs_apart (f2 h h') (f6 rfl rfl) (by decide)), fun h => (f5 h).grown h9.out.2 (ownVs_apart (f5 h) (f6 rfl rfl) (by decide)), fun _ h => (by cases h), fun _ => h9v, fun h => ?_, fun h => (by cases h), fun h => (by cases h)⟩
      obtain ⟨p, h1, h2, h3⟩ := f11 h
      exact ⟨p, h1, h2, ownVs_node (f6 rfl rfl) h9.out.2 h3 (by decide)⟩
    · -- operation 10
      cases ho
      obtain ⟨l0, l1, l2, l3, l4, l5, l6, l7, l8, l9, l10, l11, l12, x8, x11, x12, x15, x3, rfl, rfl, hB, f2, f5, f6, f9, f11, g10, g12⟩ := hI
      have hBs : B ≤ w.heap.size := by have := hB.size; omega
      have hi : l10 = false := by simpa using hl
      have d1 : l1 = true := by simpa using hd ⟨1, .data⟩ (by simp) rfl
      have d5 : l5 = true := by simpa using hd ⟨5, .data⟩ (by simp) rfl
      have d9 : l9 = true := by simpa using hd ⟨9, .data⟩ (by simp) rfl
      subst hi d1 d5 d9
      refine wpOp_step rfl (fun K hK => ?_)
      have HK := Lib.hid hK
      clear hK hl hd
      rw [if_pos (by rfl)]
      have F5 := Lib.hid (f5 rfl)
      have F9 := Lib.hid (f9 rfl)
      clear f5 f9
      obtain ⟨A5, c5, rfl, _⟩ := F5.out.sl
      obtain ⟨A9, c9, rfl, _⟩ := F9.out.sl
      go_wp2_with fail
      exact HK.out _ _ ⟨l0, true, l2, l3, l4, true, l6, l7, l8, true, true, l11, l12, x8, .slice A5 (strs ks).length c5, x12, .slice A9 (ints is).length c9, x3, rfl, rfl, hB, f2, fun _ => F5.out, f6, fun _ => F9.out, f11, fun _ => ⟨rfl, rfl⟩, fun h => ⟨rfl, (g12 h).2⟩⟩
    · -- operation 11
      cases ho
      obtain ⟨l0, l1, l2, l3, l4, l5, l6, l7, l8, l9, l10, l11, l12, x8, x11, x12, x15, x3, rfl, rfl, hB, f2, f5, f6, f9, f11, g10, g12⟩ := hI
      have hBs : B ≤ w.heap.size := by have := hB.size; omega
      have hi : l11 = false := by simpa using hl
      have n12 : l12 = false := by cases h : l12; rfl; (have := (g12 h).2; rw [hi] at this; cases this)
      subst hi n12
      refine wpOp_step rfl (fun K hK => ?_)
      have HK := Lib.hid hK
      clear hK hl hd
      rw [if_pos (by rfl)]
      go_wp2_with fail
      have hba : Below w.heap.size w (w.alloc (.cells #[.bool false, .slice none 0 0, .slice none 0 0, .slice none 0 0] 28)) := (Below.refl _ _).alloc (Nat.le_refl _) _
      exact HK.out _ _ ⟨l0, l1, l2, l3, l4, l5, l6, l7, l8, l9, l10, true, false, x8, x11, x12, x15, .pointer (some ⟨w.heap.size, 0, none⟩), rfl, rfl, hB.trans (hba.mono hBs), fun h h' => (f2 h h').below hba, fun h => (f5 h).below hba, fun h h' => (f6 h h').below hba, fun h => (f9 h).below hba, fun _ => ⟨w.heap.size, rfl, hBs, heap_alloc_new w _⟩, g10, fun h => (by cases h)⟩
    · -- operation 12
      cases ho
      obtain ⟨l0, l1, l2, l3, l4, l5, l6, l7, l8, l9, l10, l11, l12, x8, x11, x12, x15, x3, rfl, rfl, hB, f2, f5, f6, f9, f11, g10, g12⟩ := hI
      have hBs : B ≤ w.heap.size := by have := hB.size; omega
      have hi : l12 = false := by simpa using hl
      have d11 : l11 = true := by simpa using hd ⟨11, .data⟩ (by simp) rfl
      have d10 : l10 = true := by simpa using hd ⟨10, .data⟩ (by simp) rfl
      have d9 : l9 = true := by simpa using hd ⟨9, .chain⟩ (by simp) rfl
      have d0 : l0 = true := by simpa using hd ⟨0, .phase⟩ (by simp) rfl
      have d1 : l1 = true := by simpa using hd ⟨1, .phase⟩ (by simp) rfl
      have d2 : l2 = true := by simpa using hd ⟨2, .phase⟩ (by simp) rfl
      have d3 : l3 = true := by simpa using hd ⟨3, .phase⟩ (by simp) rfl
      have d4 : l4 = true := by simpa using hd ⟨4, .phase⟩ (by simp) rfl
      have d5 : l5 = true := by simpa using hd ⟨5, .phase⟩ (by simp) rfl
      have d6 : l6 = true := by simpa using hd ⟨6, .phase⟩ (by simp) rfl
      have d7 : l7 = true := by simpa using hd ⟨7, .phase⟩ (by simp) rfl
      have d8 : l8 = true := by simpa using hd ⟨8, .phase⟩ (by simp) rfl
      subst hi d11 d10 d9 d0 d1 d2 d3 d4 d5 d6 d7 d8
      refine wpOp_step rfl (fun K hK => ?_)
      have HK := Lib.hid hK
      clear hK hl hd
      rw [if_pos (by rfl)]
      obtain ⟨p, h1, h2, h3⟩ := f11 rfl
      subst h1
      refine wp_storeRow 28 (.tmp 3) (.tmp 16) rfl p rfl [.bool lf, x11, .slice none 0 0, x15] [.bool false, .slice none 0 0, .slice none 0 0, .slice none 0 0] rfl (by kernel_rfl) rfl (own_ones (f5 rfl) (f9 rfl)) h3 ?_
      intro w9 h9 hk9
      refine HK.out _ _ ⟨true, true, true, true, true, true, true, true, true, true, true, true, true, x8, x11, x12, x15, .pointer (some ⟨p, 0, none⟩), rfl, rfl, hB.trans (hk9.below hBs (fun k hk e => by have e' : k = p := e; omega)), fun _ h => (by cases h), fun _ => (f5 rfl).kept hk9 (fun k hk e => ownVs_not (f5 rfl) h3 (by decide) (e ▸ hk)), fun _ h => (by cases h), fun _ => (f9 rfl).kept hk9 (fun k hk e => ownVs_not (f9 rfl) h3 (by decide) (e ▸ hk)), fun _ => ⟨p, rfl, h2, h9.out⟩, g10, fun _ => ⟨rfl, rfl⟩⟩
    · exact absurd ho (by simp)
  · intro listed a w hr hI
    obtain ⟨l0, l1, l2, l3, l4, l5, l6, l7, l8, l9, l10, l11, l12, x8, x11, x12, x15, x3, rfl, rfl, hB, f2, f5, f6, f9, f11, g10, g12⟩ := hI
    have hall := ready_nil_all (by kernel_rfl) rfl hr
    have e0 : l0 = true := by simpa using hall 0
    have e1 : l1 = true := by simpa using hall 1
    have e2 : l2 = true := by simpa using hall 2
    have e3 : l3 = true := by simpa using hall 3
    have e4 : l4 = true := by simpa using hall 4
    have e5 : l5 = true := by simpa using hall 5
    have e6 : l6 = true := by simpa using hall 6
    have e7 : l7 = true := by simpa using hall 7
    have e8 : l8 = true := by simpa using hall 8
    have e9 : l9 = true := by simpa using hall 9
    have e10 : l10 = true := by simpa using hall 10
    have e11 : l11 = true := by simpa using hall 11
    have e12 : l12 = true := by simpa using hall 12
    clear hall hr
    subst e0 e1 e2 e3 e4 e5 e6 e7 e8 e9 e10 e11 e12
    obtain ⟨p, h1, h2, h3⟩ := f11 rfl
    have HI0 : Hid (CopL B p w1 lf x11 x15 ks vs is 0 (.slice none 0 0) w) := ⟨h3, OwnRL.nil _ _, f5 rfl, f9 rfl, hB⟩
    clear f2 f5 f6 f9 f11 g10 g12 hB h3
    subst h1
    have HP := Lib.hid h2
    clear h2
    obtain ⟨y0, y1, y2, y3⟩ := HX.out w HI0.out.be
    go_wp2_with fail
    simp only [cond_true]
    clear y0 y1 y2 y3
    go_loopw [20] (fun i wr => ∃ t : Nat, t ≤ nv ∧ i = .int .i64 (t : Int) ∧ Hid (∃ v, CopL B p w1 lf x11 x15 ks vs is t v wr)) (fun i _ => nv - (intOf i).toNat)
    case atStart => exact ⟨0, Nat.zero_le _, rfl, _, HI0.out⟩
    case round =>
      obtain ⟨t, ht, rfl, HL⟩ := hrel
      clear HI0
      obtain ⟨v, hcop⟩ := HL.out
      have HC := Lib.hid hcop
      clear hcop HL
      have hnv64 : nv ≤ 9223372036854775807 := by have := HNs.out; have := HV.out; omega
      by_cases hlt : t < nv
      · have hl1 : t < vs.length := by rw [HV.out]; exact hlt
        obtain ⟨b, o, hA⟩ := H.out.v.spot (Nat.lt_of_le_of_lt (Nat.zero_le t) hl1)
        subst hA
        obtain ⟨Ai, ci, hc, hs⟩ := (H.out.below (by rw [hBe]; exact HC.out.be)).v.at t hl1
        try simp only at hc hs
        rw [← atL_eq vs t hl1] at hc hs
        obtain ⟨m, hm⟩ : ∃ m, (atL vs t).length = m := ⟨_, rfl⟩
        rw [hm] at hc hs
        have HM := Lib.hid hm
        have HS := Lib.hid hs
        have HT : Hid (vs.take (t + 1) = vs.take t ++ [atL vs t]) := by show _ = _; rw [List.take_succ_eq_append_getElem hl1, atL_eq vs t hl1]
        have hvl : (atL vs t).length ≤ 1000 := by rw [atL_eq vs t hl1]; exact HVl.out _ (List.getElem_mem hl1)
        rw [hm] at hvl
        have HVl2 := Lib.hid hvl
        have HTl : Hid ((vs.take t).length ≤ 1000000) := by show _ ≤ _; rw [List.length_take]; have := HNs.out; omega
        obtain ⟨A2, c2, hv2, _, _, _, _⟩ := HC.out.v.slice
        obtain ⟨tl, htl⟩ : ∃ tl, (vs.take t).length = tl := ⟨_, rfl⟩
        rw [htl] at hv2
        subst hv2
        have z2 : wr.cell? ⟨p, 2, none⟩ = some (.slice A2 tl c2) := by rw [cell_of_row _ _ _ _ _ _ HC.out.blk]; rfl
        have z2b : (wr.alloc (.cells #[] 5)).cell? ⟨p, 2, none⟩ = some (.slice A2 tl c2) := ((((Below.refl _ _).alloc (Nat.le_refl _) _)).cell (Array.getElem?_eq_some_iff.1 HC.out.blk).1).trans z2
        clear hs hm hvl hl1 htl
        have hba : Below wr.heap.size wr (wr.drew.alloc (.cells #[] 5)) := (Below.refl _ _).drew.alloc (Nat.le_refl _) _
        have HO5 : Hid (OwnB (wr.drew.alloc (.cells #[] 5)) wr.heap.size (.slice (some ⟨wr.heap.size, 0, none⟩) 0 0) []) := OwnB.lit wr.drew wr.heap.size (Nat.le_refl _) [] [] rfl 0 rfl (by decide)
        have HB5 := Lib.hid hba
        have HBy : Hid (Bytes (wr.drew.alloc (.cells #[] 5)) Ai (atL vs t)) := HS.out.2.1.below hba
        clear hba
        have hBs : B ≤ wr.heap.size := by rw [← hBe]; exact HC.out.be.size
        go_wp2_with fail
        go_region_law (first | (refine step_of (by rfl) (wp_append_bytesO _ _ (by rfl) wr.heap.size (.slice (some ⟨wr.heap.size, 0, none⟩) 0 0) [] (by rfl) HO5.out Ai m ci (atL vs t) (by rfl) HM.out.symm HS.out.2.2.2.2 HBy.out (by have := HVl2.out; rw [HM.out]; simp only [List.length_nil]; omega) HB5.out.size ?_); intro v5 w5 H5; obtain ⟨A5, c5, hv5⟩ := H5.out.1.slice'; rw [List.nil_append, HM.out] at hv5; subst hv5; have HC5 := Lib.hid (CopL.cell HC.out HO5.out HB5.out H5.out HM.out hBs); have z5 := HC5.out.1; have z5a := HC5.out.2.1) | (refine step_of (by rfl) (wp_append_rowO _ _ (by rfl) B (.slice A2 tl c2) (vs.take t) (by rfl) HC5.out.2.2.1 ⟨w5.heap.size, 0, none⟩ 1 A5 m c5 (atL vs t) (by rfl) (by rw [Addr.add_lit, cell_of_row _ _ _ _ _ _ (heap_alloc_new w5 _)]; rfl) HC5.out.2.2.2.1 HTl.out HC5.out.2.2.2.2.1 ?_); intro v9 w9 H9; obtain ⟨A9, c9, hv9, _, _, _, _⟩ := H9.out.1.slice; obtain ⟨l9, hl9⟩ : ∃ l9, (vs.take t ++ [atL vs t]).length = l9 := ⟨_, rfl⟩; rw [hl9] at hv9; subst hv9; clear hl9; have HC9 := Lib.hid (CopL.put HC5.out.2.2.2.2.2 H9.out HT.out); have z9 := HC9.out.1; have f9 := HC9.out.2.1))
        all_goals
          have HF := HC9.out.2.2 HC5.out.2.2.2.2.1 HP.out
          have HFh := Lib.hid HF
          clear HF z9 f9 z5 z5a z2 z2b
          go_wp2_with fail
          exact ⟨⟨t + 1, by omega, by simp, _, HFh.out⟩, by simp [intOf]; omega⟩
      · obtain ⟨kB, kd, hk1, hk2, hk3, hk4, hk5, hk6⟩ := HC.out.k.sl
        obtain ⟨iB, id, hi1, hi2, hi3, hi4, hi5, hi6⟩ := HC.out.i.sl
        obtain ⟨vB, vd, hv1, hv2, hv3, hv4, hv5⟩ := HC.out.v.slice
        rw [List.take_of_length_le (by rw [HV.out]; omega)] at hv1 hv2
        rw [strs_length, HK.out] at hk1
        rw [ints_length, HI.out] at hi1
        rw [HV.out] at hv1
        subst hk1 hi1 hv1
        have hq := (HC.out.be.block (r + 1) hrB).trans HR2.out
        obtain ⟨q0, q1, q2, q3⟩ := row4_cells hq
        obtain ⟨q4, q5, q6, q7⟩ := row4_frozen hq
        obtain ⟨p0, p1, p2, p3⟩ := row4_cells HC.out.blk
        have HQ := Lib.hid hq
        clear hk2 hk3 hk4 hk5 hk6 hi2 hi3 hi4 hi5 hi6 hv2 hv3 hv4 hv5 hq
        go_wp2_with fail
        obtain ⟨g1, g2⟩ := row4_put HQ.out (.bool lf) (.slice kB nk kd) (.slice vB nv vd) (.slice iB ni id)
        refine bodyPost_ret_by (results_cell1 rfl _ rfl (run_retNode g1)) rfl ?_
        exact ⟨kB, kd, vB, vd, iB, id, rfl, (HC.out.doneO (by rw [HV.out]; omega) HK.out HV.out HI.out HQ.out g2).base' hsz.out, (HB0.out.trans (HC.out.be.mono hsz.out)).trans (g2.below (Nat.le_trans hsz.out (by rw [← hBe]; exact HC.out.be.size)) (fun j hj e => by have e' : j = r + 1 := e; omega))⟩
end Go.Proofs.YtibmlgkakeakcaaDoor
