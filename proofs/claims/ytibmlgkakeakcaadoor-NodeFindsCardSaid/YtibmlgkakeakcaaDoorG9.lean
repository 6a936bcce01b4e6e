/- A cell put into a node (plain). -/
import Derived.Test.YtibmlgkakeakcaaDoorG6
import Derived.Test.YtibmlgkakeakcaaDoorG4
import Derived.Test.YtibmlgkakeakcaaDoorG5
import Derived.SizedLaws
set_option linter.unusedSimpArgs false
set_option linter.unusedVariables false
namespace Go.Proofs.YtibmlgkakeakcaaDoor
open Go.RowKit Go.Proofs.YtibmlgkakeakcaaDoor.Crc
/-- A node with a cell put in at i. -/
def insM (n : NodeM) (i : Nat) (key val : List UInt8) (kid : Int) : NodeM := ⟨n.leaf, n.keys.take i ++ [key] ++ n.keys.drop i, if n.leaf then n.vals.take i ++ [val] ++ n.vals.drop i else n.vals, if n.leaf then n.kids else n.kids.take i ++ [kid] ++ n.kids.drop i⟩
theorem ins_length {α : Type} (l : List α) (x : α) (p : Nat) : (l.take p ++ [x] ++ l.drop p).length = l.length + 1 := by
  simp only [List.length_append, List.length_take, List.length_drop, List.length_cons, List.length_nil]; omega
theorem ins_del {α : Type} (l : List α) (x : α) (p : Nat) (hp : p ≤ l.length) : (l.take p ++ [x] ++ l.drop p).take p ++ (l.take p ++ [x] ++ l.drop p).drop (p + 1) = l := by
  have h1 : (l.take p).length = p := by rw [List.length_take]; omega
  have h2 : (l.take p ++ [x]).length = p + 1 := by rw [List.length_append, h1]; rfl
  rw [List.drop_left' h2, List.append_assoc, List.take_left' h1, List.take_append_drop]
theorem placeN_before {ks : List (List UInt8)} {key a : List UInt8} (ha : a ∈ ks.take (placeN ks key)) : ltB a key = true := by
  obtain ⟨j, hj, rfl⟩ := List.getElem_of_mem ha
  have hj' : j < placeN ks key ∧ j < ks.length := by rw [List.length_take] at hj; omega
  have := placeN_below ks key j hj'.1
  rw [atL_eq ks j hj'.2] at this
  rw [List.getElem_take]; exact this
theorem placeN_behind {ks : List (List UInt8)} {key b : List UInt8} (h : RiseL ks) (hno : ¬ (placeN ks key < ks.length ∧ atL ks (placeN ks key) = key)) (hb : b ∈ ks.drop (placeN ks key)) : ltB key b = true := by
  obtain ⟨j, hj, rfl⟩ := List.getElem_of_mem hb
  rw [List.length_drop] at hj
  rw [List.getElem_drop]
  have hp : placeN ks key < ks.length := by omega
  have h0 : ltB key (ks[placeN ks key]'hp) = true := by
    rcases ltB_not (placeN_at ks key hp) with h1 | h1
    · exact absurd ⟨hp, h1⟩ hno
    · rwa [atL_eq ks _ hp] at h1
  rcases Nat.eq_zero_or_pos j with rfl | hj0
  · simpa using h0
  · exact ltB_trans _ _ _ h0 ((List.pairwise_iff_getElem.1 h.2) (placeN ks key) (placeN ks key + j) hp (by omega) (by omega))
theorem rise_ins {ks : List (List UInt8)} {key : List UInt8} (h : RiseL ks) (hk : key.length ≤ 40) (hno : ¬ (placeN ks key < ks.length ∧ atL ks (placeN ks key) = key)) : RiseL (ks.take (placeN ks key) ++ [key] ++ ks.drop (placeN ks key)) := by
  refine ⟨fun x hx => ?_, ?_⟩
  · rw [List.mem_append, List.mem_append, List.mem_singleton] at hx
    rcases hx with (hx | rfl) | hx
    · exact h.1 x (List.mem_of_mem_take hx)
    · exact hk
    · exact h.1 x (List.mem_of_mem_drop hx)
  · rw [List.append_assoc, List.pairwise_append]
    refine ⟨h.2.sublist (List.take_sublist _ _), ?_, fun a ha b hb => ?_⟩
    · rw [List.singleton_append, List.pairwise_cons]
      exact ⟨fun b hb => placeN_behind h hno hb, h.2.sublist (List.drop_sublist _ _)⟩
    · rw [List.mem_append, List.mem_singleton] at hb
      rcases hb with rfl | hb
      · exact placeN_before ha
      · exact ltB_trans _ _ _ (placeN_before ha) (placeN_behind h hno hb)
theorem atL_ins_lt {ks : List (List UInt8)} {key : List UInt8} {p i : Nat} (hp : p ≤ ks.length) (hi : i < p) : atL (ks.take p ++ [key] ++ ks.drop p) i = atL ks i := by
  unfold atL
  rw [List.getD_eq_getElem?_getD, List.getD_eq_getElem?_getD, List.append_assoc, List.getElem?_append_left (by rw [List.length_take]; omega), List.getElem?_take_of_lt hi]
theorem atL_ins_eq {ks : List (List UInt8)} {key : List UInt8} {p : Nat} (hp : p ≤ ks.length) : atL (ks.take p ++ [key] ++ ks.drop p) p = key := by
  have h1 : (ks.take p).length = p := by rw [List.length_take]; omega
  unfold atL
  rw [List.getD_eq_getElem?_getD, List.append_assoc, List.getElem?_append_right (by omega), h1, Nat.sub_self]
  rfl
theorem place_ins (ks : List (List UInt8)) (key : List UInt8) : placeN (ks.take (placeN ks key) ++ [key] ++ ks.drop (placeN ks key)) key = placeN ks key := by
  have hp := placeN_le ks key
  refine placeN_eq _ _ _ (by rw [ins_length]; omega) (fun i hi => ?_) (fun _ => ?_)
  · rw [atL_ins_lt hp hi]; exact placeN_below ks key i hi
  · rw [atL_ins_eq hp]; exact ltB_irrefl key
/-- Where the key isn't, a cell with it may be put. -/
theorem right_ins {n : NodeM} (h : RightM n) {key val : List UInt8} (hk : key.length ≤ 40) (hv : val.length ≤ 49) (hno : ¬ (placeN n.keys key < n.keys.length ∧ atL n.keys (placeN n.keys key) = key)) : RightM (insM n (placeN n.keys key) key val 7) := by
  obtain ⟨lf, ks, vs, is⟩ := n
  simp only at hno
  cases lf
  · obtain ⟨h1, h2, h3, h4, h5, h6⟩ := right_inner.1 h
    refine right_inner.2 ⟨rise_ins h1 hk hno, ?_, ?_, h4, ?_, fun k hk' => ?_⟩
    · show (is.take _ ++ [7] ++ is.drop _).length = _
      rw [ins_length, ins_length, h2]
    · show 0 < (is.take _ ++ [7] ++ is.drop _).length
      rw [ins_length]; omega
    · show atL (ks.take (placeN ks key) ++ [key] ++ ks.drop (placeN ks key)) 0 = []
      have hne : 0 < placeN ks key := by
        rcases Nat.eq_zero_or_pos (placeN ks key) with h0 | h0
        · exfalso
          have hlt : placeN ks key < ks.length := by omega
          have hat := placeN_at ks key hlt
          rw [h0, h5] at hat
          have hkn : key = [] := by cases key with | nil => rfl | cons a b => exact absurd hat (by simp [ltB, Op.bytesLess])
          exact hno ⟨hlt, by rw [h0, h5, hkn]⟩
        · exact h0
      rw [atL_ins_lt (placeN_le ks key) hne]; exact h5
    · have hk' : k ∈ is.take (placeN ks key) ++ [7] ++ is.drop (placeN ks key) := hk'
      rw [List.mem_append, List.mem_append, List.mem_singleton] at hk'
      rcases hk' with (hk' | rfl) | hk'
      · exact h6 k (List.mem_of_mem_take hk')
      · omega
      · exact h6 k (List.mem_of_mem_drop hk')
  · obtain ⟨h1, h2, h3, h4⟩ := right_leaf.1 h
    refine right_leaf.2 ⟨rise_ins h1 hk hno, ?_, h3, fun k hk' => ?_⟩
    · show (vs.take _ ++ [val] ++ vs.drop _).length = _
      rw [ins_length, ins_length, h2]
    · have hk' : k ∈ vs.take (placeN ks key) ++ [val] ++ vs.drop (placeN ks key) := hk'
      rw [List.mem_append, List.mem_append, List.mem_singleton] at hk'
      rcases hk' with (hk' | rfl) | hk'
      · exact h4 k (List.mem_of_mem_take hk')
      · exact hv
      · exact h4 k (List.mem_of_mem_drop hk')
/-- It is found there. -/
theorem find_ins {n : NodeM} {key val : List UInt8} {kid : Int} (hr : RightM (insM n (placeN n.keys key) key val kid)) : findN (insM n (placeN n.keys key) key val kid) key = ((placeN n.keys key : Int), true) := by
  have hp := placeN_le n.keys key
  unfold findN
  rw [rightB_true hr, if_pos rfl]
  have e : (insM n (placeN n.keys key) key val kid).keys = n.keys.take (placeN n.keys key) ++ [key] ++ n.keys.drop (placeN n.keys key) := rfl
  rw [e, place_ins]
  show (_, _) = _
  rw [atL_ins_eq hp, ins_length]
  have : decide (placeN n.keys key < n.keys.length + 1) = true := by simp; omega
  simp [this]
/-- Taken out again it leaves the node as it was. -/
theorem del_ins {n : NodeM} (h : RightM n) {p : Nat} (hp : p ≤ n.keys.length) (key val : List UInt8) (kid : Int) : firstM (delM (insM n p key val kid) p) = n := by
  obtain ⟨lf, ks, vs, is⟩ := n
  simp only at hp
  cases lf
  · obtain ⟨h1, h2, h3, h4, h5, h6⟩ := right_inner.1 h
    have e : delM (insM ⟨false, ks, vs, is⟩ p key val kid) p = ⟨false, (ks.take p ++ [key] ++ ks.drop p).take p ++ (ks.take p ++ [key] ++ ks.drop p).drop (p + 1), vs, (is.take p ++ [kid] ++ is.drop p).take p ++ (is.take p ++ [kid] ++ is.drop p).drop (p + 1)⟩ := rfl
    rw [e, ins_del ks key p hp, ins_del is kid p (by omega), firstM_inner, set0_same h5]
  · obtain ⟨h1, h2, h3, h4⟩ := right_leaf.1 h
    have e : delM (insM ⟨true, ks, vs, is⟩ p key val kid) p = ⟨true, (ks.take p ++ [key] ++ ks.drop p).take p ++ (ks.take p ++ [key] ++ ks.drop p).drop (p + 1), (vs.take p ++ [val] ++ vs.drop p).take p ++ (vs.take p ++ [val] ++ vs.drop p).drop (p + 1), is⟩ := rfl
    rw [e, ins_del ks key p hp, ins_del vs val p (by omega), firstM_leaf]
theorem insM_len (n : NodeM) (i : Nat) (key val : List UInt8) (kid : Int) : (insM n i key val kid).keys.length = n.keys.length + 1 := ins_length _ _ _
/-- What Find answers of a node that may be. -/
theorem findN_yes {n : NodeM} (h : RightM n) {key : List UInt8} (hf : (findN n key).2 = true) : (findN n key).1 = (placeN n.keys key : Int) ∧ placeN n.keys key < n.keys.length ∧ atL n.keys (placeN n.keys key) = key := by
  unfold findN at hf ⊢
  rw [rightB_true h] at hf ⊢
  simp only [if_true, Bool.and_eq_true, decide_eq_true_eq, beq_iff_eq] at hf ⊢
  refine ⟨?_, hf⟩
  rw [if_pos (by simp [hf.1, hf.2])]
theorem findN_no {n : NodeM} (h : RightM n) {key : List UInt8} (hf : (findN n key).2 = false) : (findN n key).1 = (if n.leaf then (placeN n.keys key : Int) else (placeN n.keys key : Int) - 1) ∧ ¬ (placeN n.keys key < n.keys.length ∧ atL n.keys (placeN n.keys key) = key) := by
  unfold findN at hf ⊢
  rw [rightB_true h] at hf ⊢
  simp only [if_true] at hf ⊢
  refine ⟨by rw [hf]; simp, fun hc => ?_⟩
  rw [hc.2] at hf
  simp [hc.1] at hf
end Go.Proofs.YtibmlgkakeakcaaDoor
/- The walks of node.checked (whatever the node) and node.Insert (printed by wip/gen/insertgen.py). -/
set_option linter.unusedSimpArgs false
set_option linter.unusedVariables false
namespace Go.Proofs.YtibmlgkakeakcaaDoor
open Go.RowKit Go.Proofs.YtibmlgkakeakcaaDoor.Crc
def zeroM : NodeM := ⟨false, [], [], []⟩
noncomputable def outM (n : NodeM) : NodeM := if rightB n then n else zeroM
noncomputable def codeN (n : NodeM) : Int := if rightB n then 0 else 22
theorem outM_right {n : NodeM} (h : RightM n) : outM n = n := by unfold outM; rw [rightB_true h]; rfl
theorem codeN_right {n : NodeM} (h : RightM n) : codeN n = 0 := by unfold codeN; rw [rightB_true h]; rfl
theorem outM_bad {n : NodeM} (h : ¬ RightM n) : outM n = zeroM := by unfold outM; rw [rightB_false h]; rfl
theorem codeN_bad {n : NodeM} (h : ¬ RightM n) : codeN n = 22 := by unfold codeN; rw [rightB_false h]; rfl
theorem NodeOwn.zero (w : World) (B : Nat) : NodeOwn w B zeroM none 0 none 0 none 0 := ⟨OwnVs.nil w B _, OwnRL.nil w B, OwnVs.nil w B _⟩
set_option maxRecDepth 10000 in
set_option maxHeartbeats 1000000 in
theorem checked_bad {w : World} {n : NodeM} {kA : Option Addr} {kc : Nat} {vA : Option Addr} {vc : Nat} {iA : Option Addr} {ic : Nat} (h : NodeAt w n kA kc vA vc iA ic) (hr : ¬ RightM n) :
    Calls Tryd.prog 52 #[.agg #[.bool n.leaf, .slice kA n.keys.length kc, .slice vA n.vals.length vc, .slice iA n.kids.length ic]] w fun e w' => e = .returned (.tuple #[.agg #[.bool false, .slice none 0 0, .slice none 0 0, .slice none 0 0], .int .i64 22]) ∧ Hid (Below w.heap.size w w') := by
  obtain ⟨h1, h2, h3⟩ := node2_boxT w (.bool n.leaf) (.slice kA n.keys.length kc) (.slice vA n.vals.length vc) (.slice iA n.kids.length ic) (.bool false) (.slice none 0 0) (.slice none 0 0) (.slice none 0 0) 28
  have HRt := Lib.hid (Right_calls (h.below h1))
  rw [rightB_false hr] at HRt
  obtain ⟨nk, hnk⟩ : ∃ k, n.keys.length = k := ⟨_, rfl⟩
  obtain ⟨nv, hnv⟩ : ∃ k, n.vals.length = k := ⟨_, rfl⟩
  obtain ⟨ni, hni⟩ : ∃ k, n.kids.length = k := ⟨_, rfl⟩
  obtain ⟨lf, hlf⟩ : ∃ k, n.leaf = k := ⟨_, rfl⟩
  rw [hnk, hnv, hni, hlf] at h1 h2 h3 HRt ⊢
  obtain ⟨W1, hW1⟩ : ∃ x, (w.alloc (.cells #[.bool lf, .slice kA nk kc, .slice vA nv vc, .slice iA ni ic] 28)).alloc (.cells #[.bool false, .slice none 0 0, .slice none 0 0, .slice none 0 0] 28) = x := ⟨_, rfl⟩
  rw [hW1] at h1 h2 h3
  have HB := Lib.hid h1
  have HX := Lib.hid h2
  have HY := Lib.hid h3
  have HW1 := Lib.hid hW1
  obtain ⟨r, hr0⟩ : ∃ r, w.heap.size = r := ⟨_, rfl⟩
  have HR0 := Lib.hid hr0
  rw [hr0] at HX HY
  clear h1 h2 h3 hW1 h hr hnk hnv hni hlf hr0
  go_enter Tryd.func52, Tryd.ntmps52
  go_wp2_with (go_at_call 14; (with_reducible refine HRt.out.mono ?_); rintro e w2 ⟨rfl, hb2⟩; refine park ?_; intro q hq)
  rw [HW1.out] at hb2
  have hx2 := (hb2.block r (Array.getElem?_eq_some_iff.1 HX.out).1).trans HX.out
  have hy2 := (hb2.block (r + 1) (Array.getElem?_eq_some_iff.1 HY.out).1).trans HY.out
  have HB2 : Hid (Below r w w2) := by rw [← HR0.out]; exact HB.out.trans (hb2.mono HB.out.size)
  obtain ⟨x0, x1, x2, x3⟩ := row4_cells hx2
  obtain ⟨y0, y1, y2, y3⟩ := row4_cells hy2
  obtain ⟨f0, f1, f2, f3⟩ := row4_frozen hy2
  have HY2 := Lib.hid hy2
  clear hx2 hy2 hb2 HRt
  refine hq.out ?_
  clear hq
  simp only [HR0.out]
  go_wp2_with fail
  obtain ⟨g1, g2⟩ := row4_put HY2.out (.bool false) (.slice none 0 0) (.slice none 0 0) (.slice none 0 0)
  refine bodyPost_ret_by (results_cellTmp rfl _ rfl rfl (run_retNode g1)) rfl ?_
  refine ⟨rfl, ?_⟩
  have hfin := HB2.out.trans (g2.below (by have := (Array.getElem?_eq_some_iff.1 HY2.out).1; omega) (fun k hk e => by have e' : k = r + 1 := e; omega))
  exact (show Below w.heap.size w _ from by rw [HR0.out]; exact hfin)
/-- checked, whatever the node. -/
theorem checkedO_calls {w : World} {B : Nat} {n : NodeM} {kA : Option Addr} {kc : Nat} {vA : Option Addr} {vc : Nat} {iA : Option Addr} {ic : Nat} (h : NodeOwn w B n kA kc vA vc iA ic) :
    Calls Tryd.prog 52 #[.agg #[.bool n.leaf, .slice kA n.keys.length kc, .slice vA n.vals.length vc, .slice iA n.kids.length ic]] w fun e w' => ∃ kB kd vB vd iB id, e = .returned (.tuple #[.agg #[.bool (outM n).leaf, .slice kB (outM n).keys.length kd, .slice vB (outM n).vals.length vd, .slice iB (outM n).kids.length id], .int .i64 (codeN n)]) ∧ Hid (NodeOwn w' B (outM n) kB kd vB vd iB id ∧ Below w.heap.size w w') := by
  by_cases hr : RightM n
  · refine (checked_calls h.at' hr).mono ?_
    rintro e w' ⟨rfl, hb⟩
    rw [outM_right hr, codeN_right hr]
    exact ⟨_, _, _, _, _, _, rfl, h.below hb.out, hb.out⟩
  · refine (checked_bad h.at' hr).mono ?_
    rintro e w' ⟨rfl, hb⟩
    rw [outM_bad hr, codeN_bad hr]
    exact ⟨none, 0, none, 0, none, 0, rfl, NodeOwn.zero _ _, hb.out⟩
set_option maxRecDepth 10000 in
set_option maxHeartbeats 16000000 in
theorem InsertN_calls {w : World} {n : NodeM} {kA : Option Addr} {kc : Nat} {vA : Option Addr} {vc : Nat} {iA : Option Addr} {ic : Nat} (h : NodeAt w n kA kc vA vc iA ic) (hr : RightM n) (hs : n.keys.length ≤ 1000) (i : Nat) (hi : i ≤ n.keys.length) (key : List UInt8) {dA : Option Addr} {dc : Nat} {ds : List UInt8} (hdb : Bytes w dA ds) (hdn : dA = none → dc = 0) (hdl : ds.length ≤ 1000) (kid : Int) :
    Calls Tryd.prog 22 #[.agg #[.bool n.leaf, .slice kA n.keys.length kc, .slice vA n.vals.length vc, .slice iA n.kids.length ic], .int .i64 (i : Int), .string (bstr key), .slice dA ds.length dc, .int .i64 kid] w fun e w' => ∃ kB kd vB vd iB id, e = .returned (.tuple #[.agg #[.bool (outM (insM n i key ds kid)).leaf, .slice kB (outM (insM n i key ds kid)).keys.length kd, .slice vB (outM (insM n i key ds kid)).vals.length vd, .slice iB (outM (insM n i key ds kid)).kids.length id], .int .i64 (codeN (insM n i key ds kid))]) ∧ Hid (NodeOwn w' w.heap.size (outM (insM n i key ds kid)) kB kd vB vd iB id ∧ Below w.heap.size w w') := by
  obtain ⟨hv1, hv2, hv3⟩ := hr.lens
  obtain ⟨h1, h2, h3⟩ := node2_boxT w (.bool n.leaf) (.slice kA n.keys.length kc) (.slice vA n.vals.length vc) (.slice iA n.kids.length ic) (.bool false) (.slice none 0 0) (.slice none 0 0) (.slice none 0 0) 28
  have HRt := Lib.hid (Right_calls (h.below h1))
  rw [rightB_true hr] at HRt
  have HOw : Hid (∀ w' kA kc vA vc iA ic, NodeAt w' n kA kc vA vc iA ic → Calls Tryd.prog 48 #[.agg #[.bool n.leaf, .slice kA n.keys.length kc, .slice vA n.vals.length vc, .slice iA n.kids.length ic]] w' fun e w'' => ∃ kB kd vB vd iB id, e = .returned (.agg #[.bool n.leaf, .slice kB n.keys.length kd, .slice vB n.vals.length vd, .slice iB n.kids.length id]) ∧ Hid (NodeOwn w'' w'.heap.size n kB kd vB vd iB id ∧ Below w'.heap.size w' w'')) := fun w' kA kc vA vc iA ic h => ownN_calls h ⟨hs, by omega, by omega⟩ (fun v hv => by have := hv3 v hv; omega)
  have H := Lib.hid (h.below h1)
  obtain ⟨lf, ks, vs, is⟩ := n
  simp only at hi hs hv1 hv2 h1 h2 h3 HRt HOw ⊢
  obtain ⟨nk, hnk⟩ : ∃ k, ks.length = k := ⟨_, rfl⟩
  obtain ⟨nv, hnv⟩ : ∃ k, vs.length = k := ⟨_, rfl⟩
  obtain ⟨ni, hni⟩ : ∃ k, is.length = k := ⟨_, rfl⟩
  have HNK := Lib.hid hnk
  have HNV := Lib.hid hnv
  have HNI := Lib.hid hni
  rw [hnk] at hi hs hv1 hv2
  rw [hnv] at hv1
  rw [hni] at hv2
  rw [hnk, hnv, hni] at h1 h2 h3 HRt HOw ⊢
  obtain ⟨W1, hW1⟩ : ∃ x, (w.alloc (.cells #[.bool lf, .slice kA nk kc, .slice vA nv vc, .slice iA ni ic] 28)).alloc (.cells #[.bool false, .slice none 0 0, .slice none 0 0, .slice none 0 0] 28) = x := ⟨_, rfl⟩
  rw [hnk, hnv, hni, hW1] at H
  rw [hW1] at h1 h2 h3
  have HB := Lib.hid h1
  have HX := Lib.hid h2
  have HY := Lib.hid h3
  have HW1 := Lib.hid hW1
  have HR := Lib.hid hr
  have HD := Lib.hid hdb
  have HDn := Lib.hid hdn
  have HDl := Lib.hid hdl
  obtain ⟨dn, hdn0⟩ : ∃ k, ds.length = k := ⟨_, rfl⟩
  have HDN := Lib.hid hdn0
  obtain ⟨y, hy0⟩ : ∃ y, bstr key = y := ⟨_, rfl⟩
  have HYK : Hid (strV key = .string y) := by show strV key = _; unfold strV; rw [hy0]
  rw [hdn0, hy0]
  obtain ⟨r, hr0⟩ : ∃ r, w.heap.size = r := ⟨_, rfl⟩
  have HR0 := Lib.hid hr0
  rw [hr0] at HX HY
  clear h1 h2 h3 hW1 h hr hnk hnv hni hr0 hv3 hdb hdn hdl hdn0 hy0
  have hd2 : decide (nk < i) = false := by simp; omega
  go_enter Tryd.func22, Tryd.ntmps22
  go_wp2_with (go_at_call 14; (with_reducible refine HRt.out.mono ?_); rintro e w2 ⟨rfl, hb2⟩; refine park ?_; intro q hq)
  rw [HW1.out] at hb2
  have hx2 := (hb2.block r (Array.getElem?_eq_some_iff.1 HX.out).1).trans HX.out
  have hy2 := (hb2.block (r + 1) (Array.getElem?_eq_some_iff.1 HY.out).1).trans HY.out
  have HB2 : Hid (Below r w w2) := by rw [← HR0.out]; exact HB.out.trans (hb2.mono HB.out.size)
  have HO2 := Lib.hid (HOw.out w2 _ _ _ _ _ _ (H.out.below hb2))
  obtain ⟨x0, x1, x2, x3⟩ := row4_cells hx2
  have HX2 := Lib.hid hx2
  have HY2 := Lib.hid hy2
  clear hx2 hy2 hb2 HRt HOw H
  refine hq.out ?_
  clear hq
  simp only [HR0.out]
  go_wp2_with (go_at_call 48; (with_reducible refine HO2.out.mono ?_); rintro e w3 ⟨kB, kd, vB, vd, iB, id, rfl, h3⟩; refine park ?_; intro q hq)
  have hx3 := (h3.out.2.block r (Array.getElem?_eq_some_iff.1 HX2.out).1).trans HX2.out
  have hy3 := (h3.out.2.block (r + 1) (Array.getElem?_eq_some_iff.1 HY2.out).1).trans HY2.out
  obtain ⟨f0, f1, f2, f3⟩ := row4_frozen hx3
  obtain ⟨x0', x1', x2', x3'⟩ := row4_cells hx3
  obtain ⟨g1, g2⟩ := row4_put hx3 (.bool lf) (.slice kB nk kd) (.slice vB nv vd) (.slice iB ni id)
  have hty : ∀ k cs t fz, k = r → w3.heap[k]? = some (.cells cs t fz) → t = 28 := fun k cs t fz e hc => by
    rw [e, hx3] at hc; injection hc with hc; injection hc with _ h4 _; exact h4.symm
  have hO3 := h3.out.1
  have HO4 := Lib.hid (hO3.keptN g2 hty)
  have hrr : r < w2.heap.size := (Array.getElem?_eq_some_iff.1 HX2.out).1
  have hrr1 : r + 1 < w2.heap.size := (Array.getElem?_eq_some_iff.1 HY2.out).1
  have HB4 : Hid (Below r w ((((w3.setCell ⟨r, 0, none⟩ (.bool lf)).setCell ⟨r, 1, none⟩ (.slice kB nk kd)).setCell ⟨r, 2, none⟩ (.slice vB nv vd)).setCell ⟨r, 3, none⟩ (.slice iB ni id))) := (HB2.out.trans (h3.out.2.mono (Nat.le_of_lt hrr))).trans (g2.below (Nat.le_trans (Nat.le_of_lt hrr) h3.out.2.size) (fun k hk e => by have e' : k = r := e; omega))
  have HY4 : Hid (((((w3.setCell ⟨r, 0, none⟩ (.bool lf)).setCell ⟨r, 1, none⟩ (.slice kB nk kd)).setCell ⟨r, 2, none⟩ (.slice vB nv vd)).setCell ⟨r, 3, none⟩ (.slice iB ni id)).heap[r + 1]? = some (.cells #[.bool false, .slice none 0 0, .slice none 0 0, .slice none 0 0] 28 (0, 0))) := (g2.block (r + 1) (Nat.lt_of_lt_of_le hrr1 h3.out.2.size) (by show ¬ r + 1 = r; omega)).trans hy3
  have HX4 := Lib.hid g1
  have HS4 : Hid (w2.heap.size ≤ ((((w3.setCell ⟨r, 0, none⟩ (.bool lf)).setCell ⟨r, 1, none⟩ (.slice kB nk kd)).setCell ⟨r, 2, none⟩ (.slice vB nv vd)).setCell ⟨r, 3, none⟩ (.slice iB ni id)).heap.size) := Nat.le_trans h3.out.2.size g2.size
  have hK4 : OwnVs ((((w3.setCell ⟨r, 0, none⟩ (.bool lf)).setCell ⟨r, 1, none⟩ (.slice kB nk kd)).setCell ⟨r, 2, none⟩ (.slice vB nv vd)).setCell ⟨r, 3, none⟩ (.slice iB ni id)) w2.heap.size 9 (.slice kB nk kd) (strs ks) := by
    have h := HO4.out.k
    change OwnVs _ _ _ (.slice kB ks.length kd) (strs ks) at h
    rw [HNK.out] at h
    exact h
  have HSz5 : Hid (((((w3.setCell ⟨r, 0, none⟩ (.bool lf)).setCell ⟨r, 1, none⟩ (.slice kB nk kd)).setCell ⟨r, 2, none⟩ (.slice vB nv vd)).setCell ⟨r, 3, none⟩ (.slice iB ni id)).heap.size = w3.heap.size) := by show _ = _; simp [World.setCell]
  have HC5 : Hid (Calls Tryd.prog 49 #[.slice kB nk kd, .int .i64 (i : Int), .int .i64 (i : Int), .slice (some ⟨w3.heap.size, 0, none⟩) 1 1] (((((w3.setCell ⟨r, 0, none⟩ (.bool lf)).setCell ⟨r, 1, none⟩ (.slice kB nk kd)).setCell ⟨r, 2, none⟩ (.slice vB nv vd)).setCell ⟨r, 3, none⟩ (.slice iB ni id)).alloc (.cells #[.string y] 9)) fun e w' => ∃ v, e = .returned v ∧ Hid (OwnVs w' (((((w3.setCell ⟨r, 0, none⟩ (.bool lf)).setCell ⟨r, 1, none⟩ (.slice kB nk kd)).setCell ⟨r, 2, none⟩ (.slice vB nv vd)).setCell ⟨r, 3, none⟩ (.slice iB ni id))).heap.size 9 v (strs (ks.take i ++ [key] ++ ks.drop i)) ∧ Below (((((w3.setCell ⟨r, 0, none⟩ (.bool lf)).setCell ⟨r, 1, none⟩ (.slice kB nk kd)).setCell ⟨r, 2, none⟩ (.slice vB nv vd)).setCell ⟨r, 3, none⟩ (.slice iB ni id))).heap.size ((((w3.setCell ⟨r, 0, none⟩ (.bool lf)).setCell ⟨r, 1, none⟩ (.slice kB nk kd)).setCell ⟨r, 2, none⟩ (.slice vB nv vd)).setCell ⟨r, 3, none⟩ (.slice iB ni id)) w')) := by
    have hba : Below ((((w3.setCell ⟨r, 0, none⟩ (.bool lf)).setCell ⟨r, 1, none⟩ (.slice kB nk kd)).setCell ⟨r, 2, none⟩ (.slice vB nv vd)).setCell ⟨r, 3, none⟩ (.slice iB ni id)).heap.size ((((w3.setCell ⟨r, 0, none⟩ (.bool lf)).setCell ⟨r, 1, none⟩ (.slice kB nk kd)).setCell ⟨r, 2, none⟩ (.slice vB nv vd)).setCell ⟨r, 3, none⟩ (.slice iB ni id)) (((((w3.setCell ⟨r, 0, none⟩ (.bool lf)).setCell ⟨r, 1, none⟩ (.slice kB nk kd)).setCell ⟨r, 2, none⟩ (.slice vB nv vd)).setCell ⟨r, 3, none⟩ (.slice iB ni id)).alloc (.cells #[.string y] 9)) := (Below.refl _ _).alloc (Nat.le_refl _) _
    obtain ⟨e1, v1, n1, l1, m1⟩ := (hK4.below hba).at'
    have hn := heap_alloc_new ((((w3.setCell ⟨r, 0, none⟩ (.bool lf)).setCell ⟨r, 1, none⟩ (.slice kB nk kd)).setCell ⟨r, 2, none⟩ (.slice vB nv vd)).setCell ⟨r, 3, none⟩ (.slice iB ni id)) (.cells #[.string y] 9)
    rw [HSz5.out] at hn
    have h := splicedS_calls (xs := strs ks) (ys := [.string y]) (Ai := some ⟨w3.heap.size, 0, none⟩) (ci := 1) (m := 1) (i := i) (j := i) v1 (by rw [strs_length, HNK.out]) l1 m1 n1 (strs_one ks) (Nat.le_refl i) hi (ValsAt.one hn) rfl (fun h => by cases h) (fun u hu => by rw [List.mem_singleton.1 hu]; rfl) (by omega) (by decide)
    rw [show (strs ks).take i ++ [Value.string y] ++ (strs ks).drop i = strs (ks.take i ++ [key] ++ ks.drop i) from by rw [strs_take, strs_drop, strs_app, strs_app, ← HYK.out]; rfl] at h
    refine h.mono ?_
    rintro e w' ⟨v, rfl, h7⟩
    exact ⟨v, rfl, h7.out.1.base' hba.size, hba.trans (h7.out.2.mono hba.size)⟩
  simp only [HSz5.out] at HC5
  clear hK4
  obtain ⟨W4, hW4⟩ : ∃ x, ((((w3.setCell ⟨r, 0, none⟩ (.bool lf)).setCell ⟨r, 1, none⟩ (.slice kB nk kd)).setCell ⟨r, 2, none⟩ (.slice vB nv vd)).setCell ⟨r, 3, none⟩ (.slice iB ni id)) = x := ⟨_, rfl⟩
  rw [hW4] at HO4 HB4 HY4 HX4 HS4
  have HW4 := Lib.hid hW4
  clear hx3 hy3 x0 x1 x2 x3 hty hO3 h3 g1 g2 HX2 HY2 HO2 HB2 hW4
  refine hq.out ?_
  clear hq
  go_wp2_with (go_at_call 49; (with_reducible refine HC5.out.mono ?_); rintro e w5 ⟨v5, rfl, h5⟩; refine park ?_; intro q hq)
  rw [HW4.out, show w3.heap.size = W4.heap.size from by rw [← HSz5.out, HW4.out]] at h5
  obtain ⟨A5, c5, hv5, _⟩ := h5.out.1.sl
  rw [strs_length] at hv5
  obtain ⟨nk', hnk'⟩ : ∃ x, (ks.take i ++ [key] ++ ks.drop i).length = x := ⟨_, rfl⟩
  have HNK' := Lib.hid hnk'
  rw [hnk'] at hv5
  subst hv5
  have hx5 := (h5.out.2.block r (Array.getElem?_eq_some_iff.1 HX4.out).1).trans HX4.out
  have hy5 := (h5.out.2.block (r + 1) (Array.getElem?_eq_some_iff.1 HY4.out).1).trans HY4.out
  have HO5 := Lib.hid (HO4.out.below h5.out.2)
  have HK5 := Lib.hid (h5.out.1.base' HS4.out)
  have HB5 : Hid (Below r w w5) := HB4.out.trans (h5.out.2.mono (Nat.le_trans (Nat.le_of_lt hrr) HS4.out))
  have HS5 : Hid (w2.heap.size ≤ w5.heap.size) := Nat.le_trans HS4.out h5.out.2.size
  clear h5 f0 f1 f2 f3 x0' x1' x2' x3' HC5 hnk' HX4 HY4 HO4 HB4 HS4 HW4 HSz5
  obtain ⟨f0, f1, f2, f3⟩ := row4_frozen hx5
  obtain ⟨x0, x1, x2, x3⟩ := row4_cells hx5
  have k6 : Kept (· = r) w5 (w5.setCell ⟨r, 1, none⟩ (.slice A5 nk' c5)) := Kept.set1 w5 r 1 _
  have hx6 := row4_set1 hx5 (.slice A5 nk' c5)
  have hty : ∀ k cs t fz, k = r → w5.heap[k]? = some (.cells cs t fz) → t = 28 := fun k cs t fz e hc => by
    rw [e, hx5] at hc; injection hc with hc; injection hc with _ h4 _; exact h4.symm
  have HO6 := Lib.hid (HO5.out.keptN k6 hty)
  have HK6 := Lib.hid (HK5.out.keptT k6 (fun k cs hS hc => absurd (hty _ _ _ _ hS hc) (by decide)))
  have HB6 : Hid (Below r w (w5.setCell ⟨r, 1, none⟩ (.slice A5 nk' c5))) := HB5.out.trans (k6.below (Nat.le_trans (Nat.le_of_lt hrr) HS5.out) (fun k hk e => by have e' : k = r := e; omega))
  have hy6 := (k6.block (r + 1) (Nat.lt_of_lt_of_le hrr1 HS5.out) (by show ¬ r + 1 = r; omega)).trans hy5
  have HS6 : Hid (w2.heap.size ≤ (w5.setCell ⟨r, 1, none⟩ (.slice A5 nk' c5)).heap.size) := Nat.le_trans HS5.out k6.size
  have HX6 := Lib.hid hx6
  have HY6 := Lib.hid hy6
  have HZ := Lib.hid hx5
  clear hx6 hy6 k6 hty hx5 hy5 HO5 HK5 HB5 HS5
  cases lf
  · have _t := trivial
    obtain ⟨W6, hW6⟩ : ∃ x, (w5.setCell ⟨r, 1, none⟩ (.slice A5 nk' c5)) = x := ⟨_, rfl⟩
    rw [hW6] at HO6 HK6 HB6 HY6 HX6 HS6
    have HW6 := Lib.hid hW6
    clear hW6
    have HZ6 := Lib.hid (box_cells HX6.out)
    have hni : ni = nk := by have h := HR.out.2; simp only [Bool.false_eq_true, if_false] at h; rw [← HNI.out, ← HNK.out]; exact h.1
    have HC7 : Hid (Calls Tryd.prog 51 #[.slice iB ni id, .int .i64 (i : Int), .int .i64 (i : Int), .slice (some ⟨W6.heap.size, 0, none⟩) 1 1] (W6.alloc (.cells #[.int .i64 kid] 3)) fun e w' => ∃ v, e = .returned v ∧ Hid (OwnVs w' w2.heap.size 3 v (ints (is.take i ++ [kid] ++ is.drop i)) ∧ Below W6.heap.size W6 w')) := by
      have hI6 : OwnVs W6 w2.heap.size 3 (.slice iB ni id) (ints is) := by
        have h := HO6.out.i
        change OwnVs _ _ _ (.slice iB is.length id) (ints is) at h
        rw [HNI.out] at h
        exact h
      have hba : Below W6.heap.size W6 (W6.alloc (.cells #[.int .i64 kid] 3)) := (Below.refl _ _).alloc (Nat.le_refl _) _
      obtain ⟨e1, v1, n1, l1, m1⟩ := (hI6.below hba).at'
      have h := splicedI_calls (xs := ints is) (ys := [.int .i64 kid]) (Ai := some ⟨W6.heap.size, 0, none⟩) (ci := 1) (m := 1) (i := i) (j := i) v1 e1 l1 m1 n1 (ints_one is) (Nat.le_refl i) (by rw [hni]; omega) (ValsAt.one (heap_alloc_new W6 _)) rfl (fun h => by cases h) (fun u hu => by rw [List.mem_singleton.1 hu]; rfl) (by omega) (by decide)
      rw [show (ints is).take i ++ [Value.int .i64 kid] ++ (ints is).drop i = ints (is.take i ++ [kid] ++ is.drop i) from by rw [ints_take, ints_drop, ints_app, ints_app]; rfl] at h
      refine h.mono ?_
      rintro e w' ⟨v, rfl, h7⟩
      exact ⟨v, rfl, h7.out.1.base' (Nat.le_trans HS6.out hba.size), hba.trans (h7.out.2.mono hba.size)⟩
    obtain ⟨z0, z1, z2, z3⟩ := row4_cells HX6.out
    clear hni
    have HSz6 : Hid (W6.heap.size = w5.heap.size) := by show _ = _; rw [← HW6.out]; simp [World.setCell]
    rw [HSz6.out, ← HW6.out] at HC7
    refine hq.out ?_
    clear hq
    go_wp2_with (go_at_call 51; (with_reducible refine HC7.out.mono ?_); rintro e w7 ⟨v7, rfl, h7⟩; refine park ?_; intro q hq)
    rw [HW6.out, ← HSz6.out] at h7
    obtain ⟨A7, c7, hv7, _⟩ := h7.out.1.sl
    rw [ints_length] at hv7
    obtain ⟨ni', hni'⟩ : ∃ x, (is.take i ++ [kid] ++ is.drop i).length = x := ⟨_, rfl⟩
    have HNI' := Lib.hid hni'
    rw [hni'] at hv7
    subst hv7
    clear hni' z0 z1 z2 z3
    have hx7 := (h7.out.2.block r (Array.getElem?_eq_some_iff.1 HX6.out).1).trans HX6.out
    have hy7 := (h7.out.2.block (r + 1) (Array.getElem?_eq_some_iff.1 HY6.out).1).trans HY6.out
    have hty : ∀ k cs t fz, k = r → w7.heap[k]? = some (.cells cs t fz) → t = 28 := fun k cs t fz e hc => by
      rw [e, hx7] at hc; injection hc with hc; injection hc with _ h4 _; exact h4.symm
    have k8 : Kept (· = r) w7 (w7.setCell ⟨r, 3, none⟩ (.slice A7 ni' c7)) := Kept.set1 w7 r 3 _
    have hx8 := row4_set3 hx7 (.slice A7 ni' c7)
    have hs8 : w2.heap.size ≤ w7.heap.size := Nat.le_trans HS6.out h7.out.2.size
    have hy8 := (k8.block (r + 1) (Nat.lt_of_lt_of_le hrr1 hs8) (by show ¬ r + 1 = r; omega)).trans hy7
    have HB8 : Hid (Below r w (w7.setCell ⟨r, 3, none⟩ (.slice A7 ni' c7))) := (HB6.out.trans (h7.out.2.mono (Nat.le_trans (Nat.le_of_lt hrr) HS6.out))).trans (k8.below (Nat.le_trans (Nat.le_of_lt hrr) hs8) (fun k hk e => by have e' : k = r := e; omega))
    have HS8 : Hid (w2.heap.size ≤ (w7.setCell ⟨r, 3, none⟩ (.slice A7 ni' c7)).heap.size) := Nat.le_trans hs8 k8.size
    have hM : insM ⟨false, ks, vs, is⟩ i key ds kid = ⟨false, ks.take i ++ [key] ++ ks.drop i, vs, is.take i ++ [kid] ++ is.drop i⟩ := rfl
    have hO7 : NodeOwn w7 w2.heap.size (insM ⟨false, ks, vs, is⟩ i key ds kid) A5 c5 vB vd A7 c7 := by
      rw [hM]
      exact ⟨by have h := HK6.out.below h7.out.2; rw [← HNK'.out] at h; exact h, HO6.out.v.below h7.out.2, by have h := h7.out.1; rw [← HNI'.out] at h; exact h⟩
    have hO8 := hO7.keptN k8 hty
    have HCk : Hid (Calls Tryd.prog 52 #[.agg #[.bool false, .slice A5 nk' c5, .slice vB nv vd, .slice A7 ni' c7]] (w7.setCell ⟨r, 3, none⟩ (.slice A7 ni' c7)) fun e w'' => ∃ b kB nkB kd vB nvB vd iB niB id cd, e = .returned (.tuple #[.agg #[.bool b, .slice kB nkB kd, .slice vB nvB vd, .slice iB niB id], .int .i64 cd]) ∧ Hid (b = (outM (insM ⟨false, ks, vs, is⟩ i key ds kid)).leaf ∧ nkB = (outM (insM ⟨false, ks, vs, is⟩ i key ds kid)).keys.length ∧ nvB = (outM (insM ⟨false, ks, vs, is⟩ i key ds kid)).vals.length ∧ niB = (outM (insM ⟨false, ks, vs, is⟩ i key ds kid)).kids.length ∧ cd = codeN (insM ⟨false, ks, vs, is⟩ i key ds kid) ∧ NodeOwn w'' w2.heap.size (outM (insM ⟨false, ks, vs, is⟩ i key ds kid)) kB kd vB vd iB id ∧ Below (w7.setCell ⟨r, 3, none⟩ (.slice A7 ni' c7)).heap.size (w7.setCell ⟨r, 3, none⟩ (.slice A7 ni' c7)) w'')) := by
      have h := checkedO_calls hO8
      rw [show (insM ⟨false, ks, vs, is⟩ i key ds kid).leaf = false from rfl, show (insM ⟨false, ks, vs, is⟩ i key ds kid).keys.length = nk' from by rw [hM]; exact HNK'.out, show (insM ⟨false, ks, vs, is⟩ i key ds kid).vals.length = nv from by rw [hM]; exact HNV.out, show (insM ⟨false, ks, vs, is⟩ i key ds kid).kids.length = ni' from by rw [hM]; exact HNI'.out] at h
      refine h.mono ?_
      rintro e w'' ⟨kB, kd, vB, vd, iB, id, rfl, h9⟩
      exact ⟨_, _, _, _, _, _, _, _, _, _, _, rfl, rfl, rfl, rfl, rfl, rfl, h9.out.1, h9.out.2⟩
    have HX8 := Lib.hid hx8
    have HY8 := Lib.hid hy8
    obtain ⟨f0', f1', f2', f3'⟩ := row4_frozen hx7
    obtain ⟨y0, y1, y2, y3⟩ := row4_cells hx7
    clear hx8 hy8 hx7 hy7 hty k8 hs8 hO7 hO8 hM h7 HX6 HY6 HO6 HK6 HB6 HS6 HW6 HZ6 HC7
    clear x0 x1 x2 x3 f0 f1 f2 f3
    refine hq.out ?_
    clear hq
    go_wp2_with (go_at_call 52; (with_reducible refine HCk.out.mono ?_); rintro e w10 ⟨b10, kE, nkE, ke, vE, nvE, ve, iE, niE, ie, cd, rfl, h10⟩; refine park ?_; intro q hq)
    obtain ⟨s1, s2, s3, s4, s5, hO10, hb10⟩ := h10.out
    have hy10 := (hb10.block (r + 1) (Nat.lt_of_lt_of_le hrr1 HS8.out)).trans HY8.out
    have HSh := Lib.hid (And.intro s1 (And.intro s2 (And.intro s3 (And.intro s4 s5))))
    have HO10 := Lib.hid hO10
    have HB10 : Hid (Below r w w10) := HB8.out.trans (hb10.mono (Nat.le_trans (Nat.le_of_lt hrr) HS8.out))
    have HS10 : Hid (w2.heap.size ≤ w10.heap.size) := Nat.le_trans HS8.out hb10.size
    have HY10 := Lib.hid hy10
    clear y0 y1 y2 y3 f0' f1' f2' f3'
    obtain ⟨y0, y1, y2, y3⟩ := row4_cells hy10
    obtain ⟨f0, f1, f2, f3⟩ := row4_frozen hy10
    clear h10 hy10 HCk s1 s2 s3 s4 s5 hO10 hb10
    refine hq.out ?_
    clear hq
    go_wp2_with fail
    obtain ⟨g1, g2⟩ := row4_put HY10.out (.bool b10) (.slice kE nkE ke) (.slice vE nvE ve) (.slice iE niE ie)
    refine bodyPost_ret_by (results_cellTmp rfl _ rfl rfl (run_retNode g1)) rfl ?_
    obtain ⟨s1, s2, s3, s4, s5⟩ := HSh.out
    refine ⟨_, _, _, _, _, _, by rw [← s1, ← s2, ← s3, ← s4, ← s5]; rfl, (HO10.out.keptN g2 (fun k cs t fz hS hc => ?_)).base' (by rw [HR0.out]; exact Nat.le_of_lt hrr), ?_⟩
    · rw [show k = r + 1 from hS, HY10.out] at hc; injection hc with hc; injection hc with _ h4 _; exact h4.symm
    · rw [HR0.out]
      exact HB10.out.trans (g2.below (Nat.le_trans (Nat.le_of_lt hrr) HS10.out) (fun k hk e => by have e' : k = r + 1 := e; omega))
  · have _t := trivial
    obtain ⟨W6, hW6⟩ : ∃ x, (w5.setCell ⟨r, 1, none⟩ (.slice A5 nk' c5)) = x := ⟨_, rfl⟩
    rw [hW6] at HO6 HK6 HB6 HY6 HX6 HS6
    have HW6 := Lib.hid hW6
    clear hW6
    have HZ6 := Lib.hid (box_cells HX6.out)
    have hnv : nv = nk := by have h := HR.out.2; simp only [if_true] at h; rw [← HNV.out, ← HNK.out]; exact h.1
    have hV6 : OwnRL W6 w2.heap.size (.slice vB nv vd) vs := by
      have h := HO6.out.v
      change OwnRL _ _ (.slice vB vs.length vd) vs at h
      rw [HNV.out] at h
      exact h
    obtain ⟨us, hu1, hu2⟩ := RowsV.of_own hV6
    have hul := hu2.len
    have HCs : Hid (∀ w' A c, Below W6.heap.size W6 w' → OwnB w' w2.heap.size (.slice A dn c) ds → Calls Tryd.prog 50 #[.slice vB nv vd, .int .i64 (i : Int), .int .i64 (i : Int), .slice (some ⟨w'.heap.size, 0, none⟩) 1 1] (w'.alloc (.cells #[.slice A dn c] 30)) fun e w'' => ∃ v, e = .returned v ∧ Hid (OwnRL w'' w2.heap.size v (vs.take i ++ [ds] ++ vs.drop i) ∧ Below w'.heap.size w' w'')) := fun w' A c hb ho => by
      have hba : Below w'.heap.size w' (w'.alloc (.cells #[.slice A dn c] 30)) := (Below.refl _ _).alloc (Nat.le_refl _) _
      have hbb : Below W6.heap.size W6 (w'.alloc (.cells #[.slice A dn c] 30)) := hb.trans (hba.mono hb.size)
      obtain ⟨e1, v1, n1, l1, m1⟩ := (hu1.below hbb).at'
      have h1u : RowsV (w'.alloc (.cells #[.slice A dn c] 30)) w2.heap.size [.slice A dn c] [ds] := ⟨[(.slice A dn c, ds)], rfl, rfl, fun p hp => by rw [List.mem_singleton.1 hp]; exact ⟨A, c, by rw [HDN.out], ho.below hba⟩⟩
      have h := splicedR_calls (xs := us) (ys := [.slice A dn c]) (Ai := some ⟨w'.heap.size, 0, none⟩) (ci := 1) (m := 1) (i := i) (j := i) v1 e1 l1 m1 n1 hu2.one (Nat.le_refl i) (by omega) (ValsAt.one (heap_alloc_new w' _)) rfl (fun h => by cases h) (fun u hu => by rw [List.mem_singleton.1 hu]; rfl) (by omega) (by decide)
      refine h.mono ?_
      rintro e w'' ⟨v, rfl, h7⟩
      exact ⟨v, rfl, RowsV.own (h7.out.1.base' (Nat.le_trans HS6.out (Nat.le_trans hb.size hba.size))) (((((hu2.below hbb).take i).append h1u).append ((hu2.below hbb).drop i)).below h7.out.2), hba.trans (h7.out.2.mono hba.size)⟩
    have HD6 := Lib.hid (HD.out.below (by rw [HR0.out]; exact HB6.out))
    clear hnv hul hu1 hu2 hV6
    refine hq.out ?_
    clear hq
    go_wp2_with fail
    rw [HW6.out]
    have hS0 : Hid (Below W6.heap.size W6 W6.drew) := Lib.hid (Below.refl _ _).drew
    refine wp_region_M (fun w' => Hid (Below W6.heap.size W6 w')) 10 (by as_aux_lemma => kernel_rfl) ?_
    refine mAnyTake (i := 0) (v := Value.pointer (some ⟨r, 2, none⟩)) (some 38) [0, 1, 8, 10] (by as_aux_lemma => kernel_rfl) rfl rfl (by decide) (by as_aux_lemma => kernel_rfl) rfl rfl (by as_aux_lemma => kernel_rfl) (by as_aux_lemma => kernel_rfl) (by as_aux_lemma => kernel_rfl) (fun _ _ _ h => h) (Or.inl ⟨by rfl, fun w => by go_simp⟩) hS0 ?_
    try simp only [Act.put, List.setIfInBounds_toArray, List.set_cons_zero, List.set_cons_succ]
    refine mTake (i := 1) (v := Value.slice vB nv vd) (some 39) [1, 8, 10] (by as_aux_lemma => kernel_rfl) rfl rfl (by decide) (by as_aux_lemma => kernel_rfl) rfl rfl (by as_aux_lemma => kernel_rfl) (by as_aux_lemma => kernel_rfl) (by as_aux_lemma => kernel_rfl) (fun _ _ _ h => h) (Or.inl ⟨by rfl, fun w h => by ((obtain ⟨z0, z1, z2, z3⟩ := HZ6.out _ h.out); go_simp)⟩) hS0 ?_
    try simp only [Act.put, List.setIfInBounds_toArray, List.set_cons_zero, List.set_cons_succ]
    refine mAnyTake (i := 2) (v := Value.int IntKind.i64 (i : Int)) (some 40) [2, 8, 10] (by as_aux_lemma => kernel_rfl) rfl rfl (by decide) (by as_aux_lemma => kernel_rfl) rfl rfl (by as_aux_lemma => kernel_rfl) (by as_aux_lemma => kernel_rfl) (by as_aux_lemma => kernel_rfl) (fun _ _ _ h => h) (Or.inl ⟨by rfl, fun w => by go_simp⟩) hS0 ?_
    try simp only [Act.put, List.setIfInBounds_toArray, List.set_cons_zero, List.set_cons_succ]
    refine mAnyTake (i := 3) (v := Value.int IntKind.i64 (i : Int)) (some 41) [3, 8, 10] (by as_aux_lemma => kernel_rfl) rfl rfl (by decide) (by as_aux_lemma => kernel_rfl) rfl rfl (by as_aux_lemma => kernel_rfl) (by as_aux_lemma => kernel_rfl) (by as_aux_lemma => kernel_rfl) (fun _ _ _ h => h) (Or.inl ⟨by rfl, fun w => by go_simp⟩) hS0 ?_
    try simp only [Act.put, List.setIfInBounds_toArray, List.set_cons_zero, List.set_cons_succ]
    refine mAnyTake (i := 5) (v := Value.slice dA dn dc) (some 43) [5, 6, 7, 8, 10] (by as_aux_lemma => kernel_rfl) rfl rfl (by decide) (by as_aux_lemma => kernel_rfl) rfl rfl (by as_aux_lemma => kernel_rfl) (by as_aux_lemma => kernel_rfl) (by as_aux_lemma => kernel_rfl) (fun _ _ _ h => h) (Or.inl ⟨by rfl, fun w => by go_simp⟩) hS0 ?_
    try simp only [Act.put, List.setIfInBounds_toArray, List.set_cons_zero, List.set_cons_succ]
    refine mOne (i := 4) (by as_aux_lemma => kernel_rfl) rfl (fun K hK => ?_)
    have HK := Lib.hid hK
    clear hK
    rw [if_pos (by rfl)]
    have hba : Below W6.drew.heap.size W6.drew (W6.drew.alloc (.cells #[] 5)) := (Below.refl _ _).alloc (Nat.le_refl _) _
    have hS1 : Hid (Below W6.heap.size W6 (W6.drew.alloc (.cells #[] 5))) := Lib.hid (hS0.out.trans (hba.mono hS0.out.size))
    have HO5 : Hid (OwnB (W6.drew.alloc (.cells #[] 5)) w2.heap.size (.slice (some ⟨W6.drew.heap.size, 0, none⟩) 0 0) []) := OwnB.lit W6.drew w2.heap.size HS6.out [] [] rfl 0 rfl (by decide)
    go_wp2_with fail
    refine HK.out _ _ (.inr hS1) ?_
    clear HK
    try simp only [Act.put, List.setIfInBounds_toArray, List.set_cons_zero, List.set_cons_succ]
    have HD7 := Lib.hid (HD6.out.below hS1.out)
    have hb7 : w2.heap.size ≤ (W6.drew.alloc (.cells #[] 5)).heap.size := Nat.le_trans HS6.out hS1.out.size
    refine mOne (i := 6) (by as_aux_lemma => kernel_rfl) rfl (fun K hK => ?_)
    have HK := Lib.hid hK
    clear hK
    rw [if_pos (by rfl)]
    refine wp_append_bytesO _ _ (by rfl) w2.heap.size (.slice (some ⟨W6.drew.heap.size, 0, none⟩) 0 0) [] (by rfl) HO5.out dA dn dc ds (by rfl) HDN.out.symm HDn.out HD7.out (by have := HDl.out; simp only [List.length_nil]; omega) hb7 ?_
    intro v7 w7 H7
    obtain ⟨A7, c7, hv7⟩ := H7.out.1.slice'
    rw [List.nil_append, HDN.out] at hv7
    subst hv7
    have hg7 : Below (W6.drew.alloc (.cells #[] 5)).heap.size (W6.drew.alloc (.cells #[] 5)) w7 ∨ True := .inr trivial
    have hS2 : Hid (Below W6.heap.size W6 w7) := Lib.hid (hS1.out.grown H7.out.2 hS1.out.size (fun k hk => by cases hk; exact Nat.le_refl _))
    have HO7 : Hid (OwnB w7 w2.heap.size (.slice A7 dn c7) ds) := Lib.hid (by have h := H7.out.1; rwa [List.nil_append] at h)
    refine HK.out _ _ (.inr hS2) ?_
    clear HK
    try simp only [Act.put, List.setIfInBounds_toArray, List.set_cons_zero, List.set_cons_succ]
    have HC7 := Lib.hid (HCs.out w7 A7 c7 hS2.out HO7.out)
    have hS3 : Hid (Below W6.heap.size W6 (w7.alloc (.cells #[.slice A7 dn c7] 30))) := Lib.hid (hS2.out.trans (((Below.refl _ _).alloc (Nat.le_refl _) _ : Below w7.heap.size w7 (w7.alloc (.cells #[.slice A7 dn c7] 30))).mono hS2.out.size))
    clear H7 hg7 HO5 HD7 hb7 hS1 hS0 hba HCs HO7
    refine mOne (i := 7) (by as_aux_lemma => kernel_rfl) rfl (fun K hK => ?_)
    have HK := Lib.hid hK
    clear hK
    rw [if_pos (by rfl)]
    go_wp2_with fail
    refine HK.out _ _ (.inr hS3) ?_
    clear HK
    try simp only [Act.put, List.setIfInBounds_toArray, List.set_cons_zero, List.set_cons_succ]
    refine mOne (i := 8) (by as_aux_lemma => kernel_rfl) rfl (fun K hK => ?_)
    have HK := Lib.hid hK
    clear hK
    rw [if_pos (by rfl)]
    refine wp_goCall 50 _ _ (by rfl) Tryd.func50 (by kernel_rfl) (by kernel_rfl) _ (by simp [Act.eval]) HC7.out ?_
    rintro e w8 ⟨v8, rfl, h8⟩
    refine ⟨_, rfl, ?_⟩
    have hS4 : Hid (Below W6.heap.size W6 w8) := Lib.hid (hS2.out.trans (h8.out.2.mono hS2.out.size))
    obtain ⟨A8, c8, hv8, _⟩ := h8.out.1.slice
    obtain ⟨nv', hnv'⟩ : ∃ x, (vs.take i ++ [ds] ++ vs.drop i).length = x := ⟨_, rfl⟩
    have HNV' := Lib.hid hnv'
    rw [hnv'] at hv8
    subst hv8
    clear hnv'
    refine HK.out _ _ (.inr hS4) ?_
    clear HK
    try simp only [Act.put, List.setIfInBounds_toArray, List.set_cons_zero, List.set_cons_succ]
    have hx7 := (hS4.out.block r (Array.getElem?_eq_some_iff.1 HX6.out).1).trans HX6.out
    have hy7 := (hS4.out.block (r + 1) (Array.getElem?_eq_some_iff.1 HY6.out).1).trans HY6.out
    have h7 : Hid (OwnRL w8 w2.heap.size (.slice A8 nv' c8) (vs.take i ++ [ds] ++ vs.drop i) ∧ Below W6.heap.size W6 w8) := Lib.hid ⟨h8.out.1, hS4.out⟩
    obtain ⟨f0, f1, f2, f3⟩ := row4_frozen hx7
    obtain ⟨x0, x1, x2, x3⟩ := row4_cells hx7
    clear h8 hS3 hS2 HC7
    refine mOne (i := 9) (by as_aux_lemma => kernel_rfl) rfl (fun K hK => ?_)
    have HK := Lib.hid hK
    clear hK
    rw [if_pos (by rfl)]
    go_wp2_with fail
    refine HK.out _ _ (.inr hS4) ?_
    clear HK
    try simp only [Act.put, List.setIfInBounds_toArray, List.set_cons_zero, List.set_cons_succ]
    refine mOne (i := 10) (by as_aux_lemma => kernel_rfl) rfl (fun K hK => ?_)
    have HK := Lib.hid hK
    clear hK
    rw [if_pos (by rfl)]
    go_wp2_with fail
    refine HK.out _ _ (by simp) ?_
    clear HK
    try simp only [Act.put, List.setIfInBounds_toArray, List.set_cons_zero, List.set_cons_succ]
    clear f0 f1 f2 f3 x0 x1 x2 x3
    have hty : ∀ k cs t fz, k = r → w8.heap[k]? = some (.cells cs t fz) → t = 28 := fun k cs t fz e hc => by
      rw [e, hx7] at hc; injection hc with hc; injection hc with _ h4 _; exact h4.symm
    have k8 : Kept (· = r) w8 (w8.setCell ⟨r, 2, none⟩ (.slice A8 nv' c8)) := Kept.set1 w8 r 2 _
    have hx8 := row4_set2 hx7 (.slice A8 nv' c8)
    have hs8 : w2.heap.size ≤ w8.heap.size := Nat.le_trans HS6.out h7.out.2.size
    have hy8 := (k8.block (r + 1) (Nat.lt_of_lt_of_le hrr1 hs8) (by show ¬ r + 1 = r; omega)).trans hy7
    have HB8 : Hid (Below r w (w8.setCell ⟨r, 2, none⟩ (.slice A8 nv' c8))) := (HB6.out.trans (h7.out.2.mono (Nat.le_trans (Nat.le_of_lt hrr) HS6.out))).trans (k8.below (Nat.le_trans (Nat.le_of_lt hrr) hs8) (fun k hk e => by have e' : k = r := e; omega))
    have HS8 : Hid (w2.heap.size ≤ (w8.setCell ⟨r, 2, none⟩ (.slice A8 nv' c8)).heap.size) := Nat.le_trans hs8 k8.size
    have hM : insM ⟨true, ks, vs, is⟩ i key ds kid = ⟨true, ks.take i ++ [key] ++ ks.drop i, vs.take i ++ [ds] ++ vs.drop i, is⟩ := rfl
    have hO7 : NodeOwn w8 w2.heap.size (insM ⟨true, ks, vs, is⟩ i key ds kid) A5 c5 A8 c8 iB id := by
      rw [hM]
      exact ⟨by have h := HK6.out.below h7.out.2; rw [← HNK'.out] at h; exact h, by have h := h7.out.1; rw [← HNV'.out] at h; exact h, HO6.out.i.below h7.out.2⟩
    have hO8 := hO7.keptN k8 hty
    have HCk : Hid (Calls Tryd.prog 52 #[.agg #[.bool true, .slice A5 nk' c5, .slice A8 nv' c8, .slice iB ni id]] (w8.setCell ⟨r, 2, none⟩ (.slice A8 nv' c8)) fun e w'' => ∃ b kB nkB kd vB nvB vd iB niB id cd, e = .returned (.tuple #[.agg #[.bool b, .slice kB nkB kd, .slice vB nvB vd, .slice iB niB id], .int .i64 cd]) ∧ Hid (b = (outM (insM ⟨true, ks, vs, is⟩ i key ds kid)).leaf ∧ nkB = (outM (insM ⟨true, ks, vs, is⟩ i key ds kid)).keys.length ∧ nvB = (outM (insM ⟨true, ks, vs, is⟩ i key ds kid)).vals.length ∧ niB = (outM (insM ⟨true, ks, vs, is⟩ i key ds kid)).kids.length ∧ cd = codeN (insM ⟨true, ks, vs, is⟩ i key ds kid) ∧ NodeOwn w'' w2.heap.size (outM (insM ⟨true, ks, vs, is⟩ i key ds kid)) kB kd vB vd iB id ∧ Below (w8.setCell ⟨r, 2, none⟩ (.slice A8 nv' c8)).heap.size (w8.setCell ⟨r, 2, none⟩ (.slice A8 nv' c8)) w'')) := by
      have h := checkedO_calls hO8
      rw [show (insM ⟨true, ks, vs, is⟩ i key ds kid).leaf = true from rfl, show (insM ⟨true, ks, vs, is⟩ i key ds kid).keys.length = nk' from by rw [hM]; exact HNK'.out, show (insM ⟨true, ks, vs, is⟩ i key ds kid).vals.length = nv' from by rw [hM]; exact HNV'.out, show (insM ⟨true, ks, vs, is⟩ i key ds kid).kids.length = ni from by rw [hM]; exact HNI.out] at h
      refine h.mono ?_
      rintro e w'' ⟨kB, kd, vB, vd, iB, id, rfl, h9⟩
      exact ⟨_, _, _, _, _, _, _, _, _, _, _, rfl, rfl, rfl, rfl, rfl, rfl, h9.out.1, h9.out.2⟩
    have HX8 := Lib.hid hx8
    have HY8 := Lib.hid hy8
    obtain ⟨f0', f1', f2', f3'⟩ := row4_frozen hx7
    obtain ⟨y0, y1, y2, y3⟩ := row4_cells hx7
    clear hx8 hy8 hx7 hy7 hty k8 hs8 hO7 hO8 hM h7 HX6 HY6 HO6 HK6 HB6 HS6 HW6 HZ6 hS4
    refine mDone (by as_aux_lemma => kernel_rfl) ?_ _
    go_wp2_with (go_at_call 52; (with_reducible refine HCk.out.mono ?_); rintro e w10 ⟨b10, kE, nkE, ke, vE, nvE, ve, iE, niE, ie, cd, rfl, h10⟩; refine park ?_; intro q hq)
    obtain ⟨s1, s2, s3, s4, s5, hO10, hb10⟩ := h10.out
    have hy10 := (hb10.block (r + 1) (Nat.lt_of_lt_of_le hrr1 HS8.out)).trans HY8.out
    have HSh := Lib.hid (And.intro s1 (And.intro s2 (And.intro s3 (And.intro s4 s5))))
    have HO10 := Lib.hid hO10
    have HB10 : Hid (Below r w w10) := HB8.out.trans (hb10.mono (Nat.le_trans (Nat.le_of_lt hrr) HS8.out))
    have HS10 : Hid (w2.heap.size ≤ w10.heap.size) := Nat.le_trans HS8.out hb10.size
    have HY10 := Lib.hid hy10
    clear y0 y1 y2 y3 f0' f1' f2' f3'
    obtain ⟨y0, y1, y2, y3⟩ := row4_cells hy10
    obtain ⟨f0, f1, f2, f3⟩ := row4_frozen hy10
    clear h10 hy10 HCk s1 s2 s3 s4 s5 hO10 hb10
    refine hq.out ?_
    clear hq
    go_wp2_with fail
    obtain ⟨g1, g2⟩ := row4_put HY10.out (.bool b10) (.slice kE nkE ke) (.slice vE nvE ve) (.slice iE niE ie)
    refine bodyPost_ret_by (results_cellTmp rfl _ rfl rfl (run_retNode g1)) rfl ?_
    obtain ⟨s1, s2, s3, s4, s5⟩ := HSh.out
    refine ⟨_, _, _, _, _, _, by rw [← s1, ← s2, ← s3, ← s4, ← s5]; rfl, (HO10.out.keptN g2 (fun k cs t fz hS hc => ?_)).base' (by rw [HR0.out]; exact Nat.le_of_lt hrr), ?_⟩
    · rw [show k = r + 1 from hS, HY10.out] at hc; injection hc with hc; injection hc with _ h4 _; exact h4.symm
    · rw [HR0.out]
      exact HB10.out.trans (g2.below (Nat.le_trans (Nat.le_of_lt hrr) HS10.out) (fun k hk e => by have e' : k = r + 1 := e; omega))
end Go.Proofs.YtibmlgkakeakcaaDoor
/- copied, whatever the node's size. -/
set_option linter.unusedSimpArgs false
set_option linter.unusedVariables false
namespace Go.Proofs.YtibmlgkakeakcaaDoor
open Go.RowKit Go.Proofs.YtibmlgkakeakcaaDoor.Crc
/-- append of values onto values of one's own, as an operation alone. -/
theorem wp_append_valsG {ts t : TypeId} {z : Value} {b : Nat} (E : El ts t z b) {w : World} {o : Oper} {a : Act} {K : Act → World → Prop} {Q : Exit → Act → World → Prop} (s x : Operand)
    (ho : o.op = .call { callee := .builtin .append, args := #[s, x], argTypes := #[ts, ts] })
    (base : Nat) (v : Value) (vs : List Value) (hs : a.eval s = v) (hown : OwnVs w base t v vs)
    (A : Option Addr) (m cx : Nat) (ys : List Value) (hx : a.eval x = .slice A m cx) (hm : m = ys.length) (hnil : A = none → cx = 0) (hU : ValsAt w A ys) (h1 : ∀ u ∈ ys, u.oneCell' = true)
    (hbytes : (vs.length + ys.length) * b ≤ 140737488355328) (hb0 : 8 ≤ b) (hbase : base ≤ w.heap.size)
    (h : ∀ v' w', Hid (OwnVs w' base t v' (vs ++ ys) ∧ w.grownBy w' v.ownBlock) → K (a.put o.dst v') w') : o.wp Tryd.prog a w K Q := by
  obtain ⟨i, hi, hz0, hz1, hz2⟩ := info_parts E.i
  subst hm
  cases A with
  | none =>
    have hys : ys = [] := by
      rcases ys with _ | ⟨y, ys⟩
      · rfl
      · obtain ⟨ad, hA, _⟩ := hU 0 (Nat.succ_pos _); cases hA
    subst hys
    have hc := hnil rfl
    subst hc
    have hr := run_append_owned_none (P := Tryd.prog) w base ts o.type t i 1 E.u hi v vs.length vs hown
    unfold Oper.wp execOp
    simp only [ho, resolve, invoke, builtin, Sem.run_bind, Sem.run_pure, Result.andThen_ok, List.map_toArray, List.map_cons, List.map_nil, hs, hx]
    simp only [List.length_nil, hr, Result.andThen_ok]
    exact h v w ⟨by rw [List.append_nil]; exact hown, World.grownBy.refl _ _⟩
  | some ad =>
    refine wp_append_own w s x _ ho base t i z 1 b E.u hi hz0 hz1 hz2 E.z1 (by decide) v vs.length _ hs hown ad ys.length cx ys hx (by rw [Nat.mul_one]) ?_ h1 (by unfold maxLen; have := Nat.le_trans (Nat.mul_le_mul_left (vs.length + ys.length) hb0) hbytes; omega) ?_ hbase ?_
    · intro j u hj
      have hlt : j < ys.length := (List.getElem?_eq_some_iff.1 hj).1
      obtain ⟨ad', hA, hc⟩ := hU j hlt
      cases hA
      rw [hc]
      rw [List.getElem?_eq_getElem hlt] at hj
      exact hj
    · exact hbytes
    · intro v' w' hown' hg hnn
      refine h v' w' ⟨?_, hg⟩
      unfold OwnVs
      rw [List.length_append]
      exact hown'
theorem wp_append_rowG {w : World} {o : Oper} {a : Act} {K : Act → World → Prop} {Q : Exit → Act → World → Prop} (s x : Operand)
    (ho : o.op = .call { callee := .builtin .append, args := #[s, x], argTypes := #[23, 23] })
    (base : Nat) (v : Value) (ls : List (List UInt8)) (hs : a.eval s = v) (hown : OwnRL w base v ls)
    (ad : Addr) (cx : Nat) (A : Option Addr) (m c : Nat) (l : List UInt8) (hx : a.eval x = .slice (some ad) 1 cx) (hcell : w.cell? (ad.add 0) = some (.slice A m c)) (hb : OwnB w base (.slice A m c) l)
    (hbytes : (ls.length + 1) * 24 ≤ 140737488355328) (hbase : base ≤ w.heap.size)
    (h : ∀ v' w', Hid (OwnRL w' base v' (ls ++ [l]) ∧ w.grownBy w' v.ownBlock) → K (a.put o.dst v') w') : o.wp Tryd.prog a w K Q := by
  obtain ⟨i, hi, hz0, hz1, hz2⟩ := info_parts infoRow
  obtain ⟨vs, h1, h2⟩ := hown
  have hm := hb.len
  subst hm
  refine wp_append_own w s x _ ho base 30 i (.slice none 0 0) 1 24 Tryd.underlying23 hi hz0 hz1 hz2 rfl (by decide) v ls.length vs hs h1 ad 1 cx [.slice A l.length c] hx rfl ?_ (by simp; rfl) (by unfold maxLen; omega) (by omega) hbase ?_
  · intro j u hj
    match j, hj with
    | 0, hj => simp at hj; rw [hcell, hj]
    | j + 1, hj => simp at hj
  · intro v' w' hown' hg hnn
    refine h v' w' ⟨⟨vs ++ [.slice A l.length c], by rw [List.length_append]; exact hown', ?_⟩, hg⟩
    have hvl : vs.length = ls.length := by have := h1.1; omega
    intro i hi
    rw [List.length_append, List.length_singleton] at hi
    by_cases hlt : i < ls.length
    · obtain ⟨Ai, ci, h3, h4⟩ := h2 i hlt
      refine ⟨Ai, ci, ?_, ?_⟩
      · rw [List.getElem?_append_left (by omega), h3, List.getElem_append_left hlt]
      · rw [List.getElem_append_left hlt]
        exact h4.grown hg (ownsRow_apart h4 h1 (by decide))
    · obtain rfl : i = ls.length := by omega
      refine ⟨A, c, ?_, ?_⟩
      · rw [List.getElem?_append_right (by omega), hvl]; simp
      · simp only [List.getElem_append_right (Nat.le_refl _), Nat.sub_self, List.getElem_cons_zero]
        exact hb.grown hg (ownsRow_apart hb h1 (by decide))
set_option maxRecDepth 10000 in
set_option maxHeartbeats 4000000 in
theorem copied_big {w : World} {n : NodeM} {kA : Option Addr} {kc : Nat} {vA : Option Addr} {vc : Nat} {iA : Option Addr} {ic : Nat} (h : NodeAt w n kA kc vA vc iA ic) (hn : n.keys.length * 16 ≤ 140737488351232 ∧ n.vals.length * 24 ≤ 140737488351232 ∧ n.kids.length * 8 ≤ 140737488351232) (hv : ∀ v ∈ n.vals, v.length ≤ 140737488351232) :
    Calls Tryd.prog 9 #[.agg #[.bool n.leaf, .slice kA n.keys.length kc, .slice vA n.vals.length vc, .slice iA n.kids.length ic]] w fun e w' => ∃ kB kd vB vd iB id, e = .returned (.agg #[.bool n.leaf, .slice kB n.keys.length kd, .slice vB n.vals.length vd, .slice iB n.kids.length id]) ∧ Hid (NodeAt w' n kB kd vB vd iB id ∧ Below w.heap.size w w') := by
  obtain ⟨lf, ks, vs, is⟩ := n
  obtain ⟨hb1, hr1, hr2⟩ := node2_box' w (.bool lf) (.slice kA ks.length kc) (.slice vA vs.length vc) (.slice iA is.length ic) (.bool false) (.slice none 0 0) (.slice none 0 0) (.slice none 0 0) 26 28
  obtain ⟨w1, hw1⟩ : ∃ w1, (w.alloc (.cells #[.bool lf, .slice kA ks.length kc, .slice vA vs.length vc, .slice iA is.length ic] 26)).alloc (.cells #[.bool false, .slice none 0 0, .slice none 0 0, .slice none 0 0] 28) = w1 := ⟨_, rfl⟩
  rw [hw1] at hb1 hr1 hr2
  have hx := box_cells hr1
  have H := Lib.hid (h.below hb1)
  have HB0 : Hid (Below w.heap.size w w1) := hb1
  have hsz : Hid (w.heap.size ≤ w1.heap.size) := hb1.size
  have HR2 := Lib.hid hr2
  obtain ⟨r, hr0⟩ : ∃ r, w.heap.size = r := ⟨_, rfl⟩
  rw [hr0] at hx HR2
  have HX := Lib.hid hx
  have HNs : Hid (ks.length * 16 ≤ 140737488351232 ∧ vs.length * 24 ≤ 140737488351232 ∧ is.length * 8 ≤ 140737488351232) := hn
  have HVl := Lib.hid hv
  clear hb1 hr1 hr2 hx h hn hv
  obtain ⟨B, hBe⟩ : ∃ B, w1.heap.size = B := ⟨_, rfl⟩
  have hrB : r + 1 < B := by rw [← hBe]; exact (Array.getElem?_eq_some_iff.1 HR2.out).1
  rw [hBe] at hsz HX
  obtain ⟨nk, hnk⟩ : ∃ k, ks.length = k := ⟨_, rfl⟩
  obtain ⟨nv, hnv⟩ : ∃ k, vs.length = k := ⟨_, rfl⟩
  obtain ⟨ni, hni⟩ : ∃ k, is.length = k := ⟨_, rfl⟩
  have HKs : Hid (nk = (strs ks).length ∧ (kA = none → kc = 0) ∧ ValsAt w1 kA (strs ks)) := ⟨by rw [strs_length, hnk], H.out.kn.1, H.out.k⟩
  have HIs : Hid (ni = (ints is).length ∧ (iA = none → ic = 0) ∧ ValsAt w1 iA (ints is)) := ⟨by rw [ints_length, hni], H.out.inn.1, H.out.i⟩
  have HK := Lib.hid hnk
  have HV := Lib.hid hnv
  have HI := Lib.hid hni
  simp only at hw1 ⊢
  simp only [hnk, hnv, hni] at hw1 HX
  rw [hnk, hnv, hni]
  clear hnk hnv hni
  go_enter Tryd.func9, Tryd.ntmps9
  go_wp2_with fail
  clear hw1
  refine wp_region_inv (fun listed a w' => ∃ (l0 l1 l2 l3 l4 l5 l6 l7 l8 l9 l10 l11 l12 : Bool) (x8 x11 x12 x15 x3 : Value), listed = #[l0, l1, l2, l3, l4, l5, l6, l7, l8, l9, l10, l11, l12] ∧ a = ⟨#[Value.agg #[Value.bool lf, Value.slice kA nk kc, Value.slice vA nv vc, Value.slice iA ni ic], Value.pointer (some ⟨r, 0, none⟩), Value.pointer (some ⟨r + 1, 0, none⟩), bif l11 then x3 else undef, undef, undef, bif l0 then Value.pointer (some ⟨r, 0, none⟩) else undef, bif l1 then Value.bool lf else undef, bif l2 then x8 else undef, bif l3 then Value.pointer (some ⟨r, 1, none⟩) else undef, bif l4 then Value.slice kA nk kc else undef, bif l5 then x11 else undef, bif l6 then x12 else undef, bif l7 then Value.pointer (some ⟨r, 3, none⟩) else undef, bif l8 then Value.slice iA ni ic else undef, bif l9 then x15 else undef, bif l10 then Value.agg #[Value.bool lf, x11, Value.slice none 0 0, x15] else undef, undef, undef, undef, undef, undef, undef, undef, undef, undef, undef, undef, undef, undef, undef, undef, undef, undef], []⟩ ∧ Below B w1 w' ∧ (l2 = true → l5 = false → OwnVs w' B 9 x8 []) ∧ (l5 = true → OwnVs w' B 9 x11 (strs ks)) ∧ (l6 = true → l9 = false → OwnVs w' B 3 x12 []) ∧ (l9 = true → OwnVs w' B 3 x15 (ints is)) ∧ (l11 = true → ∃ p, x3 = .pointer (some ⟨p, 0, none⟩) ∧ B ≤ p ∧ w'.heap[p]? = some (.cells (bif l12 then #[.bool lf, x11, .slice none 0 0, x15] else #[.bool false, .slice none 0 0, .slice none 0 0, .slice none 0 0]) 28 (0, 0))) ∧ (l10 = true → l5 = true ∧ l9 = true) ∧ (l12 = true → l10 = true ∧ l11 = true)) rfl ?_ ?_ ?_
  · exact ⟨false, false, false, false, false, false, false, false, false, false, false, false, false, undef, undef, undef, undef, undef, rfl, rfl, by rw [← hBe]; exact (Below.refl _ _).drew, fun h => (by cases h), fun h => (by cases h), fun h => (by cases h), fun h => (by cases h), fun h => (by cases h), fun h => (by cases h), fun h => (by cases h)⟩
  · intro i o listed a w ho hl hd hI
    rcases i with _ | _ | _ | _ | _ | _ | _ | _ | _ | _ | _ | _ | _ | i
    · -- operation 0
      cases ho
      obtain ⟨l0, l1, l2, l3, l4, l5, l6, l7, l8, l9, l10, l11, l12, x8, x11, x12, x15, x3, rfl, rfl, hB, f2, f5, f6, f9, f11, g10, g12⟩ := hI
      have hBs : B ≤ w.heap.size := by have := hB.size; omega
      have hi : l0 = false := by simpa using hl
      subst hi
      refine wpOp_step rfl (fun K hK => ?_)
      have HK := Lib.hid hK
      clear hK hl hd
      rw [if_pos (by rfl)]
      go_wp2_with fail
      exact HK.out _ _ ⟨true, l1, l2, l3, l4, l5, l6, l7, l8, l9, l10, l11, l12, x8, x11, x12, x15, x3, rfl, rfl, hB, f2, f5, f6, f9, f11, g10, g12⟩
    · -- operation 1
      cases ho
      obtain ⟨l0, l1, l2, l3, l4, l5, l6, l7, l8, l9, l10, l11, l12, x8, x11, x12, x15, x3, rfl, rfl, hB, f2, f5, f6, f9, f11, g10, g12⟩ := hI
      have hBs : B ≤ w.heap.size := by have := hB.size; omega
      have hi : l1 = false := by simpa using hl
      have d0 : l0 = true := by simpa using hd ⟨0, .data⟩ (by simp) rfl
      subst hi d0
      refine wpOp_step rfl (fun K hK => ?_)
      have HK := Lib.hid hK
      clear hK hl hd
      rw [if_pos (by rfl)]
      obtain ⟨z0, z1, z2, z3⟩ := HX.out _ hB
      go_wp2_with fail
      exact HK.out _ _ ⟨true, true, l2, l3, l4, l5, l6, l7, l8, l9, l10, l11, l12, x8, x11, x12, x15, x3, rfl, rfl, hB, f2, f5, f6, f9, f11, g10, g12⟩
    · -- operation 2
      cases ho
      obtain ⟨l0, l1, l2, l3, l4, l5, l6, l7, l8, l9, l10, l11, l12, x8, x11, x12, x15, x3, rfl, rfl, hB, f2, f5, f6, f9, f11, g10, g12⟩ := hI
      have hBs : B ≤ w.heap.size := by have := hB.size; omega
      have hi : l2 = false := by simpa using hl
      subst hi
      refine wpOp_step rfl (fun K hK => ?_)
      have HK := Lib.hid hK
      clear hK hl hd
      rw [if_pos (by rfl)]
      go_wp2_with fail
      have hba : Below w.heap.size w (w.alloc (.cells #[] 9)) := (Below.refl _ _).alloc (Nat.le_refl _) _
      refine HK.out _ _ ⟨l0, l1, true, l3, l4, l5, l6, l7, l8, l9, l10, l11, l12, .slice (some ⟨w.heap.size, 0, none⟩) 0 0, x11, x12, x15, x3, rfl, rfl, hB.trans (hba.mono hBs), fun _ _ => OwnVs.lit w B hBs [] (by decide), fun h => (f5 h).below hba, fun h h' => (f6 h h').below hba, fun h => (f9 h).below hba, fun h => ?_, g10, g12⟩
      obtain ⟨p, h1, h2, h3⟩ := f11 h
      exact ⟨p, h1, h2, (hba.block p (Array.getElem?_eq_some_iff.1 h3).1).trans h3⟩
    · -- operation 3
      cases ho
      obtain ⟨l0, l1, l2, l3, l4, l5, l6, l7, l8, l9, l10, l11, l12, x8, x11, x12, x15, x3, rfl, rfl, hB, f2, f5, f6, f9, f11, g10, g12⟩ := hI
      have hBs : B ≤ w.heap.size := by have := hB.size; omega
      have hi : l3 = false := by simpa using hl
      subst hi
      refine wpOp_step rfl (fun K hK => ?_)
      have HK := Lib.hid hK
      clear hK hl hd
      rw [if_pos (by rfl)]
      go_wp2_with fail
      exact HK.out _ _ ⟨l0, l1, l2, true, l4, l5, l6, l7, l8, l9, l10, l11, l12, x8, x11, x12, x15, x3, rfl, rfl, hB, f2, f5, f6, f9, f11, g10, g12⟩
    · -- operation 4
      cases ho
      obtain ⟨l0, l1, l2, l3, l4, l5, l6, l7, l8, l9, l10, l11, l12, x8, x11, x12, x15, x3, rfl, rfl, hB, f2, f5, f6, f9, f11, g10, g12⟩ := hI
      have hBs : B ≤ w.heap.size := by have := hB.size; omega
      have hi : l4 = false := by simpa using hl
      have d3 : l3 = true := by simpa using hd ⟨3, .data⟩ (by simp) rfl
      subst hi d3
      refine wpOp_step rfl (fun K hK => ?_)
      have HK := Lib.hid hK
      clear hK hl hd
      rw [if_pos (by rfl)]
      obtain ⟨z0, z1, z2, z3⟩ := HX.out _ hB
      go_wp2_with fail
      exact HK.out _ _ ⟨l0, l1, l2, true, true, l5, l6, l7, l8, l9, l10, l11, l12, x8, x11, x12, x15, x3, rfl, rfl, hB, f2, f5, f6, f9, f11, g10, g12⟩
    · -- operation 5
      cases ho
      obtain ⟨l0, l1, l2, l3, l4, l5, l6, l7, l8, l9, l10, l11, l12, x8, x11, x12, x15, x3, rfl, rfl, hB, f2, f5, f6, f9, f11, g10, g12⟩ := hI
      have hBs : B ≤ w.heap.size := by have := hB.size; omega
      have hi : l5 = false := by simpa using hl
      have d2 : l2 = true := by simpa using hd ⟨2, .data⟩ (by simp) rfl
      have d4 : l4 = true := by simpa using hd ⟨4, .data⟩ (by simp) rfl
      have n10 : l10 = false := by cases h : l10; rfl; (have := g10 h; rw [hi] at this; simp at this)
      have n12 : l12 = false := by cases h : l12; rfl; (have := (g12 h).1; rw [n10] at this; cases this)
      subst hi d2 d4 n10 n12
      refine wpOp_step rfl (fun K hK => ?_)
      have HK := Lib.hid hK
      clear hK hl hd
      rw [if_pos (by rfl)]
      refine wp_append_valsG elStr (.tmp 8) (.tmp 10) rfl B x8 [] rfl (f2 rfl rfl) kA nk kc (strs ks) rfl HKs.out.1 HKs.out.2.1 (HKs.out.2.2.below (by rw [hBe]; exact hB)) (strs_one ks) (by have := HNs.out; simp only [strs_length, List.length_nil]; omega) (by decide) hBs ?_
      intro v9 w9 h9
      have h9v := h9.out.1
      rw [List.nil_append] at h9v
      have hlt : ∀ k, x8.ownBlock = some k → B ≤ k := fun k hk => ((f2 rfl rfl).lt k hk).1
      have hB9 : Below B w1 w9 := hB.grown h9.out.2 hBs hlt
      refine HK.out _ _ ⟨l0, l1, true, l3, true, true, l6, l7, l8, l9, false, l11, false, x8, v9, x12, x15, x3, rfl, rfl, hB9, fun _ h => (by cases h), fun _ => h9v, fun h h' => (f6 h h').grown h9.out.2 (ownVs_apart (f6 h h') (f2 rfl rfl) (by decide)), fun h => (f9 h).grown h9.out.2 (ownVs_apart (f9 h) (f2 rfl rfl) (by decide)), fun h => ?_, fun h => (by cases h), fun h => (by cases h)⟩
      obtain ⟨p, h1, h2, h3⟩ := f11 h
      exact ⟨p, h1, h2, ownVs_node (f2 rfl rfl) h9.out.2 h3 (by decide)⟩
    · -- operation 6
      cases ho
      obtain ⟨l0, l1, l2, l3, l4, l5, l6, l7, l8, l9, l10, l11, l12, x8, x11, x12, x15, x3, rfl, rfl, hB, f2, f5, f6, f9, f11, g10, g12⟩ := hI
      have hBs : B ≤ w.heap.size := by have := hB.size; omega
      have hi : l6 = false := by simpa using hl
      subst hi
      refine wpOp_step rfl (fun K hK => ?_)
      have HK := Lib.hid hK
      clear hK hl hd
      rw [if_pos (by rfl)]
      go_wp2_with fail
      have hba : Below w.heap.size w (w.alloc (.cells #[] 3)) := (Below.refl _ _).alloc (Nat.le_refl _) _
      refine HK.out _ _ ⟨l0, l1, l2, l3, l4, l5, true, l7, l8, l9, l10, l11, l12, x8, x11, .slice (some ⟨w.heap.size, 0, none⟩) 0 0, x15, x3, rfl, rfl, hB.trans (hba.mono hBs), fun h h' => (f2 h h').below hba, fun h => (f5 h).below hba, fun _ _ => OwnVs.lit w B hBs [] (by decide), fun h => (f9 h).below hba, fun h => ?_, g10, g12⟩
      obtain ⟨p, h1, h2, h3⟩ := f11 h
      exact ⟨p, h1, h2, (hba.block p (Array.getElem?_eq_some_iff.1 h3).1).trans h3⟩
    · -- operation 7
      cases ho
      obtain ⟨l0, l1, l2, l3, l4, l5, l6, l7, l8, l9, l10, l11, l12, x8, x11, x12, x15, x3, rfl, rfl, hB, f2, f5, f6, f9, f11, g10, g12⟩ := hI
      have hBs : B ≤ w.heap.size := by have := hB.size; omega
      have hi : l7 = false := by simpa using hl
      subst hi
      refine wpOp_step rfl (fun K hK => ?_)
      have HK := Lib.hid hK
      clear hK hl hd
      rw [if_pos (by rfl)]
      go_wp2_with fail
      exact HK.out _ _ ⟨l0, l1, l2, l3, l4, l5, l6, true, l8, l9, l10, l11, l12, x8, x11, x12, x15, x3, rfl, rfl, hB, f2, f5, f6, f9, f11, g10, g12⟩
    · -- operation 8
      cases ho
      obtain ⟨l0, l1, l2, l3, l4, l5, l6, l7, l8, l9, l10, l11, l12, x8, x11, x12, x15, x3, rfl, rfl, hB, f2, f5, f6, f9, f11, g10, g12⟩ := hI
      have hBs : B ≤ w.heap.size := by have := hB.size; omega
      have hi : l8 = false := by simpa using hl
      have d7 : l7 = true := by simpa using hd ⟨7, .data⟩ (by simp) rfl
      subst hi d7
      refine wpOp_step rfl (fun K hK => ?_)
      have HK := Lib.hid hK
      clear hK hl hd
      rw [if_pos (by rfl)]
      obtain ⟨z0, z1, z2, z3⟩ := HX.out _ hB
      go_wp2_with fail
      exact HK.out _ _ ⟨l0, l1, l2, l3, l4, l5, l6, true, true, l9, l10, l11, l12, x8, x11, x12, x15, x3, rfl, rfl, hB, f2, f5, f6, f9, f11, g10, g12⟩
    · -- operation 9
      cases ho
      obtain ⟨l0, l1, l2, l3, l4, l5, l6, l7, l8, l9, l10, l11, l12, x8, x11, x12, x15, x3, rfl, rfl, hB, f2, f5, f6, f9, f11, g10, g12⟩ := hI
      have hBs : B ≤ w.heap.size := by have := hB.size; omega
      have hi : l9 = false := by simpa using hl
      have d6 : l6 = true := by simpa using hd ⟨6, .data⟩ (by simp) rfl
      have d8 : l8 = true := by simpa using hd ⟨8, .data⟩ (by simp) rfl
      have d5 : l5 = true := by simpa using hd ⟨5, .chain⟩ (by simp) rfl
      have n10 : l10 = false := by cases h : l10; rfl; (have := g10 h; rw [hi] at this; simp at this)
      have n12 : l12 = false := by cases h : l12; rfl; (have := (g12 h).1; rw [n10] at this; cases this)
      subst hi d6 d8 d5 n10 n12
      refine wpOp_step rfl (fun K hK => ?_)
      have HK := Lib.hid hK
      clear hK hl hd
      rw [if_pos (by rfl)]
      refine wp_append_valsG elInt (.tmp 12) (.tmp 14) rfl B x12 [] rfl (f6 rfl rfl) iA ni ic (ints is) rfl HIs.out.1 HIs.out.2.1 (HIs.out.2.2.below (by rw [hBe]; exact hB)) (ints_one is) (by have := HNs.out; simp only [ints_length, List.length_nil]; omega) (by decide) hBs ?_
      intro v9 w9 h9
      have h9v := h9.out.1
      rw [List.nil_append] at h9v
      have hlt : ∀ k, x12.ownBlock = some k → B ≤ k := fun k hk => ((f6 rfl rfl).lt k hk).1
      have hB9 : Below B w1 w9 := hB.grown h9.out.2 hBs hlt
      refine HK.out _ _ ⟨l0, l1, l2, l3, l4, true, true, l7, true, true, false, l11, false, x8, x11, x12, v9, x3, rfl, rfl, hB9, fun h h' => (f2 h h').grown h9.out.2 (ownVs_apart (f2 h h') (f6 rfl rfl) (by decide)), fun h => (f5 h).grown h9.out.2 (ownVs_apart (f5 h) (f6 rfl rfl) (by decide)), fun _ h => (by cases h), fun _ => h9v, fun h => ?_, fun h => (by cases h), fun h => (by cases h)⟩
      obtain ⟨p, h1, h2, h3⟩ := f11 h
      exact ⟨p, h1, h2, ownVs_node (f6 rfl rfl) h9.out.2 h3 (by decide)⟩
    · -- operation 10
      cases ho
      obtain ⟨l0, l1, l2, l3, l4, l5, l6, l7, l8, l9, l10, l11, l12, x8, x11, x12, x15, x3, rfl, rfl, hB, f2, f5, f6, f9, f11, g10, g12⟩ := hI
      have hBs : B ≤ w.heap.size := by have := hB.size; omega
      have hi : l10 = false := by simpa using hl
      have d1 : l1 = true := by simpa using hd ⟨1, .data⟩ (by simp) rfl
      have d5 : l5 = true := by simpa using hd ⟨5, .data⟩ (by simp) rfl
      have d9 : l9 = true := by simpa using hd ⟨9, .data⟩ (by simp) rfl
      subst hi d1 d5 d9
      refine wpOp_step rfl (fun K hK => ?_)
      have HK := Lib.hid hK
      clear hK hl hd
      rw [if_pos (by rfl)]
      have F5 := Lib.hid (f5 rfl)
      have F9 := Lib.hid (f9 rfl)
      clear f5 f9
      obtain ⟨A5, c5, rfl, _⟩ := F5.out.sl
      obtain ⟨A9, c9, rfl, _⟩ := F9.out.sl
      go_wp2_with fail
      exact HK.out _ _ ⟨l0, true, l2, l3, l4, true, l6, l7, l8, true, true, l11, l12, x8, .slice A5 (strs ks).length c5, x12, .slice A9 (ints is).length c9, x3, rfl, rfl, hB, f2, fun _ => F5.out, f6, fun _ => F9.out, f11, fun _ => ⟨rfl, rfl⟩, fun h => ⟨rfl, (g12 h).2⟩⟩
    · -- operation 11
      cases ho
      obtain ⟨l0, l1, l2, l3, l4, l5, l6, l7, l8, l9, l10, l11, l12, x8, x11, x12, x15, x3, rfl, rfl, hB, f2, f5, f6, f9, f11, g10, g12⟩ := hI
      have hBs : B ≤ w.heap.size := by have := hB.size; omega
      have hi : l11 = false := by simpa using hl
      have n12 : l12 = false := by cases h : l12; rfl; (have := (g12 h).2; rw [hi] at this; cases this)
      subst hi n12
      refine wpOp_step rfl (fun K hK => ?_)
      have HK := Lib.hid hK
      clear hK hl hd
      rw [if_pos (by rfl)]
      go_wp2_with fail
      have hba : Below w.heap.size w (w.alloc (.cells #[.bool false, .slice none 0 0, .slice none 0 0, .slice none 0 0] 28)) := (Below.refl _ _).alloc (Nat.le_refl _) _
      exact HK.out _ _ ⟨l0, l1, l2, l3, l4, l5, l6, l7, l8, l9, l10, true, false, x8, x11, x12, x15, .pointer (some ⟨w.heap.size, 0, none⟩), rfl, rfl, hB.trans (hba.mono hBs), fun h h' => (f2 h h').below hba, fun h => (f5 h).below hba, fun h h' => (f6 h h').below hba, fun h => (f9 h).below hba, fun _ => ⟨w.heap.size, rfl, hBs, heap_alloc_new w _⟩, g10, fun h => (by cases h)⟩
    · -- operation 12
      cases ho
      obtain ⟨l0, l1, l2, l3, l4, l5, l6, l7, l8, l9, l10, l11, l12, x8, x11, x12, x15, x3, rfl, rfl, hB, f2, f5, f6, f9, f11, g10, g12⟩ := hI
      have hBs : B ≤ w.heap.size := by have := hB.size; omega
      have hi : l12 = false := by simpa using hl
      have d11 : l11 = true := by simpa using hd ⟨11, .data⟩ (by simp) rfl
      have d10 : l10 = true := by simpa using hd ⟨10, .data⟩ (by simp) rfl
      have d9 : l9 = true := by simpa using hd ⟨9, .chain⟩ (by simp) rfl
      have d0 : l0 = true := by simpa using hd ⟨0, .phase⟩ (by simp) rfl
      have d1 : l1 = true := by simpa using hd ⟨1, .phase⟩ (by simp) rfl
      have d2 : l2 = true := by simpa using hd ⟨2, .phase⟩ (by simp) rfl
      have d3 : l3 = true := by simpa using hd ⟨3, .phase⟩ (by simp) rfl
      have d4 : l4 = true := by simpa using hd ⟨4, .phase⟩ (by simp) rfl
      have d5 : l5 = true := by simpa using hd ⟨5, .phase⟩ (by simp) rfl
      have d6 : l6 = true := by simpa using hd ⟨6, .phase⟩ (by simp) rfl
      have d7 : l7 = true := by simpa using hd ⟨7, .phase⟩ (by simp) rfl
      have d8 : l8 = true := by simpa using hd ⟨8, .phase⟩ (by simp) rfl
      subst hi d11 d10 d9 d0 d1 d2 d3 d4 d5 d6 d7 d8
      refine wpOp_step rfl (fun K hK => ?_)
      have HK := Lib.hid hK
      clear hK hl hd
      rw [if_pos (by rfl)]
      obtain ⟨p, h1, h2, h3⟩ := f11 rfl
      subst h1
      refine wp_storeRow 28 (.tmp 3) (.tmp 16) rfl p rfl [.bool lf, x11, .slice none 0 0, x15] [.bool false, .slice none 0 0, .slice none 0 0, .slice none 0 0] rfl (by kernel_rfl) rfl (own_ones (f5 rfl) (f9 rfl)) h3 ?_
      intro w9 h9 hk9
      refine HK.out _ _ ⟨true, true, true, true, true, true, true, true, true, true, true, true, true, x8, x11, x12, x15, .pointer (some ⟨p, 0, none⟩), rfl, rfl, hB.trans (hk9.below hBs (fun k hk e => by have e' : k = p := e; omega)), fun _ h => (by cases h), fun _ => (f5 rfl).kept hk9 (fun k hk e => ownVs_not (f5 rfl) h3 (by decide) (e ▸ hk)), fun _ h => (by cases h), fun _ => (f9 rfl).kept hk9 (fun k hk e => ownVs_not (f9 rfl) h3 (by decide) (e ▸ hk)), fun _ => ⟨p, rfl, h2, h9.out⟩, g10, fun _ => ⟨rfl, rfl⟩⟩
    · exact absurd ho (by simp)
  · intro listed a w hr hI
    obtain ⟨l0, l1, l2, l3, l4, l5, l6, l7, l8, l9, l10, l11, l12, x8, x11, x12, x15, x3, rfl, rfl, hB, f2, f5, f6, f9, f11, g10, g12⟩ := hI
    have hall := ready_nil_all (by kernel_rfl) rfl hr
    have e0 : l0 = true := by simpa using hall 0
    have e1 : l1 = true := by simpa using hall 1
    have e2 : l2 = true := by simpa using hall 2
    have e3 : l3 = true := by simpa using hall 3
    have e4 : l4 = true := by simpa using hall 4
    have e5 : l5 = true := by simpa using hall 5
    have e6 : l6 = true := by simpa using hall 6
    have e7 : l7 = true := by simpa using hall 7
    have e8 : l8 = true := by simpa using hall 8
    have e9 : l9 = true := by simpa using hall 9
    have e10 : l10 = true := by simpa using hall 10
    have e11 : l11 = true := by simpa using hall 11
    have e12 : l12 = true := by simpa using hall 12
    clear hall hr
    subst e0 e1 e2 e3 e4 e5 e6 e7 e8 e9 e10 e11 e12
    obtain ⟨p, h1, h2, h3⟩ := f11 rfl
    have HI0 : Hid (CopL B p w1 lf x11 x15 ks vs is 0 (.slice none 0 0) w) := ⟨h3, OwnRL.nil _ _, f5 rfl, f9 rfl, hB⟩
    clear f2 f5 f6 f9 f11 g10 g12 hB h3
    subst h1
    have HP := Lib.hid h2
    clear h2
    obtain ⟨y0, y1, y2, y3⟩ := HX.out w HI0.out.be
    go_wp2_with fail
    simp only [cond_true]
    clear y0 y1 y2 y3
    go_loopw [20] (fun i wr => ∃ t : Nat, t ≤ nv ∧ i = .int .i64 (t : Int) ∧ Hid (∃ v, CopL B p w1 lf x11 x15 ks vs is t v wr)) (fun i _ => nv - (intOf i).toNat)
    case atStart => exact ⟨0, Nat.zero_le _, rfl, _, HI0.out⟩
    case round =>
      obtain ⟨t, ht, rfl, HL⟩ := hrel
      clear HI0
      obtain ⟨v, hcop⟩ := HL.out
      have HC := Lib.hid hcop
      clear hcop HL
      have hnv64 : nv ≤ 9223372036854775807 := by have := HNs.out; have := HV.out; omega
      by_cases hlt : t < nv
      · have hl1 : t < vs.length := by rw [HV.out]; exact hlt
        obtain ⟨b, o, hA⟩ := H.out.v.spot (Nat.lt_of_le_of_lt (Nat.zero_le t) hl1)
        subst hA
        obtain ⟨Ai, ci, hc, hs⟩ := (H.out.below (by rw [hBe]; exact HC.out.be)).v.at t hl1
        try simp only at hc hs
        rw [← atL_eq vs t hl1] at hc hs
        obtain ⟨m, hm⟩ : ∃ m, (atL vs t).length = m := ⟨_, rfl⟩
        rw [hm] at hc hs
        have HM := Lib.hid hm
        have HS := Lib.hid hs
        have HT : Hid (vs.take (t + 1) = vs.take t ++ [atL vs t]) := by show _ = _; rw [List.take_succ_eq_append_getElem hl1, atL_eq vs t hl1]
        have hvl : (atL vs t).length ≤ 140737488351232 := by rw [atL_eq vs t hl1]; exact HVl.out _ (List.getElem_mem hl1)
        rw [hm] at hvl
        have HVl2 := Lib.hid hvl
        have HTl : Hid (((vs.take t).length + 1) * 24 ≤ 140737488355328) := by show _ ≤ _; rw [List.length_take]; have := HNs.out; omega
        obtain ⟨A2, c2, hv2, _, _, _, _⟩ := HC.out.v.slice
        obtain ⟨tl, htl⟩ : ∃ tl, (vs.take t).length = tl := ⟨_, rfl⟩
        rw [htl] at hv2
        subst hv2
        have z2 : wr.cell? ⟨p, 2, none⟩ = some (.slice A2 tl c2) := by rw [cell_of_row _ _ _ _ _ _ HC.out.blk]; rfl
        have z2b : (wr.alloc (.cells #[] 5)).cell? ⟨p, 2, none⟩ = some (.slice A2 tl c2) := ((((Below.refl _ _).alloc (Nat.le_refl _) _)).cell (Array.getElem?_eq_some_iff.1 HC.out.blk).1).trans z2
        clear hs hm hvl hl1 htl
        have hba : Below wr.heap.size wr (wr.drew.alloc (.cells #[] 5)) := (Below.refl _ _).drew.alloc (Nat.le_refl _) _
        have HO5 : Hid (OwnB (wr.drew.alloc (.cells #[] 5)) wr.heap.size (.slice (some ⟨wr.heap.size, 0, none⟩) 0 0) []) := OwnB.lit wr.drew wr.heap.size (Nat.le_refl _) [] [] rfl 0 rfl (by decide)
        have HB5 := Lib.hid hba
        have HBy : Hid (Bytes (wr.drew.alloc (.cells #[] 5)) Ai (atL vs t)) := HS.out.2.1.below hba
        clear hba
        have hBs : B ≤ wr.heap.size := by rw [← hBe]; exact HC.out.be.size
        go_wp2_with fail
        go_region_law (first | (refine step_of (by rfl) (wp_append_bytesO _ _ (by rfl) wr.heap.size (.slice (some ⟨wr.heap.size, 0, none⟩) 0 0) [] (by rfl) HO5.out Ai m ci (atL vs t) (by rfl) HM.out.symm HS.out.2.2.2.2 HBy.out (by have := HVl2.out; rw [HM.out]; simp only [List.length_nil]; omega) HB5.out.size ?_); intro v5 w5 H5; obtain ⟨A5, c5, hv5⟩ := H5.out.1.slice'; rw [List.nil_append, HM.out] at hv5; subst hv5; have HC5 := Lib.hid (CopL.cell HC.out HO5.out HB5.out H5.out HM.out hBs); have z5 := HC5.out.1; have z5a := HC5.out.2.1) | (refine step_of (by rfl) (wp_append_rowG _ _ (by rfl) B (.slice A2 tl c2) (vs.take t) (by rfl) HC5.out.2.2.1 ⟨w5.heap.size, 0, none⟩ 1 A5 m c5 (atL vs t) (by rfl) (by rw [Addr.add_lit, cell_of_row _ _ _ _ _ _ (heap_alloc_new w5 _)]; rfl) HC5.out.2.2.2.1 HTl.out HC5.out.2.2.2.2.1 ?_); intro v9 w9 H9; obtain ⟨A9, c9, hv9, _, _, _, _⟩ := H9.out.1.slice; obtain ⟨l9, hl9⟩ : ∃ l9, (vs.take t ++ [atL vs t]).length = l9 := ⟨_, rfl⟩; rw [hl9] at hv9; subst hv9; clear hl9; have HC9 := Lib.hid (CopL.put HC5.out.2.2.2.2.2 H9.out HT.out); have z9 := HC9.out.1; have f9 := HC9.out.2.1))
        all_goals
          have HF := HC9.out.2.2 HC5.out.2.2.2.2.1 HP.out
          have HFh := Lib.hid HF
          clear HF z9 f9 z5 z5a z2 z2b
          go_wp2_with fail
          exact ⟨⟨t + 1, by omega, by simp, _, HFh.out⟩, by simp [intOf]; omega⟩
      · obtain ⟨kB, kd, hk1, hk2, hk3, hk4, hk5, hk6⟩ := HC.out.k.sl
        obtain ⟨iB, id, hi1, hi2, hi3, hi4, hi5, hi6⟩ := HC.out.i.sl
        obtain ⟨vB, vd, hv1, hv2, hv3, hv4, hv5⟩ := HC.out.v.slice
        rw [List.take_of_length_le (by rw [HV.out]; omega)] at hv1 hv2
        rw [strs_length, HK.out] at hk1
        rw [ints_length, HI.out] at hi1
        rw [HV.out] at hv1
        subst hk1 hi1 hv1
        have hq := (HC.out.be.block (r + 1) hrB).trans HR2.out
        obtain ⟨q0, q1, q2, q3⟩ := row4_cells hq
        obtain ⟨q4, q5, q6, q7⟩ := row4_frozen hq
        obtain ⟨p0, p1, p2, p3⟩ := row4_cells HC.out.blk
        have HQ := Lib.hid hq
        clear hk2 hk3 hk4 hk5 hk6 hi2 hi3 hi4 hi5 hi6 hv2 hv3 hv4 hv5 hq
        go_wp2_with fail
        obtain ⟨g1, g2⟩ := row4_put HQ.out (.bool lf) (.slice kB nk kd) (.slice vB nv vd) (.slice iB ni id)
        refine bodyPost_ret_by (results_cell1 rfl _ rfl (run_retNode g1)) rfl ?_
        exact ⟨kB, kd, vB, vd, iB, id, rfl, HC.out.done (by rw [HV.out]; omega) HK.out HV.out HI.out HQ.out g2, (HB0.out.trans (HC.out.be.mono hsz.out)).trans (g2.below (Nat.le_trans hsz.out (by rw [← hBe]; exact HC.out.be.size)) (fun j hj e => by have e' : j = r + 1 := e; omega))⟩
end Go.Proofs.YtibmlgkakeakcaaDoor
/- For the rows: how great a node may be that is an argument. -/
set_option linter.unusedSimpArgs false
set_option linter.unusedVariables false
namespace Go.Proofs.YtibmlgkakeakcaaDoor
open Go.RowKit Go.ChangeShapes Go.WideShapes Go.Proofs.YtibmlgkakeakcaaDoor.Crc
theorem weightsAll_mem {H : Type} {P : Program} {e : TypeId} : ∀ {ds : List (DataW H)} {d : DataW H}, d ∈ ds → ∀ n ∈ d.weights P e, n ∈ DataW.weightsAll P e ds
  | d0 :: ds, d, hd, n, hn => by
    simp only [DataW.weightsAll, List.mem_append]
    rcases List.mem_cons.1 hd with rfl | hd
    · exact .inl hn
    · exact .inr (weightsAll_mem hd n hn)
  | [], _, hd, _, _ => by cases hd
theorem node_sized {H : Type} {enc : TypeId × Value → H} {P : Program} {W : World} {base b0 : Nat} {held : Bool} {r : Reach} {t tb ts te tr tq tu ti tj : TypeId} {v : Value} {d : DataW H} {ps : List MemPlace} {fs : Array Field} {Ts : List TypeId} {Ds : List (DataW H)} {j : Nat}
    (hsz : (DataW.weightsEach P Ts Ds).all (· ≤ reachBytes) = true) (hT : Ts[j]? = some t) (hD : Ds[j]? = some d)
    (hs : P.underlying t = some (.struct fs)) (hty : fs.map (·.type) = #[tb, ts, tr, ti]) (hone : Deep.oneCellFields P fs = true) (hC : P.cellsOf t = 4)
    (hts : P.underlying ts = some (.slice te)) (hte : P.underlying te = some .string) (cte : P.cellsOf te = 1)
    (htr : P.underlying tr = some (.slice tq)) (htq : P.underlying tq = some (.slice tu)) (htu : P.underlying tu = some (.int .u8)) (ctq : P.cellsOf tq = 1) (ctu : P.cellsOf tu = 1)
    (hti : P.underlying ti = some (.slice tj)) (htj : P.underlying tj = some (.int .i64)) (ctj : P.cellsOf tj = 1)
    (be : P.bytesOf te = 16) (bq : P.bytesOf tq = 24) (bu : P.bytesOf tu = 1) (bj : P.bytesOf tj = 8)
    (hv : Value.okWide P W r b0 t v) (h : DataW.Trod enc P W base (fun _ => true) held t v d ps)
    {n : NodeM} {kA : Option Addr} {kc : Nat} {vA : Option Addr} {vc : Nat} {iA : Option Addr} {ic : Nat} (hve : v = .agg #[.bool n.leaf, .slice kA n.keys.length kc, .slice vA n.vals.length vc, .slice iA n.kids.length ic]) (hN : NodeAt W n kA kc vA vc iA ic) :
    (n.keys.length * 16 ≤ 140737488351232 ∧ n.vals.length * 24 ≤ 140737488351232 ∧ n.kids.length * 8 ≤ 140737488351232) ∧ ∀ x ∈ n.vals, x.length ≤ 140737488351232 := by
  have hW : ∀ x ∈ d.weights P t, x ≤ 140737488351232 := fun x hx => by
    have := List.all_eq_true.1 hsz x (DataW.weights_mem_each hT hD x hx)
    exact of_decide_eq_true this
  have hsize : fs.size = 4 := by have := congrArg Array.size hty; simpa using this
  obtain ⟨f0, f1, f2, f3, rfl⟩ := Joins.array4 hsize
  simp only [List.map_toArray, List.map_cons, List.map_nil, Array.mk.injEq, List.cons.injEq, and_true] at hty
  obtain ⟨e0, e1, e2, e3⟩ := hty
  obtain ⟨v0, v1, v2, v3, y0, y1, y2, y3, m, rfl, rfl, rfl, h0, h1, h2, h3⟩ := Joins.open_agg4 hs hone hC hv h
  rw [e1] at h1
  rw [e2] at h2
  rw [e3] at h3
  simp only [Value.agg.injEq, Array.mk.injEq, List.cons.injEq, and_true] at hve
  obtain ⟨_, rfl, rfl, rfl⟩ := hve
  have hw : ∀ x ∈ DataW.weightsEach P [f0.type, f1.type, f2.type, f3.type] [y0.1, y1.1, y2.1, y3.1], x ≤ 140737488351232 := fun x hx => hW x (by simpa [DataW.weights, hs] using hx)
  have w1 : ∀ x ∈ y1.1.weights P ts, x ≤ 140737488351232 := fun x hx => hw x (DataW.weights_mem_each (j := 1) rfl rfl x (by rw [e1]; exact hx))
  have w2 : ∀ x ∈ y2.1.weights P tr, x ≤ 140737488351232 := fun x hx => hw x (DataW.weights_mem_each (j := 2) rfl rfl x (by rw [e2]; exact hx))
  have w3 : ∀ x ∈ y3.1.weights P ti, x ≤ 140737488351232 := fun x hx => hw x (DataW.weights_mem_each (j := 3) rfl rfl x (by rw [e3]; exact hx))
  refine ⟨⟨?_, ?_, ?_⟩, ?_⟩
  · rcases Deep.open_strs hts hte cte h1 with ⟨hc, _⟩ | ⟨a, len, cap, mm, Sx, hc, _, hl, hcap, hm, rfl, hcell⟩
    · simp at hc; obtain ⟨_, hh, _⟩ := hc; simp [hh]
    · simp at hc
      have := w1 _ (by simp only [DataW.weights, hts]; exact List.mem_cons_self)
      rw [be] at this
      simp at this; omega
  · rcases Deep.open_int_rows htr htq htu ctq ctu h2 with ⟨hc, _⟩ | ⟨a, len, cap, A, L, C, Z, hc, _, hl, hm, rfl, _⟩
    · simp at hc; obtain ⟨_, hh, _⟩ := hc; simp [hh]
    · simp at hc
      have := w2 _ (by simp only [DataW.weights, htr]; exact List.mem_cons_self)
      rw [bq] at this
      simp at this; omega
  · rcases open_ints hti htj ctj h3 with ⟨hc, _⟩ | ⟨a, len, cap, zs, hc, _, hl, hcap, hz, rfl, hcell, _⟩
    · simp at hc; obtain ⟨_, hh, _⟩ := hc; simp [hh]
    · simp at hc
      have := w3 _ (by simp only [DataW.weights, hti]; exact List.mem_cons_self)
      rw [bj] at this
      simp [lits] at this hz; omega
  · intro x hx
    obtain ⟨i, hi, rfl⟩ := List.getElem_of_mem hx
    obtain ⟨ad, Ai, ci, hA, hcl, _⟩ := hN.v i hi
    rcases Deep.open_int_rows htr htq htu ctq ctu h2 with ⟨hc, _⟩ | ⟨a, len, cap, A, L, C, Z, hc, _, hl, hm, rfl, hrow⟩
    · simp at hc; obtain ⟨_, hh, _⟩ := hc; simp [hh] at hi
    · simp at hc
      obtain ⟨hc1, hc2, hc3⟩ := hc
      obtain ⟨q1, q2, q3, q4, q5, q6, q7⟩ := hrow i (by omega)
      rw [hA] at hc1
      injection hc1 with hc1
      rw [hc1, q1] at hcl
      have hL : (n.vals[i]).length = L i := by
        simp only [Option.some.injEq, Value.slice.injEq] at hcl
        exact hcl.2.1.symm
      rw [hL]
      cases hAi : A i with
      | none => have := q6 hAi; omega
      | some ad' =>
        have hmem : (Deep.intRow .u8 (A i) (L i) (Z i) : DataW H) ∈ (List.range len).map fun r => (Deep.intRow .u8 (A r) (L r) (Z r) : DataW H) := List.mem_map.2 ⟨i, List.mem_range.2 (by omega), rfl⟩
        have := w2 (((lits .u8 ((Z i).take (L i)) : List (DataW H)).length + (lits .u8 ((Z i).drop (L i)) : List (DataW H)).length) * P.bytesOf tu) (by
          simp only [DataW.weights, htr]
          refine List.mem_cons_of_mem _ (List.mem_append_left _ (weightsAll_mem hmem _ ?_))
          rw [hAi]
          simp only [Deep.intRow, DataW.weights, htq]
          exact List.mem_cons_self)
        rw [bu] at this
        simp [lits] at this; omega
end Go.Proofs.YtibmlgkakeakcaaDoor
