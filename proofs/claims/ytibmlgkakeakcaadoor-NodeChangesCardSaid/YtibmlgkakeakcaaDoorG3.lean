/- The walk of node.Right. -/
import Derived.Test.YtibmlgkakeakcaaDoorG1
import Derived.Deep.RegionHeld3
import Derived.Great.Walk
import Derived.Deep.RegionHeld
import Derived.Deep.WholeRow
import Derived.Deep.MidRow
import Derived.Maps.AppendAt
import Derived.ProofKit
import Derived.OpenShut
import Derived.ShutString
import Derived.ChangeOld
import Derived.SizedLaws
import Derived.ChangeSlices
import Derived.Deep.Matrix
set_option linter.unusedSimpArgs false
set_option linter.unusedVariables false
namespace Go.Proofs.YtibmlgkakeakcaaDoor
open Go.RowKit Go.Proofs.YtibmlgkakeakcaaDoor.Crc
/-- What a node is boxed as. -/
theorem node_box (w : World) (a b c d : Value) (T : TypeId) : Below w.heap.size w (w.alloc (.cells #[a, b, c, d] T)) ∧ (w.alloc (.cells #[a, b, c, d] T)).heap[w.heap.size]? = some (.cells #[a, b, c, d] T (0, 0)) :=
  ⟨(Below.refl _ _).alloc (Nat.le_refl _) _, heap_alloc_new w _⟩
theorem box_cells {w : World} {r : Nat} {a b c d : Value} {T : TypeId} (h : w.heap[r]? = some (.cells #[a, b, c, d] T (0, 0))) : ∀ w', Below w.heap.size w w' → w'.cell? ⟨r, 0, none⟩ = some a ∧ w'.cell? ⟨r, 1, none⟩ = some b ∧ w'.cell? ⟨r, 2, none⟩ = some c ∧ w'.cell? ⟨r, 3, none⟩ = some d := fun w' hb => by
  have e := (hb.block _ (Array.getElem?_eq_some_iff.1 h).1).trans h
  exact ⟨by rw [cell_of_row _ _ _ _ _ _ e]; rfl, by rw [cell_of_row _ _ _ _ _ _ e]; rfl, by rw [cell_of_row _ _ _ _ _ _ e]; rfl, by rw [cell_of_row _ _ _ _ _ _ e]; rfl⟩
set_option maxRecDepth 10000 in
set_option maxHeartbeats 1000000 in
theorem Right_calls {w : World} {n : NodeM} {kA : Option Addr} {kc : Nat} {vA : Option Addr} {vc : Nat} {iA : Option Addr} {ic : Nat} (h : NodeAt w n kA kc vA vc iA ic) :
    Calls Tryd.prog 14 #[.agg #[.bool n.leaf, .slice kA n.keys.length kc, .slice vA n.vals.length vc, .slice iA n.kids.length ic]] w fun e w' => e = .returned (.bool (rightB n)) ∧ Below w.heap.size w w' := by
  obtain ⟨lf, ks, vs, is⟩ := n
  obtain ⟨hb1, hr1⟩ := node_box w (.bool lf) (.slice kA ks.length kc) (.slice vA vs.length vc) (.slice iA is.length ic) 28
  obtain ⟨w1, hw1⟩ : ∃ w1, w.alloc (.cells #[.bool lf, .slice kA ks.length kc, .slice vA vs.length vc, .slice iA is.length ic] 28) = w1 := ⟨_, rfl⟩
  obtain ⟨r, hr⟩ : ∃ r, w.heap.size = r := ⟨_, rfl⟩
  rw [hw1] at hb1 hr1
  rw [hr] at hr1
  have hx := box_cells hr1
  have H := Lib.hid (h.below hb1)
  rw [hr] at hb1
  have HB := Lib.hid hb1
  obtain ⟨x0, x1, x2, x3⟩ := hx w1 (Below.refl _ _)
  have HX := Lib.hid hx
  clear hb1 hr1 hx h
  obtain ⟨nk, hnk⟩ : ∃ k, ks.length = k := ⟨_, rfl⟩
  have HK := Lib.hid hnk
  obtain ⟨nv, hnv⟩ : ∃ k, vs.length = k := ⟨_, rfl⟩
  have HV := Lib.hid hnv
  obtain ⟨ni, hni⟩ : ∃ k, is.length = k := ⟨_, rfl⟩
  have HI := Lib.hid hni
  have hkm : nk ≤ 9223372036854775807 := by rw [← hnk]; exact Nat.le_trans H.out.kn.2.1 H.out.kn.2.2
  simp only at hw1 ⊢
  rw [hnk, hnv, hni] at hw1 ⊢
  rw [hnk] at x1
  rw [hnv] at x2
  rw [hni] at x3
  clear hnk hnv hni
  go_enter Tryd.func14, Tryd.ntmps14
  go_wp2_with fail
  clear hw1
  go_loop [8] (fun i => ∃ t : Nat, t ≤ nk ∧ i = .int .i64 (t : Int) ∧ Hid (riseK ks t)) (fun i => nk - (intOf i).toNat)
  case atStart => exact ⟨0, Nat.zero_le _, rfl, riseK.zero _⟩
  case round =>
    obtain ⟨t, ht, rfl, HR⟩ := hrel
    by_cases hlt : t < nk
    · have hlt' : t < ks.length := by rw [HK.out]; exact hlt
      obtain ⟨b, o, hA, _⟩ := H.out.k.spot (by rw [strs_length]; exact Nat.lt_of_le_of_lt (Nat.zero_le _) hlt')
      subst hA
      have hc := H.out.k.strAt t hlt'
      simp only at hc
      obtain ⟨s, hs⟩ : ∃ s, bstr (atL ks t) = s := ⟨_, rfl⟩
      unfold strV at hc
      rw [hs] at hc
      have hsz : s.size = (atL ks t).length := by rw [← hs, bstr_size]
      have hst : s.toList = atL ks t := by rw [← hs, bstr_toList]
      have HSz := Lib.hid hsz
      have HSt := Lib.hid hst
      clear hs hsz hst
      by_cases h40 : 40 < s.size
      · have HF : Hid (¬ RightM ⟨lf, ks, vs, is⟩) := fun hr => by
          have := (hr.1 t hlt').1
          rw [← HSz.out] at this; omega
        have d40 : (40 : Int) < (s.size : Int) := by omega
        clear h40 hlt'
        go_wp2_with fail
        go_ret
        exact ⟨by rw [rightB_false HF.out]; rfl, by first | exact HB.out | (rw [hr]; exact HB.out)⟩
      · have d40 : (s.size : Int) ≤ 40 := by omega
        have HL40 : Hid ((atL ks t).length ≤ 40) := by rw [← HSz.out]; show s.size ≤ 40; omega
        clear h40
        by_cases h0 : t = 0
        · subst h0
          rw [Nat.add_zero] at hc
          have HN : Hid (riseK ks 1) := HR.out.succ HL40.out (fun h => absurd h (Nat.lt_irrefl _))
          clear HR hlt' HSz HSt
          go_wp2_with fail
          go_round
          case rel => exact ⟨1, Nat.succ_le_of_lt hlt, by go_num, HN.out⟩
          case measure => simp [intOf]; omega
        · obtain ⟨u, rfl⟩ : ∃ u, t = u + 1 := ⟨t - 1, by omega⟩
          have hc' := H.out.k.strAt u (by simp only; omega)
          obtain ⟨p, hp⟩ : ∃ s, bstr (atL ks u) = s := ⟨_, rfl⟩
          unfold strV at hc'
          simp only at hc'
          rw [hp] at hc'
          have HPt : Hid (p.toList = atL ks u) := by rw [← hp]; exact bstr_toList _
          clear hp h0
          cases hl : ltB (atL ks u) (atL ks (u + 1))
          · have HF : Hid (¬ RightM ⟨lf, ks, vs, is⟩) := fun hr => by
              have := (hr.1 (u + 1) hlt').2 (Nat.succ_pos _)
              simp only [Nat.add_sub_cancel] at this
              rw [hl] at this; cases this
            have hle := leB_not (atL ks (u + 1)) (atL ks u)
            rw [hl, ← HSt.out, ← HPt.out] at hle
            cases f1 : Op.bytesLess s.toList p.toList
            · have f2 : (s.toList == p.toList) = true := by
                unfold ltB at hle
                rw [f1] at hle
                simpa using hle
              clear hle hl hlt' HR HSz HSt HPt HL40
              go_wp2_with fail
              go_ret
              exact ⟨by rw [rightB_false HF.out]; rfl, by first | exact HB.out | (rw [hr]; exact HB.out)⟩
            · clear hle hl hlt' HR HSz HSt HPt HL40
              go_wp2_with fail
              go_ret
              exact ⟨by rw [rightB_false HF.out]; rfl, by first | exact HB.out | (rw [hr]; exact HB.out)⟩
          · have HN : Hid (riseK ks (u + 1 + 1)) := HR.out.succ HL40.out (fun _ => by simpa using hl)
            have hle := leB_not (atL ks (u + 1)) (atL ks u)
            rw [hl, ← HSt.out, ← HPt.out] at hle
            simp only [Bool.not_true, Bool.or_eq_false_iff] at hle
            obtain ⟨f1, f2⟩ := hle
            unfold ltB at f1
            clear hl hlt' HR HSz HSt HPt HL40
            go_wp2_with fail
            go_round
            case rel => exact ⟨u + 1 + 1, Nat.succ_le_of_lt hlt, by go_num, HN.out⟩
            case measure => simp [intOf]; omega
    · obtain rfl : nk = t := by omega
      have HRs : Hid (riseK ks ks.length) := by rw [HK.out]; exact HR.out
      clear HR hlt
      cases lf
      · -- an inner one
        by_cases e1 : ni = nk
        · subst e1
          by_cases e2 : ni = 0
          · subst e2
            have HE : Hid (rightB ⟨false, ks, vs, is⟩ = false) := rightB_false fun hr => by
              have := hr.2.2.1
              rw [show (NodeM.kids ⟨false, ks, vs, is⟩).length = 0 from HI.out] at this
              exact absurd this (Nat.lt_irrefl _)
            rw [show ((0 : Nat) : Int) = (0 : Int) from rfl]
            go_wp2_with fail
            go_ret
            exact ⟨by rw [HE.out]; rfl, by first | exact HB.out | (rw [hr]; exact HB.out)⟩
          · have f2 : ((ni : Int) == 0) = false := by simp; omega
            have hpos : 0 < ni := Nat.pos_of_ne_zero e2
            have hposI : (0 : Int) < (ni : Int) := by omega
            clear e2
            by_cases e3 : nv = 0
            · subst e3
              have hk0 : 0 < ks.length := by rw [HK.out]; exact hpos
              obtain ⟨b, o, hA, _⟩ := H.out.k.spot (by rw [strs_length]; exact hk0)
              subst hA
              have hc := H.out.k.strAt 0 hk0
              simp only [Nat.add_zero] at hc
              obtain ⟨s, hs⟩ : ∃ s, bstr (atL ks 0) = s := ⟨_, rfl⟩
              unfold strV at hc
              rw [hs] at hc
              have HSt : Hid (s.toList = atL ks 0) := by rw [← hs]; exact bstr_toList _
              clear hs hk0
              by_cases e4 : atL ks 0 = []
              · have f4 : (s.toList == []) = true := by rw [HSt.out, e4]; rfl
                have f4' : s.toList = [] := by rw [HSt.out, e4]
                have HE4 := Lib.hid e4
                have HCo := Lib.hid (ContainsK_calls iA ni ic is w1 HI.out.symm H.out.i hkm)
                clear e4 HSt
                go_wp2_with (go_at_call 38; (with_reducible refine HCo.out.mono ?_); rintro e w' ⟨b2, rfl, hb2, rfl⟩; refine park ?_; intro q hq)
                refine hq.out ?_
                clear hq HCo
                have HE : Hid (rightB ⟨false, ks, vs, is⟩ = !b2) := by
                  cases b2
                  · refine rightB_true ⟨HRs.out, ?_⟩
                    show _ ∧ _ ∧ _ ∧ _ ∧ _
                    refine ⟨by show is.length = ks.length; rw [HI.out, HK.out], by show 0 < is.length; rw [HI.out]; exact hpos, HV.out, HE4.out, fun v hv => ?_⟩
                    have hno : ¬ (v < 0 ∨ 2147483647 < v) := fun h => absurd (hb2.out.2 ⟨v, hv, h⟩) (by decide)
                    omega
                  · refine rightB_false fun hr => ?_
                    obtain ⟨v, hv, hlt⟩ := hb2.out.1 rfl
                    have := hr.2.2.2.2.2 v hv
                    omega
                clear hb2
                go_wp2_with fail
                go_ret
                exact ⟨by rw [HE.out]; rfl, by first | exact HB.out | (rw [hr]; exact HB.out)⟩
              · have HE : Hid (rightB ⟨false, ks, vs, is⟩ = false) := rightB_false fun hr => e4 hr.2.2.2.2.1
                have f4 : (s.toList == []) = false := by rw [beq_eq_false_iff_ne, HSt.out]; exact e4
                clear e4 HSt
                go_wp2_with fail
                go_ret
                exact ⟨by rw [HE.out]; rfl, by first | exact HB.out | (rw [hr]; exact HB.out)⟩
            · have HE : Hid (rightB ⟨false, ks, vs, is⟩ = false) := rightB_false fun hr => e3 (by rw [← HV.out]; exact hr.2.2.2.1)
              have f3 : (0 : Int) < (nv : Int) := by omega
              clear e3
              go_wp2_with fail
              go_ret
              exact ⟨by rw [HE.out]; rfl, by first | exact HB.out | (rw [hr]; exact HB.out)⟩
        · have HE : Hid (rightB ⟨false, ks, vs, is⟩ = false) := rightB_false fun hr => e1 (by rw [← HI.out, ← HK.out]; exact hr.2.1)
          have f1 : ((ni : Int) != (nk : Int)) = true := by simp; omega
          clear e1
          go_wp2_with fail
          go_ret
          exact ⟨by rw [HE.out]; rfl, by first | exact HB.out | (rw [hr]; exact HB.out)⟩
      · -- a leaf
        by_cases e1 : nv = nk
        · subst e1
          by_cases e2 : ni = 0
          · subst e2
            have HCo := Lib.hid (ContainsV_calls vA nv vc vs w1 HV.out.symm H.out.v (by rw [← HV.out]; exact Nat.le_trans H.out.vn.2.1 H.out.vn.2.2))
            go_wp2_with (go_at_call 36; (with_reducible refine HCo.out.mono ?_); rintro e w' ⟨b2, rfl, hb2, rfl⟩; refine park ?_; intro q hq)
            refine hq.out ?_
            clear hq HCo
            have HE : Hid (rightB ⟨true, ks, vs, is⟩ = !b2) := by
              cases b2
              · refine rightB_true ⟨HRs.out, ?_⟩
                show _ ∧ _ ∧ _
                refine ⟨by show vs.length = ks.length; rw [HV.out, HK.out], HI.out, fun v hv => Nat.not_lt.1 fun hlt => ?_⟩
                exact absurd (hb2.out.2 ⟨v, hv, hlt⟩) (by decide)
              · refine rightB_false fun hr => ?_
                obtain ⟨v, hv, hlt⟩ := hb2.out.1 rfl
                have := hr.2.2.2 v hv
                omega
            clear hb2
            go_wp2_with fail
            go_ret
            exact ⟨by rw [HE.out]; rfl, by first | exact HB.out | (rw [hr]; exact HB.out)⟩
          · have HE : Hid (rightB ⟨true, ks, vs, is⟩ = false) := rightB_false fun hr => e2 (by rw [← HI.out]; exact hr.2.2.1)
            have f2 : ((ni : Int) == 0) = false := by simp; omega
            clear e2
            go_wp2_with fail
            go_ret
            exact ⟨by rw [HE.out]; rfl, by first | exact HB.out | (rw [hr]; exact HB.out)⟩
        · have HE : Hid (rightB ⟨true, ks, vs, is⟩ = false) := rightB_false fun hr => e1 (by rw [← HV.out, ← HK.out]; exact hr.2.1)
          have f1 : ((nv : Int) == (nk : Int)) = false := by simp; omega
          clear e1
          go_wp2_with fail
          go_ret
          exact ⟨by rw [HE.out]; rfl, by first | exact HB.out | (rw [hr]; exact HB.out)⟩
end Go.Proofs.YtibmlgkakeakcaaDoor
/- The walks of node.cell and sizes. -/
set_option linter.unusedSimpArgs false
set_option linter.unusedVariables false
namespace Go.Proofs.YtibmlgkakeakcaaDoor
open Go.RowKit Go.Proofs.YtibmlgkakeakcaaDoor.Crc
theorem RightM.key {n : NodeM} (h : RightM n) (i : Nat) (hi : i < n.keys.length) : (atL n.keys i).length ≤ 40 := (h.1 i hi).1
theorem RightM.val {n : NodeM} (h : RightM n) (hl : n.leaf = true) (i : Nat) (hi : i < n.keys.length) : i < n.vals.length ∧ (atL n.vals i).length ≤ 49 := by
  have h2 := h.2
  rw [if_pos hl] at h2
  have hi' : i < n.vals.length := by rw [h2.1]; exact hi
  exact ⟨hi', by rw [atL_eq _ _ hi']; exact h2.2.2 _ (List.getElem_mem hi')⟩
theorem RightM.kid {n : NodeM} (h : RightM n) (hl : n.leaf = false) (i : Nat) (hi : i < n.keys.length) : i < n.kids.length ∧ 0 ≤ atI n.kids i ∧ atI n.kids i ≤ 2147483647 := by
  have h2 := h.2
  rw [if_neg (by rw [hl]; decide)] at h2
  have hi' : i < n.kids.length := by rw [h2.1]; exact hi
  exact ⟨hi', by rw [atI_eq _ _ hi']; exact h2.2.2.2.2 _ (List.getElem_mem hi')⟩
theorem cellB_len {n : NodeM} (h : RightM n) (i : Nat) (hi : i < n.keys.length) : (cellB n i).length ≤ 110 := by
  unfold cellB
  have h1 := textB_len (atL n.keys i) (by have := h.key i hi; omega)
  have h2 := h.key i hi
  rw [List.length_append]
  cases hl : n.leaf
  · simp only [Bool.false_eq_true, if_false, fixB_length]; omega
  · have h3 := (h.val hl i hi).2
    have h4 := textB_len (atL n.vals i) (by omega)
    simp only [if_true]; omega
theorem OwnB.slice' {w : World} {base : Nat} {v : Value} {l : List UInt8} (h : OwnB w base v l) : ∃ A c, v = .slice A l.length c := by
  rcases h.form with ⟨rfl, rfl⟩ | ⟨g, c, rfl, _⟩
  · exact ⟨none, 0, rfl⟩
  · exact ⟨_, c, rfl⟩
set_option maxRecDepth 10000 in
set_option maxHeartbeats 1000000 in
theorem ncell_calls {w : World} {n : NodeM} {kA : Option Addr} {kc : Nat} {vA : Option Addr} {vc : Nat} {iA : Option Addr} {ic : Nat} (h : NodeAt w n kA kc vA vc iA ic) (hr : RightM n) (i : Nat) (hi : i < n.keys.length) :
    Calls Tryd.prog 31 #[.agg #[.bool n.leaf, .slice kA n.keys.length kc, .slice vA n.vals.length vc, .slice iA n.kids.length ic], .int .i64 (i : Int)] w fun e w' => ∃ A c, e = .returned (.slice A (cellB n i).length c) ∧ OwnB w' w.heap.size (.slice A (cellB n i).length c) (cellB n i) ∧ Below w.heap.size w w' := by
  obtain ⟨lf, ks, vs, is⟩ := n
  obtain ⟨hb1, hr1⟩ := node_box w (.bool lf) (.slice kA ks.length kc) (.slice vA vs.length vc) (.slice iA is.length ic) 28
  obtain ⟨w1, hw1⟩ : ∃ w1, w.alloc (.cells #[.bool lf, .slice kA ks.length kc, .slice vA vs.length vc, .slice iA is.length ic] 28) = w1 := ⟨_, rfl⟩
  obtain ⟨r, hr0⟩ : ∃ r, w.heap.size = r := ⟨_, rfl⟩
  rw [hw1] at hb1 hr1
  rw [hr0] at hr1
  have hx := box_cells hr1
  have H := Lib.hid (h.below hb1)
  rw [hr0] at hb1
  have HB := Lib.hid hb1
  obtain ⟨x0, x1, x2, x3⟩ := hx w1 (Below.refl _ _)
  have HX := Lib.hid hx
  have HR := Lib.hid hr
  have hrw : r ≤ w1.heap.size := by have := hb1.size; omega
  have hi' : i < ks.length := hi
  obtain ⟨b, o, hA, _⟩ := H.out.k.spot (by rw [strs_length]; exact Nat.lt_of_le_of_lt (Nat.zero_le _) hi)
  subst hA
  have hc := H.out.k.strAt i hi
  simp only at hc
  have hP := PutText_calls w1.heap.size (.slice none 0 0) [] (atL ks i) w1 (World.ownsRow_nil _ _ _ _) (Nat.le_refl _) (by simp) (by have := hr.key i hi; simp only at this; omega)
  unfold strV at hc
  obtain ⟨s, hs⟩ : ∃ s, bstr (atL ks i) = s := ⟨_, rfl⟩
  rw [hs] at hc hP
  have HP := Lib.hid hP
  have HI := Lib.hid hi
  have hiI : (i : Int) < (ks.length : Int) := by omega
  clear hb1 hr1 hx h hP hs hi hr
  obtain ⟨nk, hnk⟩ : ∃ k, ks.length = k := ⟨_, rfl⟩
  simp only at hw1 ⊢
  rw [hnk] at hw1 hiI hi' x1 ⊢
  have HNk := Lib.hid hnk
  clear hnk
  cases lf
  · -- inner
    obtain ⟨q1, q2, q3⟩ := HR.out.kid rfl i HI.out
    simp only at q1 q2 q3
    obtain ⟨bi, oi, hAi, _⟩ := H.out.i.spot (by rw [ints_length]; exact Nat.lt_of_le_of_lt (Nat.zero_le _) q1)
    subst hAi
    have hci : ∀ w', Below w1.heap.size w1 w' → w'.cell? ⟨bi, oi + i, none⟩ = some (.int .i64 (atI is i)) := fun w' hb => (H.out.below hb).i.intAt i q1
    obtain ⟨kid, hkid⟩ := Int.eq_ofNat_of_zero_le q2
    rw [hkid] at q3
    have hw : IntKind.u64.wrap (kid : Int) = (kid : Int) := by simp only [IntKind.wrap, IntKind.bits, IntKind.signed]; simp; omega
    have hiK : (i : Int) < (is.length : Int) := by omega
    obtain ⟨nv, hnv⟩ : ∃ k, is.length = k := ⟨_, rfl⟩
    rw [hnv] at hw1 hiK x3 ⊢
    have HNv := Lib.hid hnv
    clear hnv
    have HKid : Hid ((atI is i).toNat = kid ∧ kid ≤ 2147483647) := ⟨by rw [hkid]; rfl, by omega⟩
    simp only [hkid] at hci
    have HCi := Lib.hid hci
    clear hkid q1 q2 q3 hci
    go_enter Tryd.func31, Tryd.ntmps31
    go_wp2_with (go_at_call 62; (with_reducible refine HP.out.mono ?_); rintro e w2 ⟨v2, rfl, ho2, hb2⟩; refine park ?_; intro q hq)
    refine hq.out ?_
    clear hq HP hc hw1
    rw [List.nil_append] at ho2
    obtain ⟨y0, y1, y2, y3⟩ := HX.out w2 hb2
    have hci := HCi.out w2 hb2
    have hPf := PutFixed_onto w1.heap.size v2 (textB (atL ks i)) kid (by have := HKid.out.2; omega) 4 (by decide) w2 ho2 hb2.size (by have := textB_len (atL ks i) (by have := HR.out.key i HI.out; simp only at this; omega); have := HR.out.key i HI.out; simp only at this; omega)
    rw [show ((4 : Nat) : Int) = 4 from rfl] at hPf
    have HPf := Lib.hid hPf
    have HB2 := Lib.hid hb2
    clear hPf ho2 hb2
    rw [HNv.out] at y3
    rw [HNk.out] at y1
    go_wp2_with (go_at_call 63; (with_reducible refine HPf.out.mono ?_); rintro e w3 ⟨v3, rfl, ho3, hb3⟩; refine park ?_; intro q hq)
    refine hq.out ?_
    clear hq HPf
    have hce : textB (atL ks i) ++ fixB kid 4 = cellB ⟨false, ks, vs, is⟩ i := by
      unfold cellB
      simp only [Bool.false_eq_true, if_false]
      rw [HKid.out.1]
    rw [hce] at ho3
    have HN : Hid (OwnB w3 r v3 (cellB ⟨false, ks, vs, is⟩ i) ∧ Below r w w3) := ⟨ho3.base hrw, HB.out.trans ((HB2.out.trans hb3).mono hrw)⟩
    clear hce ho3 hb3 HB2
    go_wp2_with fail
    go_ret
    obtain ⟨A, c, rfl⟩ := HN.out.1.slice'
    exact ⟨A, c, rfl, by rw [hr0]; exact HN.out.1, by rw [hr0]; exact HN.out.2⟩
  · -- a leaf
    obtain ⟨q1, q2⟩ := HR.out.val rfl i HI.out
    simp only at q1 q2
    obtain ⟨bi, oi, hAi⟩ := H.out.v.spot (Nat.lt_of_le_of_lt (Nat.zero_le _) q1)
    subst hAi
    obtain ⟨Ai, ci, hcv, hsv⟩ := H.out.v.at i q1
    try simp only at hcv hsv
    rw [← atL_eq vs i q1] at hcv hsv
    have hci : ∀ w', Below w1.heap.size w1 w' → w'.cell? ⟨bi, oi + i, none⟩ = some (.slice Ai (atL vs i).length ci) ∧ SlB w' Ai (atL vs i).length ci (atL vs i) := fun w' hb => ⟨(hb.cell (World.block_lt_of_cell? w1 _ hcv)).trans hcv, hsv.below hb⟩
    have hiK : (i : Int) < (vs.length : Int) := by omega
    obtain ⟨nv, hnv⟩ : ∃ k, vs.length = k := ⟨_, rfl⟩
    rw [hnv] at hw1 hiK x2 ⊢
    have HNv := Lib.hid hnv
    have HQ2 := Lib.hid q2
    have HCi := Lib.hid hci
    clear hnv q1 q2 hci hcv hsv
    go_enter Tryd.func31, Tryd.ntmps31
    go_wp2_with (go_at_call 62; (with_reducible refine HP.out.mono ?_); rintro e w2 ⟨v2, rfl, ho2, hb2⟩; refine park ?_; intro q hq)
    refine hq.out ?_
    clear hq HP hc hw1
    rw [List.nil_append] at ho2
    obtain ⟨y0, y1, y2, y3⟩ := HX.out w2 hb2
    obtain ⟨hci, hsv⟩ := HCi.out w2 hb2
    have hrun := run_str (w := w2) (c := ci) hsv.1 hsv.2.1
    have hPt := PutText_calls w1.heap.size v2 (textB (atL ks i)) (atL vs i) w2 ho2 hb2.size (by have := textB_len (atL ks i) (by have := HR.out.key i HI.out; simp only at this; omega); have := HR.out.key i HI.out; simp only at this; omega) (by have := HQ2.out; omega)
    obtain ⟨s2, hs2⟩ : ∃ s, bstr (atL vs i) = s := ⟨_, rfl⟩
    obtain ⟨m2, hm2⟩ : ∃ m, (atL vs i).length = m := ⟨_, rfl⟩
    rw [hm2] at hci
    rw [hm2, hs2] at hrun
    rw [hs2] at hPt
    have HPt := Lib.hid hPt
    have HB2 := Lib.hid hb2
    rw [HNv.out] at y2
    rw [HNk.out] at y1
    clear hPt ho2 hb2 hs2 hm2 hsv
    go_wp2_with (go_at_call 62; (with_reducible refine HPt.out.mono ?_); rintro e w3 ⟨v3, rfl, ho3, hb3⟩; refine park ?_; intro q hq)
    refine hq.out ?_
    clear hq HPt hrun
    have hce : textB (atL ks i) ++ textB (atL vs i) = cellB ⟨true, ks, vs, is⟩ i := by
      unfold cellB
      simp only [if_true]
    rw [hce] at ho3
    have HN : Hid (OwnB w3 r v3 (cellB ⟨true, ks, vs, is⟩ i) ∧ Below r w w3) := ⟨ho3.base hrw, HB.out.trans ((HB2.out.trans hb3).mono hrw)⟩
    clear hce ho3 hb3 HB2
    go_wp2_with fail
    go_ret
    obtain ⟨A, c, rfl⟩ := HN.out.1.slice'
    exact ⟨A, c, rfl, by rw [hr0]; exact HN.out.1, by rw [hr0]; exact HN.out.2⟩
end Go.Proofs.YtibmlgkakeakcaaDoor
/- The walk of node.sizes. -/
set_option linter.unusedSimpArgs false
set_option linter.unusedVariables false
namespace Go.Proofs.YtibmlgkakeakcaaDoor
open Go.RowKit Go.Proofs.YtibmlgkakeakcaaDoor.Crc
def sizesN (n : NodeM) (t : Nat) : List Int := (List.range (t + 1)).map fun j => (sizeN n j : Int)
theorem sizesN_length (n : NodeM) (t : Nat) : (sizesN n t).length = t + 1 := by unfold sizesN; simp
theorem sizesN_at (n : NodeM) (t i : Nat) (h : i ≤ t) : atI (sizesN n t) i = (sizeN n i : Int) := by
  rw [atI_eq _ _ (by rw [sizesN_length]; omega)]
  unfold sizesN
  simp
theorem sizesN_succ (n : NodeM) (t : Nat) : sizesN n (t + 1) = sizesN n t ++ [(sizeN n (t + 1) : Int)] := by
  unfold sizesN
  rw [List.range_succ (n := t + 1), List.map_append]; rfl
theorem ints_append (a b : List Int) : ints (a ++ b) = ints a ++ ints b := by unfold ints; simp
theorem sizeN_le {n : NodeM} (h : RightM n) (t : Nat) (ht : t ≤ n.keys.length) : sizeN n t ≤ 112 * t := by
  induction t with
  | zero => exact Nat.le_refl _
  | succ t ih =>
    rw [sizeN_succ n t (by omega)]
    have := cellB_len h t (by omega)
    have := ih (by omega)
    omega
/-- What stands while the sizes are made. -/
def SizI (w1 : World) (base : Nat) (n : NodeM) (t g c : Nat) (wr : World) : Prop :=
  OwnVs wr base 3 (.slice (some ⟨g, 0, none⟩) (t + 1) c) (ints (sizesN n t)) ∧ Below w1.heap.size w1 wr ∧ w1.heap.size ≤ base
set_option maxRecDepth 10000 in
set_option maxHeartbeats 1000000 in
theorem sizes_calls {w : World} {n : NodeM} {kA : Option Addr} {kc : Nat} {vA : Option Addr} {vc : Nat} {iA : Option Addr} {ic : Nat} (h : NodeAt w n kA kc vA vc iA ic) (hr : RightM n) (hn : n.keys.length ≤ 1000) :
    Calls Tryd.prog 40 #[.agg #[.bool n.leaf, .slice kA n.keys.length kc, .slice vA n.vals.length vc, .slice iA n.kids.length ic]] w fun e w' => ∃ g c, e = .returned (.slice (some ⟨g, 0, none⟩) (n.keys.length + 1) c) ∧ OwnVs w' w.heap.size 3 (.slice (some ⟨g, 0, none⟩) (n.keys.length + 1) c) (ints (sizesN n n.keys.length)) ∧ Below w.heap.size w w' := by
  obtain ⟨hb1, hr1⟩ := node_box w (.bool n.leaf) (.slice kA n.keys.length kc) (.slice vA n.vals.length vc) (.slice iA n.kids.length ic) 28
  obtain ⟨w1, hw1⟩ : ∃ w1, w.alloc (.cells #[.bool n.leaf, .slice kA n.keys.length kc, .slice vA n.vals.length vc, .slice iA n.kids.length ic] 28) = w1 := ⟨_, rfl⟩
  obtain ⟨r, hr0⟩ : ∃ r, w.heap.size = r := ⟨_, rfl⟩
  rw [hw1] at hb1 hr1
  rw [hr0] at hr1
  have hx := box_cells hr1
  have H := Lib.hid (h.below hb1)
  rw [hr0] at hb1
  have HB := Lib.hid hb1
  have HX := Lib.hid hx
  have HR := Lib.hid hr
  have hrw : r ≤ w1.heap.size := by have := hb1.size; omega
  have HCe : Hid (∀ w' i, Below w1.heap.size w1 w' → i < n.keys.length → Calls Tryd.prog 31 #[.agg #[.bool n.leaf, .slice kA n.keys.length kc, .slice vA n.vals.length vc, .slice iA n.kids.length ic], .int .i64 (i : Int)] w' fun e w'' => ∃ A c, e = .returned (.slice A (cellB n i).length c) ∧ Hid (Below w'.heap.size w' w'')) := fun w' i hb hi =>
    (ncell_calls (H.out.below hb) hr i hi).mono fun e w'' ⟨A, c, h1, _, h2⟩ => ⟨A, c, h1, h2⟩
  have HNk := Lib.hid hn
  clear hb1 hr1 hx h hr hn
  obtain ⟨nk, hnk⟩ : ∃ k, n.keys.length = k := ⟨_, rfl⟩
  have HK := Lib.hid hnk
  obtain ⟨x0, x1, x2, x3⟩ := HX.out w1 (Below.refl _ _)
  rw [hnk] at hw1 x1 HCe HNk ⊢
  simp only [hnk] at HX
  clear hnk
  have hkm : nk ≤ 9223372036854775807 := Nat.le_trans HNk.out (by decide)
  have hl0 := OwnVs.lit (t := 3) w1 w1.heap.size (Nat.le_refl _) (ints (sizesN n 0)) (by rw [ints_length, sizesN_length]; decide)
  have hI : SizI w1 w1.heap.size n 0 w1.heap.size 1 (w1.alloc (.cells #[.int .i64 0] 3)) := ⟨hl0, (Below.refl _ _).alloc (Nat.le_refl _) _, Nat.le_refl _⟩
  obtain ⟨w2, hw2⟩ : ∃ w2, w1.alloc (.cells #[.int .i64 0] 3) = w2 := ⟨_, rfl⟩
  obtain ⟨g0, hg0⟩ : ∃ g, w1.heap.size = g := ⟨_, rfl⟩
  rw [hw2] at hI
  obtain ⟨y0, y1, y2, y3⟩ := HX.out w2 hI.2.1
  have HI : Hid (SizI w1 w1.heap.size n 0 g0 1 w2) := by rw [hg0] at hI ⊢; exact hI
  clear hl0 x0 x1 x2 x3 hI
  go_enter Tryd.func40, Tryd.ntmps40
  go_wp2_with fail
  clear hw1 hw2 y0 y1 y2 y3
  go_loopw [3, 9] (fun v i wr => ∃ (t g c : Nat), t ≤ nk ∧ v = .slice (some ⟨g, 0, none⟩) (t + 1) c ∧ i = .int .i64 (t : Int) ∧ Hid (SizI w1 w1.heap.size n t g c wr)) (fun _ i _ => nk - (intOf i).toNat)
  case atStart => exact ⟨0, g0, 1, Nat.zero_le _, rfl, rfl, HI⟩
  case round =>
    obtain ⟨t, g, c, ht, rfl, rfl, HV⟩ := hrel
    clear HI
    by_cases hlt : t < nk
    · have hz : ∀ w', Below wr.heap.size wr w' → w'.cell? ⟨g, t, none⟩ = some (.int .i64 (sizeN n t : Int)) := fun w' hb => by
        obtain ⟨g', hg', _, hc⟩ := (HV.out.1.below hb).fr t (by rw [ints_length, sizesN_length]; exact Nat.lt_succ_self _)
        cases hg'
        rw [hc, ints_get, sizesN_at n t t (Nat.le_refl _)]; rfl
      have HZ := Lib.hid hz
      obtain ⟨m, hm⟩ : ∃ m, (cellB n t).length = m := ⟨_, rfl⟩
      have hm110 := cellB_len HR.out t (by rw [HK.out]; exact hlt)
      rw [hm] at hm110
      have hsz := sizeN_le HR.out t (by rw [HK.out]; exact ht)
      have hsu := sizeN_succ n t (by rw [HK.out]; exact hlt)
      rw [hm] at hsu
      have hss := sizesN_succ n t
      obtain ⟨S, hS⟩ : ∃ S, sizeN n t = S := ⟨_, rfl⟩
      rw [hS] at hsz hsu
      rw [hsu] at hss
      have HSs := Lib.hid hss
      simp only [hS] at HZ
      have hnk := HNk.out
      have ktt : (t : Int) < (t : Int) + 1 := by omega
      have k1 : IntKind.i64.wrap ((S : Int) + 2) = (S : Int) + 2 := IntWalk.i64_in _ (by omega)
      have k2 : IntKind.i64.wrap ((S : Int) + 2 + (m : Int)) = (S : Int) + 2 + (m : Int) := IntWalk.i64_in _ (by omega)
      have HCt := Lib.hid (fun (w' : World) (hb : Below w1.heap.size w1 w') => HCe.out w' t hb hlt)
      simp only [hm] at HCt
      have hbd : Hid (Below wr.heap.size wr wr.drew) := (Below.refl _ _).drew
      have HF : Hid (∀ w', Hid (Below wr.heap.size wr w') → w'.cell? ⟨g, t, none⟩ = some (.int .i64 (S : Int)) ∧ w'.cell? ⟨r, 0, none⟩ = some (.bool n.leaf) ∧ w'.cell? ⟨r, 1, none⟩ = some (.slice kA nk kc) ∧ w'.cell? ⟨r, 2, none⟩ = some (.slice vA n.vals.length vc) ∧ w'.cell? ⟨r, 3, none⟩ = some (.slice iA n.kids.length ic)) := fun w' hb =>
        ⟨HZ.out w' hb.out, HX.out w' (HV.out.2.1.trans (hb.out.mono HV.out.2.1.size))⟩
      obtain ⟨z0, y0, y1, y2, y3⟩ := HF.out _ hbd
      have HCd := Lib.hid (HCt.out wr.drew (HV.out.2.1.trans (hbd.out.mono HV.out.2.1.size)))
      clear hz hm hm110 hsz hsu hss hS hnk HZ
      go_wp2_with fail
      go_region_law (first | (go_simp; go_at_call 31; (with_reducible refine HCd.out.mono ?_); rintro e w5 ⟨A5, c5, rfl, h5⟩; have hb5 : Hid (Below wr.heap.size wr w5) := hbd.out.trans (h5.out.mono hbd.out.size); obtain ⟨z5, _⟩ := HF.out _ hb5) | (refine step_append_val1 elInt (by rfl) _ _ (by rfl) w1.heap.size _ (ints (sizesN n t)) (by rfl) ((HV.out.1.below hb5.out).below ((Below.refl _ _).alloc (Nat.le_refl _) _)) ⟨w5.heap.size, 0, none⟩ 1 (.int .i64 ((S : Int) + 2 + (m : Int))) (by rfl) (by rw [Addr.add_lit, cell_of_row _ _ _ _ _ _ (heap_alloc_new w5 _)]; rfl) rfl (by rw [ints_length, sizesN_length]; have := HNk.out; omega) (by have := HV.out.2.1.size; have := hb5.out.size; simp; omega) ?_; intro v9 w9 H9))
      all_goals
        have HN : Hid (∃ g' c', v9 = .slice (some ⟨g', 0, none⟩) (t + 1 + 1) c' ∧ SizI w1 w1.heap.size n (t + 1) g' c' w9) := by
          have h1 := H9.out.1
          have e : ints (sizesN n t) ++ [.int .i64 ((S : Int) + 2 + (m : Int))] = ints (sizesN n (t + 1)) := by
            rw [HSs.out, ints_append]
            simp [ints, intV]
          rw [e] at h1
          have hl : (ints (sizesN n (t + 1))).length = t + 1 + 1 := by rw [ints_length, sizesN_length]
          have hB5 := (HV.out.2.1.trans (hb5.out.mono HV.out.2.1.size)).alloc (Nat.le_trans HV.out.2.1.size hb5.out.size) (.cells #[.int .i64 ((S : Int) + 2 + (m : Int))] 3)
          have hB : Below w1.heap.size w1 w9 := hB5.grown H9.out.2 hB5.size (fun k hk => ((HV.out.1.lt k hk).1))
          rcases h1.form with ⟨_, h3⟩ | ⟨g', c', h3, _⟩
          · rw [h3] at hl; cases hl
          · rw [hl] at h3
            exact ⟨g', c', h3, by rw [← h3]; exact h1, hB, Nat.le_refl _⟩
        obtain ⟨g', c', rfl, hN9⟩ := HN.out
        clear HN
        have HN := Lib.hid hN9
        clear hN9
        clear H9 HF HCt HCd hb5 h5 z5 HV HSs z0 y0 y1 y2 y3 hbd k1 k2
        go_wp2_with fail
        go_roundw
        case rel => exact ⟨t + 1, g', c', Nat.succ_le_of_lt hlt, rfl, congrArg (Value.int .i64) (Int.natCast_succ t).symm, HN.out⟩
        case measure =>
          clear HN
          simp [intOf]; omega
    · obtain rfl : nk = t := by omega
      go_wp2_with fail
      go_ret
      refine ⟨g, c, rfl, ?_, ?_⟩
      · rw [hr0]; exact HV.out.1.base' hrw
      · rw [hr0]; exact HB.out.trans (HV.out.2.1.mono hrw)
end Go.Proofs.YtibmlgkakeakcaaDoor
/- The walks of node.Taken, Fits, Bytes. -/
set_option linter.unusedSimpArgs false
set_option linter.unusedVariables false
namespace Go.Proofs.YtibmlgkakeakcaaDoor
open Go.RowKit Go.Proofs.YtibmlgkakeakcaaDoor.Crc
noncomputable def takenB (n : NodeM) : Nat := if rightB n then takenN n else 0
set_option maxRecDepth 10000 in
set_option maxHeartbeats 1000000 in
theorem Taken_calls {w : World} {n : NodeM} {kA : Option Addr} {kc : Nat} {vA : Option Addr} {vc : Nat} {iA : Option Addr} {ic : Nat} (h : NodeAt w n kA kc vA vc iA ic) (hn : n.keys.length ≤ 1000) :
    Calls Tryd.prog 16 #[.agg #[.bool n.leaf, .slice kA n.keys.length kc, .slice vA n.vals.length vc, .slice iA n.kids.length ic]] w fun e w' => e = .returned (.int .i64 (takenB n : Int)) ∧ Below w.heap.size w w' := by
  obtain ⟨hb1, hr1⟩ := node_box w (.bool n.leaf) (.slice kA n.keys.length kc) (.slice vA n.vals.length vc) (.slice iA n.kids.length ic) 28
  obtain ⟨w1, hw1⟩ : ∃ w1, w.alloc (.cells #[.bool n.leaf, .slice kA n.keys.length kc, .slice vA n.vals.length vc, .slice iA n.kids.length ic] 28) = w1 := ⟨_, rfl⟩
  obtain ⟨r, hr0⟩ : ∃ r, w.heap.size = r := ⟨_, rfl⟩
  rw [hw1] at hb1 hr1
  rw [hr0] at hr1
  have hx := box_cells hr1
  have H := Lib.hid (h.below hb1)
  rw [hr0] at hb1
  have HB := Lib.hid hb1
  have HX := Lib.hid hx
  have hrw : r ≤ w1.heap.size := by have := hb1.size; omega
  have HRt := Lib.hid (Right_calls H.out)
  have HSz : Hid (RightM n → ∀ w', Below w1.heap.size w1 w' → Calls Tryd.prog 40 #[.agg #[.bool n.leaf, .slice kA n.keys.length kc, .slice vA n.vals.length vc, .slice iA n.kids.length ic]] w' fun e w'' => ∃ g c, e = .returned (.slice (some ⟨g, 0, none⟩) (n.keys.length + 1) c) ∧ w''.cell? ⟨g, n.keys.length, none⟩ = some (.int .i64 (takenN n : Int)) ∧ Hid (Below w1.heap.size w1 w'')) := fun hr w' hb => by
    refine (sizes_calls (H.out.below hb) hr hn).mono ?_
    rintro e w'' ⟨g, c, h1, h2, h3⟩
    refine ⟨g, c, h1, ?_, hb.trans (h3.mono hb.size)⟩
    obtain ⟨g', hg', _, hc⟩ := h2.fr n.keys.length (by rw [ints_length, sizesN_length]; exact Nat.lt_succ_self _)
    cases hg'
    rw [hc, ints_get, sizesN_at n _ _ (Nat.le_refl _)]; rfl
  have hkm : n.keys.length ≤ 9223372036854775807 := Nat.le_trans hn (by decide)
  clear hb1 hr1 hx h hn
  obtain ⟨nk, hnk⟩ : ∃ k, n.keys.length = k := ⟨_, rfl⟩
  obtain ⟨x0, x1, x2, x3⟩ := HX.out w1 (Below.refl _ _)
  rw [hnk] at hw1 x1 hkm HRt HSz ⊢
  simp only [hnk] at HX
  clear hnk
  by_cases hR : RightM n
  · have hT : takenB n = takenN n := by unfold takenB; rw [rightB_true hR]; rfl
    have HS := Lib.hid (HSz.out hR)
    rw [hT]
    rw [rightB_true hR] at HRt
    clear hT hR HSz
    go_enter Tryd.func16, Tryd.ntmps16
    go_wp2_with (go_at_call 14; (with_reducible refine HRt.out.mono ?_); rintro e w2 ⟨rfl, hb2⟩; refine park ?_; intro q hq)
    refine hq.out ?_
    clear hq HRt hw1 x0 x1 x2 x3
    have hbd : Hid (Below w1.heap.size w1 w2.drew) := hb2.drew
    obtain ⟨x0, x1, x2, x3⟩ := HX.out _ hbd.out
    have HSd := Lib.hid (HS.out _ hbd.out)
    have ktt : (nk : Int) < (nk : Int) + 1 := by omega
    go_wp2_with fail
    go_region_law (first | (go_simp; go_at_call 40; (with_reducible refine HSd.out.mono ?_); rintro e w5 ⟨g5, c5, rfl, z5, hb5⟩; obtain ⟨y0, y1, y2, y3⟩ := HX.out _ hb5.out))
    all_goals
      go_wp2_with fail
      go_ret
      exact ⟨rfl, by rw [hr0]; exact HB.out.trans (hb5.out.mono hrw)⟩
  · have hT : takenB n = 0 := by unfold takenB; rw [rightB_false hR]; rfl
    rw [hT]
    rw [rightB_false hR] at HRt
    clear hT hR HSz
    go_enter Tryd.func16, Tryd.ntmps16
    go_wp2_with (go_at_call 14; (with_reducible refine HRt.out.mono ?_); rintro e w2 ⟨rfl, hb2⟩; have hb2 := Lib.hid hb2)
    go_ret
    exact ⟨rfl, by rw [hr0]; exact HB.out.trans (hb2.out.mono hrw)⟩
noncomputable def fitsB (n : NodeM) : Bool := rightB n && decide (takenB n ≤ 244)
set_option maxRecDepth 10000 in
set_option maxHeartbeats 1000000 in
theorem Fits_calls {w : World} {n : NodeM} {kA : Option Addr} {kc : Nat} {vA : Option Addr} {vc : Nat} {iA : Option Addr} {ic : Nat} (h : NodeAt w n kA kc vA vc iA ic) (hn : n.keys.length ≤ 1000) :
    Calls Tryd.prog 18 #[.agg #[.bool n.leaf, .slice kA n.keys.length kc, .slice vA n.vals.length vc, .slice iA n.kids.length ic]] w fun e w' => e = .returned (.bool (fitsB n)) ∧ Below w.heap.size w w' := by
  obtain ⟨hb1, hr1⟩ := node_box w (.bool n.leaf) (.slice kA n.keys.length kc) (.slice vA n.vals.length vc) (.slice iA n.kids.length ic) 28
  obtain ⟨w1, hw1⟩ : ∃ w1, w.alloc (.cells #[.bool n.leaf, .slice kA n.keys.length kc, .slice vA n.vals.length vc, .slice iA n.kids.length ic] 28) = w1 := ⟨_, rfl⟩
  obtain ⟨r, hr0⟩ : ∃ r, w.heap.size = r := ⟨_, rfl⟩
  rw [hw1] at hb1 hr1
  rw [hr0] at hr1
  have hx := box_cells hr1
  have H := Lib.hid (h.below hb1)
  rw [hr0] at hb1
  have HB := Lib.hid hb1
  have HX := Lib.hid hx
  have hrw : r ≤ w1.heap.size := by have := hb1.size; omega
  have HRt := Lib.hid (Right_calls H.out)
  have HTk : Hid (∀ w', Below w1.heap.size w1 w' → Calls Tryd.prog 16 #[.agg #[.bool n.leaf, .slice kA n.keys.length kc, .slice vA n.vals.length vc, .slice iA n.kids.length ic]] w' fun e w'' => e = .returned (.int .i64 (takenB n : Int)) ∧ Below w'.heap.size w' w'') := fun w' hb => Taken_calls (H.out.below hb) hn
  clear hb1 hr1 hx h hn
  obtain ⟨x0, x1, x2, x3⟩ := HX.out w1 (Below.refl _ _)
  cases hR : rightB n
  · have HE : Hid (fitsB n = false) := by show fitsB n = false; unfold fitsB; rw [hR]; rfl
    rw [hR] at HRt
    clear hR HTk
    go_enter Tryd.func18, Tryd.ntmps18
    go_wp2_with (go_at_call 14; (with_reducible refine HRt.out.mono ?_); rintro e w2 ⟨rfl, hb2⟩; have hb2 := Lib.hid hb2)
    go_ret
    exact ⟨by rw [HE.out]; rfl, by rw [hr0]; exact HB.out.trans (hb2.out.mono hrw)⟩
  · have HE : Hid (fitsB n = decide (takenB n ≤ 244)) := by show fitsB n = _; unfold fitsB; rw [hR]; rfl
    rw [hR] at HRt
    clear hR
    go_enter Tryd.func18, Tryd.ntmps18
    go_wp2_with (go_at_call 14; (with_reducible refine HRt.out.mono ?_); rintro e w2 ⟨rfl, hb2⟩; refine park ?_; intro q hq)
    refine hq.out ?_
    clear hq HRt hw1 x0 x1 x2 x3
    have HB2 := Lib.hid hb2
    obtain ⟨x0, x1, x2, x3⟩ := HX.out _ hb2
    have HTd := Lib.hid (HTk.out _ hb2)
    obtain ⟨T, hT⟩ : ∃ T, takenB n = T := ⟨_, rfl⟩
    rw [hT] at HTd HE
    obtain ⟨bT, hbT⟩ : ∃ bT, decide (T ≤ 244) = bT := ⟨_, rfl⟩
    rw [hbT] at HE
    have dT : decide ((T : Int) ≤ 244) = bT := by rw [← hbT]; simp; omega
    clear hT hb2 HTk hbT
    go_wp2_with (go_at_call 16; (with_reducible refine HTd.out.mono ?_); rintro e w3 ⟨rfl, hb3⟩; have hb3 := Lib.hid hb3)
    go_ret
    exact ⟨by rw [HE.out]; rfl, by rw [hr0]; exact HB.out.trans ((HB2.out.trans (hb3.out.mono HB2.out.size)).mono hrw)⟩
noncomputable def bytesN (no : Int) (n : NodeM) : List UInt8 × Int := if rightB n then (if fitsB n then fillP no (if n.leaf then 5 else 6) (cellsB n) else ([], 32)) else ([], 22)
set_option maxRecDepth 10000 in
set_option maxHeartbeats 2000000 in
theorem Bytes_calls {w : World} {n : NodeM} {kA : Option Addr} {kc : Nat} {vA : Option Addr} {vc : Nat} {iA : Option Addr} {ic : Nat} (no : Int) (h : NodeAt w n kA kc vA vc iA ic) (hn : n.keys.length ≤ 1000) :
    Calls Tryd.prog 10 #[.int .i64 no, .agg #[.bool n.leaf, .slice kA n.keys.length kc, .slice vA n.vals.length vc, .slice iA n.kids.length ic]] w (RetBN w (bytesN no n).1 (bytesN no n).2) := by
  obtain ⟨hb1, hr1⟩ := node_box w (.bool n.leaf) (.slice kA n.keys.length kc) (.slice vA n.vals.length vc) (.slice iA n.kids.length ic) 28
  obtain ⟨w1, hw1⟩ : ∃ w1, w.alloc (.cells #[.bool n.leaf, .slice kA n.keys.length kc, .slice vA n.vals.length vc, .slice iA n.kids.length ic] 28) = w1 := ⟨_, rfl⟩
  obtain ⟨r, hr0⟩ : ∃ r, w.heap.size = r := ⟨_, rfl⟩
  rw [hw1] at hb1 hr1
  rw [hr0] at hr1
  have hx := box_cells hr1
  have H := Lib.hid (h.below hb1)
  rw [hr0] at hb1
  have HB := Lib.hid hb1
  have HX := Lib.hid hx
  have hrw : r ≤ w1.heap.size := by have := hb1.size; omega
  have HRw : Hid (w.heap.size ≤ w1.heap.size) := by rw [hr0]; exact hrw
  have HB0 : Hid (Below w.heap.size w w1) := by rw [hr0]; exact hb1
  have HRt := Lib.hid (Right_calls H.out)
  have HFt : Hid (∀ w', Below w1.heap.size w1 w' → Calls Tryd.prog 18 #[.agg #[.bool n.leaf, .slice kA n.keys.length kc, .slice vA n.vals.length vc, .slice iA n.kids.length ic]] w' fun e w'' => e = .returned (.bool (fitsB n)) ∧ Below w'.heap.size w' w'') := fun w' hb => Fits_calls (H.out.below hb) hn
  have HCe : Hid (RightM n → ∀ w' i, Below w1.heap.size w1 w' → i < n.keys.length → Calls Tryd.prog 31 #[.agg #[.bool n.leaf, .slice kA n.keys.length kc, .slice vA n.vals.length vc, .slice iA n.kids.length ic], .int .i64 (i : Int)] w' fun e w'' => ∃ A c, e = .returned (.slice A (cellB n i).length c) ∧ Hid (OwnB w'' w'.heap.size (.slice A (cellB n i).length c) (cellB n i) ∧ Below w'.heap.size w' w'')) := fun hr w' i hb hi =>
    (ncell_calls (H.out.below hb) hr i hi).mono fun e w'' ⟨A, c, h1, h3, h2⟩ => ⟨A, c, h1, h3, h2⟩
  have hkm : n.keys.length ≤ 9223372036854775807 := Nat.le_trans hn (by decide)
  have HNk := Lib.hid hn
  clear hb1 hr1 hx h hn
  obtain ⟨nk, hnk⟩ : ∃ k, n.keys.length = k := ⟨_, rfl⟩
  have HK := Lib.hid hnk
  obtain ⟨x0, x1, x2, x3⟩ := HX.out w1 (Below.refl _ _)
  rw [hnk] at hw1 x1 hkm HRt HFt HCe HNk ⊢
  simp only [hnk] at HX
  clear hnk
  cases hR : rightB n
  · have HE : Hid (bytesN no n = ([], 22)) := by show bytesN no n = _; unfold bytesN; rw [hR]; rfl
    rw [hR] at HRt
    clear hR HCe HFt
    go_enter Tryd.func10, Tryd.ntmps10
    go_wp2_with (go_at_call 14; (with_reducible refine HRt.out.mono ?_); rintro e w2 ⟨rfl, hb2⟩; have hb2 := Lib.hid hb2)
    go_ret2
    rw [HE.out]
    exact RetBN.mk (World.ownsRow_nil _ _ _ _) (HB0.out.trans (hb2.out.mono HRw.out))
  · have HRM := Lib.hid (rightB_iff.1 hR)
    rw [hR] at HRt
    have HCf := Lib.hid (HCe.out HRM.out)
    clear HCe
    cases hF : fitsB n
    · have HE : Hid (bytesN no n = ([], 32)) := by show bytesN no n = _; unfold bytesN; rw [hR, hF]; rfl
      rw [hF] at HFt
      clear hR hF
      go_enter Tryd.func10, Tryd.ntmps10
      go_wp2_with (go_at_call 14; (with_reducible refine HRt.out.mono ?_); rintro e w2 ⟨rfl, hb2⟩; refine park ?_; intro q hq)
      refine hq.out ?_
      clear hq HRt hw1 x0 x1 x2 x3
      have HB2 := Lib.hid hb2
      obtain ⟨x0, x1, x2, x3⟩ := HX.out _ hb2
      have HFd := Lib.hid (HFt.out _ hb2)
      clear hb2 HFt
      go_wp2_with (go_at_call 18; (with_reducible refine HFd.out.mono ?_); rintro e w3 ⟨rfl, hb3⟩; have hb3 := Lib.hid hb3)
      go_ret2
      rw [HE.out]
      exact RetBN.mk (World.ownsRow_nil _ _ _ _) (HB0.out.trans ((HB2.out.trans (hb3.out.mono HB2.out.size)).mono HRw.out))
    · have HE : Hid (bytesN no n = fillP no (if n.leaf then 5 else 6) (cellsB n)) := by show bytesN no n = _; unfold bytesN; rw [hR, hF]; rfl
      rw [hF] at HFt
      clear hR hF
      go_enter Tryd.func10, Tryd.ntmps10
      go_wp2_with (go_at_call 14; (with_reducible refine HRt.out.mono ?_); rintro e w2 ⟨rfl, hb2⟩; refine park ?_; intro q hq)
      refine hq.out ?_
      clear hq HRt hw1 x0 x1 x2 x3
      have HB2 := Lib.hid hb2
      obtain ⟨x0, x1, x2, x3⟩ := HX.out _ hb2
      have HFd := Lib.hid (HFt.out _ hb2)
      clear hb2 HFt
      go_wp2_with (go_at_call 18; (with_reducible refine HFd.out.mono ?_); rintro e w3 ⟨rfl, hb3⟩; refine park ?_; intro q hq)
      refine hq.out ?_
      clear hq HFd x0 x1 x2 x3
      have HB3 := Lib.hid (HB2.out.trans (hb3.mono HB2.out.size))
      obtain ⟨x0, x1, x2, x3⟩ := HX.out _ HB3.out
      clear hb3 HB2
      go_wp2_with fail
      go_loopw [6, 20] (fun v i wr => ∃ (t : Nat), t ≤ nk ∧ i = .int .i64 (t : Int) ∧ Hid (OwnRL wr w1.heap.size v ((cellsB n).take t) ∧ Below w1.heap.size w1 wr)) (fun _ i _ => nk - (intOf i).toNat)
      case atStart => exact ⟨0, Nat.zero_le _, rfl, OwnRL.nil _ _, HB3.out⟩
      case round =>
        obtain ⟨t, ht, rfl, HV⟩ := hrel
        clear x0 x1 x2 x3
        by_cases hlt : t < nk
        · obtain ⟨x0, x1, x2, x3⟩ := HX.out _ HV.out.2
          have HCd := Lib.hid (HCf.out _ t HV.out.2 hlt)
          obtain ⟨m, hm⟩ : ∃ m, (cellB n t).length = m := ⟨_, rfl⟩
          rw [hm] at HCd
          have HM := Lib.hid hm
          clear hm
          go_wp2_with (first | (go_at_call 31; (with_reducible refine HCd.out.mono ?_); rintro e w5 ⟨A5, c5, rfl, h5⟩) | (with_reducible refine park_append ?_; intro q hq))
          refine hq.out ?_
          clear hq HCd
          have hB5 : Below w1.heap.size w1 w5 := HV.out.2.trans (h5.out.2.mono HV.out.2.size)
          have hba : Below w5.heap.size w5 (w5.alloc (.cells #[.slice A5 m c5] 30)) := (Below.refl _ _).alloc (Nat.le_refl _) _
          refine wpList_append_row rfl _ _ rfl w1.heap.size u6 ((cellsB n).take t) rfl ((HV.out.1.below h5.out.2).below hba) ⟨w5.heap.size, 0, none⟩ 1 A5 m c5 (cellB n t) rfl (by rw [Addr.add_lit, cell_of_row _ _ _ _ _ _ (heap_alloc_new w5 _)]; rfl) ((h5.out.1.base HV.out.2.size).below hba) (by rw [List.length_take, cellsB_length, HK.out]; have := HNk.out; omega) (by have := hB5.size; simp; omega) ?_
          intro v9 w9 H9
          have hlt9 : ∀ k, u6.ownBlock = some k → w1.heap.size ≤ k := fun k hk => by
            obtain ⟨vs, hv1, _⟩ := HV.out.1
            exact (World.ownsRow.lt hv1 k hk).1
          have HN : Hid (OwnRL w9 w1.heap.size v9 ((cellsB n).take (t + 1)) ∧ Below w1.heap.size w1 w9) :=
            ⟨by rw [cellsB_take n t (by rw [HK.out]; exact hlt)]; exact H9.out.1, (hB5.alloc hB5.size _).grown H9.out.2 (by have := hB5.size; simp; omega) hlt9⟩
          clear H9 hlt9 hba hB5 h5 HV x0 x1 x2 x3
          go_wp2_with fail
          go_roundw
          case rel => exact ⟨t + 1, Nat.succ_le_of_lt hlt, congrArg (Value.int .i64) (Int.natCast_succ t).symm, HN⟩
          case measure =>
            clear HN
            simp [intOf]; omega
        · obtain rfl : nk = t := by omega
          have hV := HV.out.1
          rw [List.take_of_length_le (by rw [cellsB_length, HK.out]; exact Nat.le_refl _)] at hV
          obtain ⟨A6, c6, hv6, hrows, _, _, _⟩ := hV.slice
          rw [cellsB_length, HK.out] at hv6
          subst hv6
          obtain ⟨x0, x1, x2, x3⟩ := HX.out _ HV.out.2
          have HFl : Hid (∀ k : UInt8, Calls Tryd.prog 32 #[.int .i64 no, .int .u8 (k.toNat : Int), .slice A6 nk c6] wr (RetBN wr (fillP no k (cellsB n)).1 (fillP no k (cellsB n)).2)) := fun k => Fill_calls no k A6 nk c6 (cellsB n) wr (by rw [cellsB_length, HK.out]) hrows hkm
          have HVb := Lib.hid HV.out.2
          clear hV hrows HV hlt
          cases hlf : n.leaf
          · rw [hlf] at x0
            have hE := HE.out
            rw [hlf] at hE
            simp only [Bool.false_eq_true, if_false] at hE
            have HE' := Lib.hid hE
            clear hE
            have HF6 := Lib.hid (HFl.out 6)
            rw [show (((6 : UInt8).toNat : Nat) : Int) = 6 from rfl] at HF6
            clear hlf
            go_wp2_with (go_at_call 32; (with_reducible refine HF6.out.mono ?_); rintro e w7 ⟨A7, c7, rfl, h7, hb7⟩; have h7 := Lib.hid (And.intro h7 hb7); clear hb7)
            go_ret2
            rw [HE'.out]
            exact RetBN.mk (h7.out.1.base (Nat.le_trans HRw.out HVb.out.size)) (HB0.out.trans ((HVb.out.trans (h7.out.2.mono HVb.out.size)).mono HRw.out))
          · rw [hlf] at x0
            have hE := HE.out
            rw [hlf] at hE
            simp only [if_true] at hE
            have HE' := Lib.hid hE
            clear hE
            have HF5 := Lib.hid (HFl.out 5)
            rw [show (((5 : UInt8).toNat : Nat) : Int) = 5 from rfl] at HF5
            clear hlf
            go_wp2_with (go_at_call 32; (with_reducible refine HF5.out.mono ?_); rintro e w7 ⟨A7, c7, rfl, h7, hb7⟩; have h7 := Lib.hid (And.intro h7 hb7); clear hb7)
            go_ret2
            rw [HE'.out]
            exact RetBN.mk (h7.out.1.base (Nat.le_trans HRw.out HVb.out.size)) (HB0.out.trans ((HVb.out.trans (h7.out.2.mono HVb.out.size)).mono HRw.out))
end Go.Proofs.YtibmlgkakeakcaaDoor
/- The walk of node.Find. -/
set_option linter.unusedSimpArgs false
set_option linter.unusedVariables false
namespace Go.Proofs.YtibmlgkakeakcaaDoor
open Go.RowKit Go.Proofs.YtibmlgkakeakcaaDoor.Crc
theorem riseK.lt {ks : List (List UInt8)} {n : Nat} (h : riseK ks n) (i j : Nat) (hij : i < j) (hj : j < n) : ltB (atL ks i) (atL ks j) = true := by
  induction j with
  | zero => exact absurd hij (Nat.not_lt_zero _)
  | succ j ih =>
    have h1 := (h (j + 1) hj).2 (Nat.succ_pos _)
    rw [Nat.add_sub_cancel] at h1
    by_cases he : i = j
    · rw [he]; exact h1
    · exact ltB_trans _ _ _ (ih (by omega) (by omega)) h1
theorem rise_low {ks : List (List UInt8)} {n : Nat} {key : List UInt8} (h : riseK ks n) (m : Nat) (hm : m < n) (hl : ltB (atL ks m) key = true) (k : Nat) (hk : k ≤ m) : ltB (atL ks k) key = true := by
  by_cases he : k = m
  · rw [he]; exact hl
  · exact ltB_trans _ _ _ (h.lt k m (by omega) hm) hl
theorem rise_high {ks : List (List UInt8)} {n : Nat} {key : List UInt8} (h : riseK ks n) (m : Nat) (hl : ltB (atL ks m) key = false) (k : Nat) (hk : m ≤ k) (hn : k < n) : ltB (atL ks k) key = false := by
  by_cases he : k = m
  · rw [he]; exact hl
  · cases hc : ltB (atL ks k) key
    · rfl
    · have := ltB_trans _ _ _ (h.lt m k (by omega) hn) hc
      rw [hl] at this; cases this
set_option maxRecDepth 10000 in
set_option maxHeartbeats 400000 in
theorem SearchS1_calls (A : Option Addr) (n c : Nat) (ks : List (List UInt8)) (key : List UInt8) (y : ByteArray) (hy : y = bstr key) (a b : Nat) (m : Nat) (w : World) (hn : n = ks.length) (hk : ValsAt w A (strs ks)) (hm : m < n)
    (ha : w.cell? ⟨a, 0, none⟩ = some (.slice A n c)) (hb : w.cell? ⟨b, 0, none⟩ = some (.string y)) :
    Calls Tryd.prog 70 #[.int .i64 (m : Int), .pointer (some ⟨a, 0, none⟩), .pointer (some ⟨b, 0, none⟩)] w fun e w' => e = .returned (.bool (!ltB (atL ks m) key)) ∧ Hid (Below w.heap.size w w') := by
  have hmk : m < ks.length := by rw [← hn]; exact hm
  obtain ⟨bb, o, hA, _⟩ := hk.spot (by rw [strs_length]; exact Nat.lt_of_le_of_lt (Nat.zero_le _) hmk)
  subst hA
  have hc := hk.strAt m hmk
  unfold strV at hc
  obtain ⟨s, hs⟩ : ∃ s, bstr (atL ks m) = s := ⟨_, rfl⟩
  rw [hs] at hc
  obtain ⟨bt, hbt⟩ : ∃ bt, ltB (atL ks m) key = bt := ⟨_, rfl⟩
  have hlt : Op.bytesLess s.toList y.toList = bt := by
    rw [← hbt, ← hs, hy, bstr_toList, bstr_toList]; rfl
  rw [hbt]
  have hmI : (m : Int) < (n : Int) := by omega
  clear hs hbt hk hn hmk hy hm
  go_enter Tryd.func70, Tryd.ntmps70
  go_wp2_with fail
  cases bt
  all_goals
    go_region
    go_wp2_with fail
    go_ret
    exact ⟨rfl, (Below.refl _ _).drew⟩
set_option maxRecDepth 10000 in
set_option maxHeartbeats 1000000 in
theorem Search_calls (A : Option Addr) (n c : Nat) (ks : List (List UInt8)) (key : List UInt8) (y : ByteArray) (hy : y = bstr key) (a b : Nat) (w : World) (hn : n = ks.length) (hk : ValsAt w A (strs ks)) (hr : riseK ks n) (hm : n ≤ 4611686018427387903)
    (ha : w.cell? ⟨a, 0, none⟩ = some (.slice A n c)) (hb : w.cell? ⟨b, 0, none⟩ = some (.string y)) :
    Calls Tryd.prog 69 #[.int .i64 (n : Int), .func (Fn.func 70) #[] #[.pointer (some ⟨a, 0, none⟩), .pointer (some ⟨b, 0, none⟩)]] w fun e w' => e = .returned (.int .i64 (placeN ks key : Int)) ∧ Hid (Below w.heap.size w w') := by
  have HN := Lib.hid hn
  have HR := Lib.hid hr
  have HM := Lib.hid hm
  have HS : Hid (∀ w' m, Hid (Below w.heap.size w w') → m < n → Calls Tryd.prog 70 #[.int .i64 (m : Int), .pointer (some ⟨a, 0, none⟩), .pointer (some ⟨b, 0, none⟩)] w' fun e w'' => e = .returned (.bool (!ltB (atL ks m) key)) ∧ Hid (Below w'.heap.size w' w'')) := fun w' m hbw hm' =>
    SearchS1_calls A n c ks key y hy a b m w' hn (hk.below hbw.out) hm' ((hbw.out.cell (World.block_lt_of_cell? w _ ha)).trans ha) ((hbw.out.cell (World.block_lt_of_cell? w _ hb)).trans hb)
  clear hn hk hr hm ha hb hy
  go_enter Tryd.func69, Tryd.ntmps69
  go_wp2_with fail
  go_loopw [5, 6] (fun i j wr => ∃ (s e : Nat), s ≤ e ∧ e ≤ n ∧ i = .int .i64 (s : Int) ∧ j = .int .i64 (e : Int) ∧ Hid (Below w.heap.size w wr) ∧ Hid ((∀ k, k < s → ltB (atL ks k) key = true) ∧ (∀ k, e ≤ k → k < n → ltB (atL ks k) key = false))) (fun i j _ => (intOf j).toNat - (intOf i).toNat)
  case atStart => exact ⟨0, n, Nat.zero_le _, Nat.le_refl _, rfl, rfl, Below.refl _ _, fun k hk => absurd hk (Nat.not_lt_zero _), fun k h1 h2 => absurd h2 (Nat.not_lt.2 h1)⟩
  case round =>
    obtain ⟨s, e, hse, hen, rfl, rfl, HB, HV⟩ := hrel
    by_cases hlt : s < e
    · have hmid : s ≤ (s + e) / 2 ∧ (s + e) / 2 < e := by omega
      have hh : wrap64 (IntKind.u64.wrap (wrap64 ((s : Int) + (e : Int))) / 2) = (((s + e) / 2 : Nat) : Int) := by
        have := HM.out
        have e1 : wrap64 ((s : Int) + (e : Int)) = (s : Int) + (e : Int) := by unfold wrap64; omega
        rw [e1]
        have e2 : IntKind.u64.wrap ((s : Int) + (e : Int)) = (s : Int) + (e : Int) := by simp only [IntKind.wrap, IntKind.bits, IntKind.signed]; simp; omega
        rw [e2]
        unfold wrap64; omega
      obtain ⟨m, hm⟩ : ∃ m, (s + e) / 2 = m := ⟨_, rfl⟩
      rw [hm] at hh hmid
      obtain ⟨h1, h2⟩ := hmid
      have HSd := Lib.hid (HS.out wr m HB (Nat.lt_of_lt_of_le h2 hen))
      cases hlm : ltB (atL ks m) key
      · have HN2 : Hid ((∀ k, k < s → ltB (atL ks k) key = true) ∧ (∀ k, m ≤ k → k < n → ltB (atL ks k) key = false)) := ⟨HV.out.1, fun k hk1 hk2 => rise_high HR.out m hlm k hk1 hk2⟩
        rw [hlm] at HSd
        clear hlm hm
        go_wp2_with fail
        simp only [hh]
        clear hh
        go_wp2_with (go_at_call 70; (with_reducible refine HSd.out.mono ?_); rintro e' w3 ⟨rfl, hb3⟩; refine park ?_; intro q hq)
        refine hq.out ?_
        clear hq HSd HV
        have HB3 : Hid (Below w.heap.size w w3) := HB.out.trans (hb3.out.mono HB.out.size)
        clear hb3
        go_wp2_with fail
        go_roundw
        case rel => exact ⟨s, m, h1, Nat.le_trans (Nat.le_of_lt h2) hen, rfl, rfl, HB3, HN2⟩
        case measure => simp [intOf]; omega
      · have HN2 : Hid ((∀ k, k < m + 1 → ltB (atL ks k) key = true) ∧ (∀ k, e ≤ k → k < n → ltB (atL ks k) key = false)) := ⟨fun k hk => rise_low HR.out m (Nat.lt_of_lt_of_le h2 hen) hlm k (Nat.le_of_lt_succ hk), HV.out.2⟩
        rw [hlm] at HSd
        have hh2 : ((s : Int) + (e : Int)) / 2 = (m : Int) := by omega
        clear hlm hm
        have hM := HM.out
        go_wp2_with fail
        clear hh hh2
        go_wp2_with (go_at_call 70; (with_reducible refine HSd.out.mono ?_); rintro e' w3 ⟨rfl, hb3⟩; refine park ?_; intro q hq)
        refine hq.out ?_
        clear hq HSd HV
        have HB3 : Hid (Below w.heap.size w w3) := HB.out.trans (hb3.out.mono HB.out.size)
        clear hb3
        go_wp2_with fail
        go_roundw
        case rel => exact ⟨m + 1, e, h2, hen, congrArg (Value.int .i64) (Int.natCast_succ m).symm, rfl, HB3, HN2⟩
        case measure => simp [intOf]; omega
    · obtain rfl : e = s := by omega
      have HP : Hid (placeN ks key = e) := placeN_eq ks key e (by rw [← HN.out]; exact hen) HV.out.1 (fun h => HV.out.2 e (Nat.le_refl _) (by rw [HN.out]; exact h))
      clear HV HS
      go_wp2_with fail
      go_ret
      exact ⟨by rw [HP.out]; rfl, HB⟩
set_option maxRecDepth 10000 in
set_option maxHeartbeats 400000 in
theorem SearchStrings_calls (A : Option Addr) (n c : Nat) (ks : List (List UInt8)) (key : List UInt8) (w : World) (hn : n = ks.length) (hk : ValsAt w A (strs ks)) (hr : riseK ks n) (hm : n ≤ 4611686018427387903) :
    Calls Tryd.prog 35 #[.slice A n c, .string (bstr key)] w fun e w' => e = .returned (.int .i64 (placeN ks key : Int)) ∧ Hid (Below w.heap.size w w') := by
  obtain ⟨y, hy⟩ : ∃ y, bstr key = y := ⟨_, rfl⟩
  rw [hy]
  obtain ⟨w1, hw1⟩ : ∃ w1, w.alloc (.cells #[.slice A n c] 22) = w1 := ⟨_, rfl⟩
  obtain ⟨w2, hw2⟩ : ∃ w2, w1.alloc (.cells #[.string y] 9) = w2 := ⟨_, rfl⟩
  obtain ⟨a, ha⟩ : ∃ a, w.heap.size = a := ⟨_, rfl⟩
  obtain ⟨b, hb⟩ : ∃ b, w1.heap.size = b := ⟨_, rfl⟩
  have h1 : w1.heap[a]? = some (.cells #[.slice A n c] 22 (0, 0)) := by rw [← hw1, ← ha]; exact heap_alloc_new w _
  have h2 : w2.heap[b]? = some (.cells #[.string y] 9 (0, 0)) := by rw [← hw2, ← hb]; exact heap_alloc_new w1 _
  have b1 : Below w.heap.size w w1 := by rw [← hw1]; exact (Below.refl _ _).alloc (Nat.le_refl _) _
  have b2 : Below w1.heap.size w1 w2 := by rw [← hw2]; exact (Below.refl _ _).alloc (Nat.le_refl _) _
  have h12 : w2.heap[a]? = some (.cells #[.slice A n c] 22 (0, 0)) := (b2.block a (Array.getElem?_eq_some_iff.1 h1).1).trans h1
  have ca : w2.cell? ⟨a, 0, none⟩ = some (.slice A n c) := by rw [cell_of_row _ _ _ _ _ _ h12]; rfl
  have cb : w2.cell? ⟨b, 0, none⟩ = some (.string y) := by rw [cell_of_row _ _ _ _ _ _ h2]; rfl
  have hB : Below w.heap.size w w2 := b1.trans (b2.mono b1.size)
  have HS := Lib.hid (Search_calls A n c ks key y hy.symm a b w2 hn (hk.below hB) hr hm ca cb)
  rw [ha] at hB
  have HB := Lib.hid hB
  clear h1 h2 b1 b2 h12 cb hB hn hk hr hm hy
  go_enter Tryd.func35, Tryd.ntmps35
  go_wp2_with (go_at_call 69; (with_reducible refine HS.out.mono ?_); rintro e' w3 ⟨rfl, hb3⟩)
  go_ret
  have hsz := HB.out.size
  exact ⟨rfl, by rw [ha]; exact HB.out.trans (hb3.out.mono (by omega))⟩
end Go.Proofs.YtibmlgkakeakcaaDoor
/- The walk of node.Find. -/
set_option linter.unusedSimpArgs false
set_option linter.unusedVariables false
namespace Go.Proofs.YtibmlgkakeakcaaDoor
open Go.RowKit Go.Proofs.YtibmlgkakeakcaaDoor.Crc
set_option maxRecDepth 10000 in
set_option maxHeartbeats 1000000 in
theorem Find_calls {w : World} {n : NodeM} {kA : Option Addr} {kc : Nat} {vA : Option Addr} {vc : Nat} {iA : Option Addr} {ic : Nat} (key : List UInt8) (h : NodeAt w n kA kc vA vc iA ic) (hn : n.keys.length ≤ 1000) :
    Calls Tryd.prog 12 #[.agg #[.bool n.leaf, .slice kA n.keys.length kc, .slice vA n.vals.length vc, .slice iA n.kids.length ic], .string (bstr key)] w fun e w' => e = .returned (.tuple #[.int .i64 (findN n key).1, .bool (findN n key).2]) ∧ Hid (Below w.heap.size w w') := by
  obtain ⟨hb1, hr1⟩ := node_box w (.bool n.leaf) (.slice kA n.keys.length kc) (.slice vA n.vals.length vc) (.slice iA n.kids.length ic) 28
  obtain ⟨w1, hw1⟩ : ∃ w1, w.alloc (.cells #[.bool n.leaf, .slice kA n.keys.length kc, .slice vA n.vals.length vc, .slice iA n.kids.length ic] 28) = w1 := ⟨_, rfl⟩
  obtain ⟨r, hr0⟩ : ∃ r, w.heap.size = r := ⟨_, rfl⟩
  rw [hw1] at hb1 hr1
  rw [hr0] at hr1
  have hx := box_cells hr1
  have H := Lib.hid (h.below hb1)
  rw [hr0] at hb1
  have HB := Lib.hid hb1
  have HX := Lib.hid hx
  have hrw : r ≤ w1.heap.size := by have := hb1.size; omega
  have HRt := Lib.hid (Right_calls H.out)
  have HSS : Hid (RightM n → ∀ w', Below w1.heap.size w1 w' → Calls Tryd.prog 35 #[.slice kA n.keys.length kc, .string (bstr key)] w' fun e w'' => e = .returned (.int .i64 (placeN n.keys key : Int)) ∧ Hid (Below w'.heap.size w' w'')) := fun hr w' hb =>
    SearchStrings_calls kA n.keys.length kc n.keys key w' rfl (H.out.below hb).k hr.1 (by omega)
  obtain ⟨y, hy⟩ : ∃ y, bstr key = y := ⟨_, rfl⟩
  have HY : Hid (y.toList = key) := by rw [← hy]; exact bstr_toList _
  rw [hy] at HSS ⊢
  have HNk := Lib.hid hn
  clear hb1 hr1 hx h hn hy
  obtain ⟨nk, hnk⟩ : ∃ k, n.keys.length = k := ⟨_, rfl⟩
  have HK := Lib.hid hnk
  obtain ⟨x0, x1, x2, x3⟩ := HX.out w1 (Below.refl _ _)
  rw [hnk] at hw1 x1 HRt HSS HNk ⊢
  simp only [hnk] at HX
  clear hnk
  cases hR : rightB n
  · have HE : Hid (findN n key = (0, false)) := by show findN n key = _; unfold findN; rw [hR]; rfl
    rw [hR] at HRt
    clear hR HSS
    go_enter Tryd.func12, Tryd.ntmps12
    go_wp2_with (go_at_call 14; (with_reducible refine HRt.out.mono ?_); rintro e w2 ⟨rfl, hb2⟩; have hb2 := Lib.hid hb2)
    go_ret2
    exact ⟨by rw [HE.out]; rfl, by rw [hr0]; exact HB.out.trans (hb2.out.mono hrw)⟩
  · have HRM := Lib.hid (rightB_iff.1 hR)
    have HSr := Lib.hid (HSS.out HRM.out)
    obtain ⟨p, hp⟩ : ∃ p, placeN n.keys key = p := ⟨_, rfl⟩
    have hpl : p ≤ nk := by rw [← hp, ← HK.out]; exact placeN_le _ _
    have HE : Hid (findN n key = (if n.leaf || (decide (p < nk) && (atL n.keys p == key)) then (p : Int) else (p : Int) - 1, decide (p < nk) && (atL n.keys p == key))) := by
      show findN n key = _
      unfold findN
      rw [hR, if_pos rfl, hp, HK.out]
    rw [hp] at HSr
    rw [hR] at HRt
    clear hR HSS hp
    go_enter Tryd.func12, Tryd.ntmps12
    go_wp2_with (go_at_call 14; (with_reducible refine HRt.out.mono ?_); rintro e w2 ⟨rfl, hb2⟩; refine park ?_; intro q hq)
    refine hq.out ?_
    clear hq HRt hw1 x0 x1 x2 x3
    have HB2 := Lib.hid hb2
    obtain ⟨x0, x1, x2, x3⟩ := HX.out _ hb2
    have HSd := Lib.hid (HSr.out _ hb2)
    clear hb2 HSr
    go_wp2_with (go_at_call 35; (with_reducible refine HSd.out.mono ?_); rintro e w3 ⟨rfl, hb3⟩; refine park ?_; intro q hq)
    refine hq.out ?_
    clear hq HSd x0 x1 x2 x3
    have HB3 := Lib.hid (HB2.out.trans (hb3.out.mono HB2.out.size))
    obtain ⟨x0, x1, x2, x3⟩ := HX.out _ HB3.out
    have HBw : Hid (Below w.heap.size w w3) := by show Below _ _ _; rw [hr0]; exact HB.out.trans (HB3.out.mono hrw)
    have hp1000 : (p : Int) ≤ 1000 := by have := HNk.out; omega
    have HP1 : Hid (wrap64 ((p : Int) - 1) = (p : Int) - 1) := by show wrap64 _ = _; unfold wrap64; omega
    clear hb3 hp1000
    by_cases hlt : p < nk
    · obtain ⟨b, o, hA, _⟩ := H.out.k.spot (by rw [strs_length, HK.out]; exact Nat.lt_of_le_of_lt (Nat.zero_le _) hlt)
      subst hA
      have hc := (H.out.below HB3.out).k.strAt p (by rw [HK.out]; exact hlt)
      unfold strV at hc
      obtain ⟨s, hs⟩ : ∃ s, bstr (atL n.keys p) = s := ⟨_, rfl⟩
      rw [hs] at hc
      obtain ⟨be, hbe⟩ : ∃ be, (atL n.keys p == key) = be := ⟨_, rfl⟩
      have f1 : (s.toList == y.toList) = be := by rw [← hs, bstr_toList, HY.out]; exact hbe
      have hE := HE.out
      rw [decide_eq_true hlt, hbe, Bool.true_and] at hE
      have HE2 := Lib.hid hE
      have hltI : (p : Int) < (nk : Int) := by omega
      have hltN : decide (p < nk) = true := decide_eq_true hlt
      clear hE hbe hs HE
      cases hlf : n.leaf
      · rw [hlf] at x0
        have hE := HE2.out
        rw [hlf] at hE
        have HE3 := Lib.hid hE
        clear hE HE2 hlf
        cases be
        · go_wp2_with fail
          simp only [HP1.out]
          go_ret2
          exact ⟨by rw [HE3.out]; rfl, HBw⟩
        · go_wp2_with fail
          go_ret2
          exact ⟨by rw [HE3.out]; rfl, HBw⟩
      · rw [hlf] at x0
        have hE := HE2.out
        rw [hlf] at hE
        have HE3 := Lib.hid hE
        clear hE HE2 hlf
        cases be
        · go_wp2_with fail
          go_ret2
          exact ⟨by rw [HE3.out]; rfl, HBw⟩
        · go_wp2_with fail
          go_ret2
          exact ⟨by rw [HE3.out]; rfl, HBw⟩
    · have hE := HE.out
      rw [decide_eq_false hlt, Bool.false_and] at hE
      have hltN : decide (p < nk) = false := decide_eq_false hlt
      cases hlf : n.leaf
      · rw [hlf] at x0 hE
        have HE3 := Lib.hid hE
        clear hE hlf hlt
        go_wp2_with fail
        simp only [HP1.out]
        go_ret2
        exact ⟨by rw [HE3.out]; rfl, HBw⟩
      · rw [hlf] at x0 hE
        have HE3 := Lib.hid hE
        clear hE hlf hlt
        go_wp2_with fail
        go_ret2
        exact ⟨by rw [HE3.out]; rfl, HBw⟩
end Go.Proofs.YtibmlgkakeakcaaDoor
/- The walk of the document's Right. -/
set_option linter.unusedSimpArgs false
set_option linter.unusedVariables false
namespace Go.Proofs.YtibmlgkakeakcaaDoor
open Go.RowKit Go.Proofs.YtibmlgkakeakcaaDoor.Crc
set_option maxRecDepth 10000 in
set_option maxHeartbeats 2000000 in
theorem refRight_calls {w : World} {n : NodeM} {kA : Option Addr} {kc : Nat} {vA : Option Addr} {vc : Nat} {iA : Option Addr} {ic : Nat} (h : NodeAt w n kA kc vA vc iA ic) :
    Calls Tryd.prog 15 #[.agg #[.bool n.leaf, .slice kA n.keys.length kc, .slice vA n.vals.length vc, .slice iA n.kids.length ic]] w fun e w' => e = .returned (.bool (rightB n)) ∧ Below w.heap.size w w' := by
  obtain ⟨lf, ks, vs, is⟩ := n
  obtain ⟨hb1, hr1⟩ := node_box w (.bool lf) (.slice kA ks.length kc) (.slice vA vs.length vc) (.slice iA is.length ic) 26
  obtain ⟨w1, hw1⟩ : ∃ w1, w.alloc (.cells #[.bool lf, .slice kA ks.length kc, .slice vA vs.length vc, .slice iA is.length ic] 26) = w1 := ⟨_, rfl⟩
  obtain ⟨r, hr⟩ : ∃ r, w.heap.size = r := ⟨_, rfl⟩
  rw [hw1] at hb1 hr1
  rw [hr] at hr1
  have hx := box_cells hr1
  have H := Lib.hid (h.below hb1)
  have HB0 : Hid (Below w.heap.size w w1) := hb1
  have HX := Lib.hid hx
  have hkm0 : ks.length ≤ 9223372036854775807 := Nat.le_trans h.kn.2.1 h.kn.2.2
  have hvm0 : vs.length ≤ 9223372036854775807 := Nat.le_trans h.vn.2.1 h.vn.2.2
  have him0 : is.length ≤ 9223372036854775807 := Nat.le_trans h.inn.2.1 h.inn.2.2
  clear hb1 hr1 hx h
  obtain ⟨x0, x1, x2, x3⟩ := HX.out w1 (Below.refl _ _)
  obtain ⟨nk, hnk⟩ : ∃ k, ks.length = k := ⟨_, rfl⟩
  have HK := Lib.hid hnk
  obtain ⟨nv, hnv⟩ : ∃ k, vs.length = k := ⟨_, rfl⟩
  have HV := Lib.hid hnv
  obtain ⟨ni, hni⟩ : ∃ k, is.length = k := ⟨_, rfl⟩
  have HI := Lib.hid hni
  simp only at hw1 ⊢
  rw [hnk, hnv, hni] at hw1 ⊢
  simp only [hnk, hnv, hni] at HX x1 x2 x3 hkm0 hvm0 him0
  have hkm := hkm0
  clear hnk hnv hni
  have hsz : Hid (w.heap.size ≤ w1.heap.size) := HB0.out.size
  go_enter Tryd.func15, Tryd.ntmps15
  go_wp2_with fail
  clear hw1 x0 x1 x2 x3
  go_loopw [3] (fun i wr => ∃ t : Nat, t ≤ nk ∧ i = .int .i64 (t : Int) ∧ Hid (riseK ks t) ∧ Hid (Below w1.heap.size w1 wr)) (fun i _ => nk - (intOf i).toNat)
  case atStart => exact ⟨0, Nat.zero_le _, rfl, riseK.zero _, Below.refl _ _⟩
  case round =>
    obtain ⟨t, ht, rfl, HR, HB⟩ := hrel
    obtain ⟨x0, x1, x2, x3⟩ := HX.out wr HB.out
    by_cases hlt : t < nk
    · have hlt' : t < ks.length := by rw [HK.out]; exact hlt
      obtain ⟨b, o, hA, _⟩ := H.out.k.spot (by rw [strs_length]; exact Nat.lt_of_le_of_lt (Nat.zero_le _) hlt')
      subst hA
      have hc := (H.out.below HB.out).k.strAt t hlt'
      simp only at hc
      obtain ⟨s, hs⟩ : ∃ s, bstr (atL ks t) = s := ⟨_, rfl⟩
      unfold strV at hc
      rw [hs] at hc
      have HSz : Hid (s.size = (atL ks t).length) := by rw [← hs]; exact bstr_size _
      have HSt : Hid (s.toList = atL ks t) := by rw [← hs]; exact bstr_toList _
      clear hs
      by_cases h40 : 40 < s.size
      · have HF : Hid (¬ RightM ⟨lf, ks, vs, is⟩) := fun hr => by
          have := (hr.1 t hlt').1
          rw [← HSz.out] at this; omega
        have d40 : (40 : Int) < (s.size : Int) := by omega
        clear h40 hlt'
        go_wp2_with fail
        go_region
        go_wp2_with fail
        go_ret
        exact ⟨by rw [rightB_false HF.out]; rfl, (HB0.out.trans (HB.out.mono hsz.out)).drew⟩
      · have d40 : (s.size : Int) ≤ 40 := by omega
        have d40b : decide ((s.size : Int) > 40) = false := by simp; omega
        have d40c : decide (40 < s.size) = false := by simp; omega
        have HL40 : Hid ((atL ks t).length ≤ 40) := by rw [← HSz.out]; show s.size ≤ 40; omega
        clear h40
        by_cases h0 : t = 0
        · subst h0
          rw [Nat.add_zero] at hc
          have HN : Hid (riseK ks 1) := HR.out.succ HL40.out (fun h => absurd h (Nat.lt_irrefl _))
          clear HR hlt' HSz HSt
          go_wp2_with fail
          go_region
          go_wp2_with fail
          go_roundw
          case rel => exact ⟨1, Nat.succ_le_of_lt hlt, by go_num, HN, HB.out.drew⟩
          case measure => simp [intOf]; omega
        · obtain ⟨u, rfl⟩ : ∃ u, t = u + 1 := ⟨t - 1, by omega⟩
          have hc' := (H.out.below HB.out).k.strAt u (by simp only; omega)
          obtain ⟨p, hp⟩ : ∃ s, bstr (atL ks u) = s := ⟨_, rfl⟩
          unfold strV at hc'
          simp only at hc'
          rw [hp] at hc'
          have HPt : Hid (p.toList = atL ks u) := by rw [← hp]; exact bstr_toList _
          have kw : IntKind.i64.wrap ((u : Int) + 1 - 1) = (u : Int) := by rw [Int.add_sub_cancel]; exact IntWalk.i64_in _ (by omega)
          clear hp h0
          cases hl : ltB (atL ks u) (atL ks (u + 1))
          · have HF : Hid (¬ RightM ⟨lf, ks, vs, is⟩) := fun hr => by
              have := (hr.1 (u + 1) hlt').2 (Nat.succ_pos _)
              simp only [Nat.add_sub_cancel] at this
              rw [hl] at this; cases this
            have f1 : Op.bytesLess p.toList s.toList = false := by rw [HSt.out, HPt.out]; exact hl
            clear hl hlt' HR HSz HSt HPt HL40
            go_wp2_with fail
            go_region
            go_wp2_with fail
            go_ret
            exact ⟨by rw [rightB_false HF.out]; rfl, (HB0.out.trans (HB.out.mono hsz.out)).drew⟩
          · have HN : Hid (riseK ks (u + 1 + 1)) := HR.out.succ HL40.out (fun _ => by simpa using hl)
            have f1 : Op.bytesLess p.toList s.toList = true := by rw [HSt.out, HPt.out]; exact hl
            clear hl hlt' HR HSz HSt HPt HL40
            go_wp2_with fail
            go_region
            go_wp2_with fail
            go_roundw
            case rel => exact ⟨u + 1 + 1, Nat.succ_le_of_lt hlt, by go_num, HN, HB.out.drew⟩
            case measure => simp [intOf]; omega
    · obtain rfl : nk = t := by omega
      have HRs : Hid (riseK ks ks.length) := by rw [HK.out]; exact HR.out
      clear HR hlt
      have HBw : Hid (∀ w', Hid (Below w1.heap.size w1 w') → Below w.heap.size w w') := fun w' hb => HB0.out.trans (hb.out.mono hsz.out)
      cases lf
      · -- an inner one
        go_wp2_with fail
        clear x0 x1 x2 x3
        go_loopw [5] (fun i wx => ∃ t : Nat, t ≤ ni ∧ i = .int .i64 (t : Int) ∧ Hid (∀ k, k < t → 0 ≤ atI is k ∧ atI is k ≤ 2147483647) ∧ Hid (Below w1.heap.size w1 wx)) (fun i _ => ni - (intOf i).toNat)
        case atStart => exact ⟨0, Nat.zero_le _, rfl, fun k hk => absurd hk (Nat.not_lt_zero _), HB⟩
        case round =>
          obtain ⟨t, ht, rfl, HE, HB⟩ := hrel
          obtain ⟨x0, x1, x2, x3⟩ := HX.out wr HB.out
          by_cases hlt : t < ni
          · have hlt' : t < is.length := by rw [HI.out]; exact hlt
            obtain ⟨b, o, hA, _⟩ := H.out.i.spot (by rw [ints_length]; exact Nat.lt_of_le_of_lt (Nat.zero_le _) hlt')
            subst hA
            have hc := (H.out.below HB.out).i.intAt t hlt'
            simp only at hc
            obtain ⟨z, hz⟩ : ∃ z, atI is t = z := ⟨_, rfl⟩
            rw [hz] at hc
            have HZ := Lib.hid hz
            have HZm : Hid (z ∈ is) := by rw [← hz, atI_eq is t hlt']; exact List.getElem_mem hlt'
            clear hz hlt'
            by_cases hneg : z < 0
            · have HF : Hid (¬ RightM ⟨false, ks, vs, is⟩) := fun hr => by
                have := hr.2.2.2.2.2 z HZm.out
                omega
              have d1 : decide (z < 0) = true := decide_eq_true hneg
              clear hneg
              go_wp2_with fail
              go_ret
              exact ⟨by rw [rightB_false HF.out]; rfl, HBw.out _ HB⟩
            · have d1 : decide (z < 0) = false := decide_eq_false hneg
              by_cases hbig : 2147483647 < z
              · have HF : Hid (¬ RightM ⟨false, ks, vs, is⟩) := fun hr => by
                  have := hr.2.2.2.2.2 z HZm.out
                  omega
                have d2 : decide (z > 2147483647) = true := decide_eq_true hbig
                have d3 : decide (2147483647 < z) = true := decide_eq_true hbig
                clear hneg hbig
                go_wp2_with fail
                go_ret
                exact ⟨by rw [rightB_false HF.out]; rfl, HBw.out _ HB⟩
              · have d2 : decide (z > 2147483647) = false := decide_eq_false hbig
                have d3 : decide (2147483647 < z) = false := decide_eq_false hbig
                have HN : Hid (∀ k, k < t + 1 → 0 ≤ atI is k ∧ atI is k ≤ 2147483647) := fun k hk => by
                  by_cases hkt : k < t
                  · exact HE.out k hkt
                  · obtain rfl : k = t := by omega
                    rw [HZ.out]; omega
                clear hneg hbig HE
                go_wp2_with fail
                go_roundw
                case rel => exact ⟨t + 1, Nat.succ_le_of_lt hlt, congrArg (Value.int .i64) (Int.natCast_succ t).symm, HN, HB⟩
                case measure => simp [intOf]; omega
          · obtain rfl : ni = t := by omega
            have HE2 : Hid (∀ v ∈ is, 0 ≤ v ∧ v ≤ 2147483647) := fun v hv => by
              obtain ⟨i, hi, rfl⟩ := List.getElem_of_mem hv
              have := HE.out i (by rw [← HI.out]; exact hi)
              rwa [atI_eq is i hi] at this
            clear HE hlt
            by_cases e1 : ni = nk
            · subst e1
              by_cases e3 : nv = 0
              · subst e3
                by_cases e2 : ni = 0
                · subst e2
                  have HE : Hid (rightB ⟨false, ks, vs, is⟩ = false) := rightB_false fun hr => by
                    have := hr.2.2.1
                    rw [show (NodeM.kids ⟨false, ks, vs, is⟩).length = 0 from HI.out] at this
                    exact absurd this (Nat.lt_irrefl _)
                  rw [show ((0 : Nat) : Int) = (0 : Int) from rfl]
                  go_wp2_with fail
                  go_ret
                  exact ⟨by rw [HE.out]; rfl, HBw.out _ HB⟩
                · have hpos : 0 < ni := Nat.pos_of_ne_zero e2
                  have hposI : (0 : Int) < (ni : Int) := by omega
                  have hk0 : 0 < ks.length := by rw [HK.out]; exact hpos
                  obtain ⟨b, o, hA, _⟩ := H.out.k.spot (by rw [strs_length]; exact hk0)
                  subst hA
                  have hc := (H.out.below HB.out).k.strAt 0 hk0
                  simp only [Nat.add_zero] at hc
                  obtain ⟨s, hs⟩ : ∃ s, bstr (atL ks 0) = s := ⟨_, rfl⟩
                  unfold strV at hc
                  rw [hs] at hc
                  have HSt : Hid (s.toList = atL ks 0) := by rw [← hs]; exact bstr_toList _
                  clear hs hk0 e2
                  by_cases e4 : atL ks 0 = []
                  · have f4' : s.toList = [] := by rw [HSt.out, e4]
                    have HE : Hid (rightB ⟨false, ks, vs, is⟩ = true) := by
                      refine rightB_true ⟨HRs.out, ?_⟩
                      show _ ∧ _ ∧ _ ∧ _ ∧ _
                      exact ⟨by show is.length = ks.length; rw [HI.out, HK.out], by show 0 < is.length; rw [HI.out]; exact hpos, HV.out, e4, HE2.out⟩
                    clear e4 HSt
                    go_wp2_with fail
                    go_ret
                    exact ⟨by rw [HE.out]; rfl, HBw.out _ HB⟩
                  · have HE : Hid (rightB ⟨false, ks, vs, is⟩ = false) := rightB_false fun hr => e4 hr.2.2.2.2.1
                    have f4 : (s.toList == []) = false := by rw [beq_eq_false_iff_ne, HSt.out]; exact e4
                    clear e4 HSt
                    go_wp2_with fail
                    go_ret
                    exact ⟨by rw [HE.out]; rfl, HBw.out _ HB⟩
              · have HE : Hid (rightB ⟨false, ks, vs, is⟩ = false) := rightB_false fun hr => e3 (by rw [← HV.out]; exact hr.2.2.2.1)
                have f3 : ((nv : Int) == 0) = false := by simp; omega
                clear e3
                go_wp2_with fail
                go_ret
                exact ⟨by rw [HE.out]; rfl, HBw.out _ HB⟩
            · have HE : Hid (rightB ⟨false, ks, vs, is⟩ = false) := rightB_false fun hr => e1 (by rw [← HI.out, ← HK.out]; exact hr.2.1)
              have f1 : ((ni : Int) == (nk : Int)) = false := by simp; omega
              clear e1
              go_wp2_with fail
              go_ret
              exact ⟨by rw [HE.out]; rfl, HBw.out _ HB⟩
      · -- a leaf
        go_wp2_with fail
        clear x0 x1 x2 x3
        go_loopw [4] (fun i wx => ∃ t : Nat, t ≤ nv ∧ i = .int .i64 (t : Int) ∧ Hid (∀ k, k < t → (atL vs k).length ≤ 49) ∧ Hid (Below w1.heap.size w1 wx)) (fun i _ => nv - (intOf i).toNat)
        case atStart => exact ⟨0, Nat.zero_le _, rfl, fun k hk => absurd hk (Nat.not_lt_zero _), HB⟩
        case round =>
          obtain ⟨t, ht, rfl, HE, HB⟩ := hrel
          obtain ⟨x0, x1, x2, x3⟩ := HX.out wr HB.out
          by_cases hlt : t < nv
          · have hlt' : t < vs.length := by rw [HV.out]; exact hlt
            obtain ⟨ad, Ai, ci, hA, hc, hs⟩ := (H.out.below HB.out).v t hlt'
            subst hA
            obtain ⟨m, hm⟩ : ∃ m, vs[t].length = m := ⟨_, rfl⟩
            simp only [hm] at hc
            have HM : Hid ((atL vs t).length = m ∧ ∃ v ∈ vs, v.length = m) := ⟨by rw [atL_eq vs t hlt']; exact hm, vs[t], List.getElem_mem _, hm⟩
            clear hs hm hlt'
            by_cases h49 : 49 < m
            · have HF : Hid (¬ RightM ⟨true, ks, vs, is⟩) := fun hr => by
                obtain ⟨v, hv, hvm⟩ := HM.out.2
                have := hr.2.2.2 v hv
                omega
              have d1 : (49 : Int) < (m : Int) := by omega
              clear h49
              go_wp2_with fail
              go_ret
              exact ⟨by rw [rightB_false HF.out]; rfl, HBw.out _ HB⟩
            · have HN : Hid (∀ k, k < t + 1 → (atL vs k).length ≤ 49) := fun k hk => by
                by_cases hkt : k < t
                · exact HE.out k hkt
                · obtain rfl : k = t := by omega
                  rw [HM.out.1]; omega
              have d1 : (m : Int) ≤ 49 := by omega
              clear h49 HE
              go_wp2_with fail
              go_roundw
              case rel => exact ⟨t + 1, Nat.succ_le_of_lt hlt, congrArg (Value.int .i64) (Int.natCast_succ t).symm, HN, HB⟩
              case measure => simp [intOf]; omega
          · obtain rfl : nv = t := by omega
            have HE2 : Hid (∀ v ∈ vs, v.length ≤ 49) := fun v hv => by
              obtain ⟨i, hi, rfl⟩ := List.getElem_of_mem hv
              have := HE.out i (by rw [← HV.out]; exact hi)
              rwa [atL_eq vs i hi] at this
            clear HE hlt
            by_cases e1 : nv = nk
            · subst e1
              by_cases e2 : ni = 0
              · subst e2
                have HE : Hid (rightB ⟨true, ks, vs, is⟩ = true) := by
                  refine rightB_true ⟨HRs.out, ?_⟩
                  show _ ∧ _ ∧ _
                  exact ⟨by show vs.length = ks.length; rw [HV.out, HK.out], HI.out, HE2.out⟩
                go_wp2_with fail
                go_ret
                exact ⟨by rw [HE.out]; rfl, HBw.out _ HB⟩
              · have HE : Hid (rightB ⟨true, ks, vs, is⟩ = false) := rightB_false fun hr => e2 (by rw [← HI.out]; exact hr.2.2.1)
                have f2 : ((ni : Int) == 0) = false := by simp; omega
                clear e2
                go_wp2_with fail
                go_ret
                exact ⟨by rw [HE.out]; rfl, HBw.out _ HB⟩
            · have HE : Hid (rightB ⟨true, ks, vs, is⟩ = false) := rightB_false fun hr => e1 (by rw [← HV.out, ← HK.out]; exact hr.2.1)
              have f1 : ((nv : Int) == (nk : Int)) = false := by simp; omega
              clear e1
              go_wp2_with fail
              go_ret
              exact ⟨by rw [HE.out]; rfl, HBw.out _ HB⟩
end Go.Proofs.YtibmlgkakeakcaaDoor
/- The document's Fixed, and its reader. -/
set_option linter.unusedSimpArgs false
set_option linter.unusedVariables false
namespace Go.Proofs.YtibmlgkakeakcaaDoor
open Go.RowKit Go.Proofs.YtibmlgkakeakcaaDoor.Crc
theorem u64_id (x : Int) (h0 : 0 ≤ x) (h1 : x ≤ 18446744073709551615) : IntKind.u64.wrap x = x := by
  simp only [IntKind.wrap, IntKind.bits, IntKind.signed]; simp; omega
theorem byte_mod (q : Nat) : ((q : Int) % 256) % 256 = ((UInt8.ofNat q).toNat : Int) := by simp
theorem byte_mod1 (q : Nat) : (q : Int) % 256 = ((UInt8.ofNat q).toNat : Int) := by simp
theorem OwnB.sl {w : World} {base : Nat} {v : Value} {l : List UInt8} (h : OwnB w base v l) : ∃ A c, v = .slice A l.length c ∧ (A = none → c = 0) ∧ l.length ≤ c ∧ c ≤ 9223372036854775807 := by
  rcases h.2 with ⟨h1, h2⟩ | ⟨g, cap, cur, h1, h2, h3, h4, h5, _⟩
  · exact ⟨none, 0, by rw [h1, h2], fun _ => rfl, by omega, by omega⟩
  · exact ⟨_, cap, h1, (fun h => by cases h), h4, by unfold maxLen at h5; omega⟩
set_option maxRecDepth 10000 in
set_option maxHeartbeats 1000000 in
theorem refFixed_calls (n : Nat) (hn : (n : Int) ≤ 18446744073709551615) (s : Nat) (hs : s ≤ 8) (w : World) :
    Calls Tryd.prog 68 #[.int .u64 (n : Int), .int .i64 (s : Int)] w (RetB w (fixB n s)) := by
  have d1 : decide ((s : Int) > 8) = false := by simp; omega
  have HN := Lib.hid hn
  clear hn
  go_enter Tryd.func68, Tryd.ntmps68
  go_wp2_with fail
  go_loopw [0, 5, 6] (fun x v i wr => ∃ (k q : Nat), k ≤ s ∧ q ≤ n ∧ i = .int .i64 (k : Int) ∧ x = .int .u64 (q : Int) ∧ Hid (q = n / 256 ^ k ∧ OwnB wr w.heap.size v (fixB n k) ∧ Below w.heap.size w wr)) (fun _ _ i _ => s - (intOf i).toNat)
  case atStart => exact ⟨0, n, by omega, Nat.le_refl _, rfl, rfl, by simp, World.ownsRow_nil _ _ _ _, Below.refl _ _⟩
  case round =>
    obtain ⟨k, q, hk, hqn, rfl, rfl, HR⟩ := hrel
    by_cases hlt : k < s
    · have hq2 : q / 256 ≤ n := by omega
      have HB8 := Lib.hid (byte_mod q)
      have HB1 := Lib.hid (byte_mod1 q)
      have WQ : Hid (IntKind.u64.wrap ((q : Int) / 256) = ((q / 256 : Nat) : Int)) := by
        show _ = _
        rw [u64_id _ (by omega) (by have : (n : Int) ≤ 18446744073709551615 := HN.out; omega)]
        omega
      go_wp2_with (with_reducible refine park_append ?_; intro q9 hq)
      refine hq.out ?_
      clear hq
      have hu : byteAt n k = UInt8.ofNat q := by unfold byteAt; rw [HR.out.1]
      obtain ⟨A5, c5, rfl, hn5, _, _⟩ := HR.out.2.1.sl
      rw [HB1.out]
      have hlen : (fixB n k).length = k := fixB_length n k
      have hcs := OwnB.lit wr w.heap.size HR.out.2.2.size [.int .u8 ((UInt8.ofNat q).toNat : Int)] [UInt8.ofNat q] rfl 1 rfl (by decide)
      refine wpList_append_bytes rfl _ _ rfl w.heap.size _ [UInt8.ofNat q] rfl hcs A5 (fixB n k).length c5 (fixB n k) rfl rfl hn5 (HR.out.2.1.bytes.alloc _) (by rw [hlen]; simp; omega) (by have := HR.out.2.2.size; simp; omega) ?_
      intro v2 w2 hown2 hg2 _
      have HN2 : Hid (q / 256 = n / 256 ^ (k + 1) ∧ OwnB w2 w.heap.size v2 (fixB n (k + 1)) ∧ Below w.heap.size w w2) :=
        ⟨by rw [HR.out.1, Nat.pow_succ, Nat.div_div_eq_div_mul], by rw [fixB, hu]; exact hown2, (HR.out.2.2.alloc HR.out.2.2.size _).grown hg2 (by have := HR.out.2.2.size; simp; omega) (fun j hj => by cases hj; exact HR.out.2.2.size)⟩
      clear hown2 hg2 HR hlen hcs hu
      go_wp2
      go_roundw
      case rel => exact ⟨k + 1, q / 256, by omega, hq2, by go_num, by rw [WQ.out], HN2⟩
      case measure => simp [intOf]; omega
    · obtain rfl : k = s := by omega
      go_wp2_with fail
      go_ret
      exact RetB.mk HR.out.2.1 HR.out.2.2
/-! ### the document's reader -/
end Go.Proofs.YtibmlgkakeakcaaDoor
/- append of bytes, as a run and as one step of a region. -/
set_option linter.unusedSimpArgs false
set_option linter.unusedVariables false
namespace Go.Proofs.YtibmlgkakeakcaaDoor
open Go.RowKit Go.Proofs.YtibmlgkakeakcaaDoor.Crc
end Go.Proofs.YtibmlgkakeakcaaDoor
/- The document's pages: Taken; an append as one step of a region. -/
set_option linter.unusedSimpArgs false
set_option linter.unusedVariables false
namespace Go.Proofs.YtibmlgkakeakcaaDoor
open Go.RowKit Go.Proofs.YtibmlgkakeakcaaDoor.Crc
set_option maxHeartbeats 1000000 in
theorem refTaken_calls (A : Option Addr) (n c : Nat) (ls : List (List UInt8)) (w : World) (hn : n = ls.length) (hR : RowsB w A ls) (hs : 2 * ls.length + sizC ls ≤ 9223372036854775807) :
    Calls Tryd.prog 41 #[.slice A n c] w fun e w' => e = .returned (.int .i64 ((2 * ls.length + sizC ls : Nat) : Int)) ∧ w = w' := by
  have HR := Lib.hid hR
  have HN := Lib.hid hn
  have hn2 : n ≤ 4611686018427387903 := by omega
  obtain ⟨T, hT⟩ : ∃ T, 2 * ls.length + sizC ls = T := ⟨_, rfl⟩
  rw [hT] at hs ⊢
  have HT := Lib.hid hT
  clear hn hR hT
  go_enter Tryd.func41, Tryd.ntmps41
  go_wp2_with fail
  go_loop [3, 4] (fun t i => ∃ k S : Nat, k ≤ n ∧ S ≤ T ∧ i = .int .i64 (k : Int) ∧ t = .int .i64 (S : Int) ∧ Hid (S = 2 * k + sizC (ls.take k))) (fun _ i => n - (intOf i).toNat)
  case atStart => exact ⟨0, 0, Nat.zero_le _, Nat.zero_le _, rfl, rfl, rfl⟩
  case round =>
    obtain ⟨k, S, hk, hS, rfl, rfl, HS⟩ := hrel
    by_cases hlt : k < n
    · obtain ⟨b, o, rfl⟩ := HR.out.spot (by rw [← HN.out]; omega)
      obtain ⟨Ai, ci, hc, hs⟩ := HR.out.at k (by rw [← HN.out]; exact hlt)
      have hkl : k < ls.length := by rw [← HN.out]; exact hlt
      have hst : ls.take (k + 1) = ls.take k ++ [ls[k]] := List.take_succ_eq_append_getElem hkl
      have hle := sizC_take_all ls (k + 1)
      rw [hst, sizC_append, sizC_cons, sizC_nil, Nat.add_zero] at hle
      obtain ⟨m, hm⟩ : ∃ m, ls[k].length = m := ⟨_, rfl⟩
      rw [hm] at hc hle
      have hnext : S + 2 + m = 2 * (k + 1) + sizC (ls.take (k + 1)) := by rw [hst, sizC_append, sizC_cons, sizC_nil, hm, HS.out]; omega
      have hb1 : S + 2 + m ≤ T := by rw [hnext, ← HT.out, hst, sizC_append, sizC_cons, sizC_nil, hm]; omega
      have HNx := Lib.hid hnext
      clear hs hst hle hm hnext hkl
      go_wp2_with fail
      go_round
      case rel => exact ⟨k + 1, S + 2 + m, by omega, hb1, by go_num, by go_num, HNx⟩
      case measure => simp [intOf]; omega
    · obtain rfl : k = n := by omega
      have hST : S = T := by rw [HS.out, ← HT.out, List.take_of_length_le (by rw [HN.out]; exact Nat.le_refl _), HN.out]
      subst hST
      go_wp2_with fail
      go_ret
      exact ⟨rfl, rfl⟩
end Go.Proofs.YtibmlgkakeakcaaDoor
/- The document's Bytes. -/
set_option linter.unusedSimpArgs false
set_option linter.unusedVariables false
namespace Go.Proofs.YtibmlgkakeakcaaDoor
open Go.RowKit Go.Proofs.YtibmlgkakeakcaaDoor.Crc
end Go.Proofs.YtibmlgkakeakcaaDoor
/- The document's Fill. -/
set_option linter.unusedSimpArgs false
set_option linter.unusedVariables false
namespace Go.Proofs.YtibmlgkakeakcaaDoor
open Go.RowKit Go.Proofs.YtibmlgkakeakcaaDoor.Crc
end Go.Proofs.YtibmlgkakeakcaaDoor
/- The walks of the document's Uint and Text. -/
set_option linter.unusedSimpArgs false
set_option linter.unusedVariables false
namespace Go.Proofs.YtibmlgkakeakcaaDoor
open Go.RowKit Go.Proofs.YtibmlgkakeakcaaDoor.Crc
theorem lit_own (w : World) (c : UInt8) (v : Value) (hv : v = .int .u8 (c.toNat : Int)) : OwnB (w.alloc (.cells #[v] 5)) w.heap.size (.slice (some ⟨w.heap.size, 0, none⟩) 1 1) [c] := by
  subst hv
  exact OwnB.lit w w.heap.size (Nat.le_refl _) [.int .u8 (c.toNat : Int)] [c] rfl 1 rfl (by decide)
set_option maxRecDepth 10000 in
set_option maxHeartbeats 1000000 in
theorem refUint_calls : ∀ (k n : Nat), n < 128 ^ (k + 1) → n < 18446744073709551616 → ∀ w : World, Calls Tryd.prog 94 #[.int .u64 (n : Int)] w (RetB w (putU n)) := by
  intro k
  induction k with
  | zero =>
    intro n hn hn2 w
    have h128 : n < 128 := by simpa using hn
    have hb8 := Lib.hid (show (n : Int) = ((UInt8.ofNat n).toNat : Int) by simp; omega)
    have hpu := Lib.hid (putU_small n h128)
    have h256 : (n : Int) < 256 := by omega
    clear hn hn2
    go_enter Tryd.func94, Tryd.ntmps94
    go_wp2_with fail
    go_ret
    rw [hpu.out]
    exact RetB.mk (lit_own w _ _ (by rw [hb8.out])) ((Below.refl _ _).alloc (Nat.le_refl _) _)
  | succ k ih =>
    intro n hn hn2 w
    by_cases h128 : n < 128
    · have hb8 := Lib.hid (show (n : Int) = ((UInt8.ofNat n).toNat : Int) by simp; omega)
      have hpu := Lib.hid (putU_small n h128)
      have h256 : (n : Int) < 256 := by omega
      clear hn hn2 ih
      go_enter Tryd.func94, Tryd.ntmps94
      go_wp2_with fail
      go_ret
      rw [hpu.out]
      exact RetB.mk (lit_own w _ _ (by rw [hb8.out])) ((Below.refl _ _).alloc (Nat.le_refl _) _)
    · have hpu := Lib.hid (putU_big n h128)
      have hI := Lib.hid (fun w => ih (n / 128) (by rw [Nat.pow_succ] at hn; exact Nat.div_lt_of_lt_mul (by rw [Nat.mul_comm]; exact hn)) (by omega) w)
      have hdiv : ((n / 128 : Nat) : Int) = (n : Int) / 128 := by omega
      rw [hdiv] at hI
      have hH : Hid (((n : Int) % 128 + 128) = ((UInt8.ofNat (n % 128 + 128)).toNat : Int)) := by
        show _ = _
        simp; omega
      have hPl := Lib.hid (putU_len10 (n / 128) (by omega))
      clear hn hdiv ih
      go_enter Tryd.func94, Tryd.ntmps94
      go_wp2_with (first | (go_at_call 94; (with_reducible refine (hI.out _).mono ?_); rintro e w2 ⟨A2, c2, rfl, ho2, hb2⟩) | (with_reducible refine park_append ?_; intro q hq))
      refine hq.out ?_
      clear hq hI
      have HL : Hid (OwnB w2 w.heap.size (.slice (some ⟨w.heap.size, 0, none⟩) 1 1) [UInt8.ofNat (n % 128 + 128)] ∧ Below w.heap.size w w2) :=
        ⟨(lit_own w _ _ (by rw [hH.out])).below hb2, ((Below.refl _ _).alloc (Nat.le_refl _) _).trans (hb2.mono (by simp))⟩
      have HO2 := Lib.hid ho2
      clear ho2 hb2
      refine wpList_append_bytes rfl _ _ rfl w.heap.size (.slice (some ⟨w.heap.size, 0, none⟩) 1 1) [UInt8.ofNat (n % 128 + 128)] rfl HL.out.1 A2 _ c2 (putU (n / 128)) rfl rfl (fun h => by subst h; exact HO2.out.nilcap.2.1) HO2.out.bytes (by have := hPl.out; simp; omega) HL.out.2.size ?_
      intro v3 w3 hown3 hg3 _
      have HN : Hid (OwnB w3 w.heap.size v3 (putU n) ∧ Below w.heap.size w w3) := by
        refine ⟨by rw [hpu.out]; exact hown3, HL.out.2.grown hg3 HL.out.2.size (fun j hj => (HL.out.1.lt j hj).1)⟩
      clear hown3 hg3 HL HO2
      go_wp2_with fail
      go_ret
      exact RetB.mk HN.out.1 HN.out.2
/-- '[]byte(s)' of a string: bytes in a new row; nothing else has turned. -/
theorem bytesWorld_below (w : World) (s : ByteArray) : Below w.heap.size w (Lib.bytesWorld w 5 s) := by
  refine ⟨?_, ?_, ?_, ?_, ?_⟩
  · rfl
  · rfl
  · rfl
  · rw [Lib.bytesWorld_size]; omega
  · intro k hk; exact Lib.bytesWorld_at_old w _ s k hk
theorem bytesWorld_bytes (w : World) (l : List UInt8) : Bytes (Lib.bytesWorld w 5 (bstr l)) (some ⟨w.heap.size, 0, none⟩) l := by
  intro i hi
  refine ⟨_, rfl, ?_⟩
  rw [Addr.add_lit, Nat.zero_add, Lib.bytesWorld_cell w _ _ i (by rw [bstr_size]; exact hi)]
  unfold bstr at8
  rfl
theorem run_bytes_of (w : World) (y : ByteArray) : (convert 9 30 (.string y)).run Tryd.prog w = .ok (.slice (some ⟨w.heap.size, 0, none⟩) y.size (grownCap w y.size 0 5)) (Lib.bytesWorld w 5 y) :=
  Lib.run_convert_string_bytes w _ _ _ y Tryd.underlying9 Tryd.underlying30 Tryd.underlying5
/-- '[]byte(s)', as an operation. -/
theorem wpList_bytes_of {w : World} {ops : Array Oper} {rest : List Oper} {o : Oper} {a : Act} {Q : Exit → Act → World → Prop} (hgd : o.guard = none) (x : Operand) (ho : o.op = .convert 9 30 x)
    (l : List UInt8) (y : ByteArray) (hy : y = bstr l) (hx : a.eval x = .string y) (m : Nat) (hm : m = l.length)
    (h : ∀ g c w', Hid (Bytes w' (some ⟨g, 0, none⟩) l ∧ Below w.heap.size w w' ∧ w.heap.size ≤ g) → wpList Tryd.prog ops Q rest (a.put o.dst (.slice (some ⟨g, 0, none⟩) m c)) w') : wpList Tryd.prog ops Q (o :: rest) a w := by
  subst hm
  subst hy
  refine Great.wpList_runTo hgd _ rfl _ _ ?_ (h w.heap.size (grownCap w l.length 0 5) _ ⟨bytesWorld_bytes w l, bytesWorld_below w _, Nat.le_refl _⟩)
  unfold execOp
  simp only [ho, hx, run_bytes_of w (bstr l), bstr_size, Sem.run_bind, Result.andThen_ok, Sem.run_pure]
set_option maxRecDepth 10000 in
set_option maxHeartbeats 1000000 in
theorem refText_calls (s : List UInt8) (hs : s.length ≤ 400000) (w : World) : Calls Tryd.prog 67 #[.string (bstr s)] w (RetB w (textB s)) := by
  obtain ⟨y, hy⟩ : ∃ y, bstr s = y := ⟨_, rfl⟩
  have hsz : y.size = s.length := by rw [← hy, bstr_size]
  have hU := refUint_calls 9 s.length (by rw [show (128 : Nat) ^ (9 + 1) = 1180591620717411303424 from by decide]; omega) (by omega) w
  rw [← hsz] at hU
  have HU := Lib.hid hU
  have HY := Lib.hid hy
  have HSz := Lib.hid hsz
  have HS := Lib.hid hs
  have hw : IntKind.u64.wrap (y.size : Int) = (y.size : Int) := by simp only [IntKind.wrap, IntKind.bits, IntKind.signed]; simp; omega
  rw [hy]
  clear hU hy hsz hs
  go_enter Tryd.func67, Tryd.ntmps67
  go_wp2_with (first | (go_at_call 94; (with_reducible refine HU.out.mono ?_); rintro e w2 ⟨A2, c2, rfl, ho2, hb2⟩) | (with_reducible refine park_at (.convert 9 30 _) ?_; intro q hq))
  refine hq.out ?_
  clear hq HU
  have HO2 := Lib.hid (And.intro ho2 hb2)
  clear ho2 hb2
  refine wpList_bytes_of rfl _ rfl s y HY.out.symm rfl s.length rfl ?_
  intro g3 c3 w3 H3
  go_wp2_with (with_reducible refine park_append ?_; intro q hq)
  refine hq.out ?_
  clear hq
  have hB3 : Below w.heap.size w w3 := HO2.out.2.trans (H3.out.2.1.mono HO2.out.2.size)
  refine wpList_append_bytes rfl _ _ rfl w.heap.size (.slice A2 (putU y.size).length c2) (putU y.size) rfl (HO2.out.1.below H3.out.2.1) (some ⟨g3, 0, none⟩) s.length c3 s rfl rfl (fun h => by cases h) H3.out.1 (by have := putU_len10 y.size (by rw [HSz.out]; have := HS.out; omega); have := HS.out; omega) hB3.size ?_
  intro v4 w4 hown4 hg4 _
  have HN : Hid (OwnB w4 w.heap.size v4 (textB s) ∧ Below w.heap.size w w4) := by
    refine ⟨?_, hB3.grown hg4 hB3.size (fun j hj => (HO2.out.1.lt j hj).1)⟩
    rw [HSz.out] at hown4
    exact hown4
  clear hown4 hg4 HO2 H3 hB3
  go_wp2_with fail
  go_ret
  exact RetB.mk HN.out.1 HN.out.2
end Go.Proofs.YtibmlgkakeakcaaDoor
/- The walks of the document's Cells, Taken, Bytes, Find. -/
set_option linter.unusedSimpArgs false
set_option linter.unusedVariables false
namespace Go.Proofs.YtibmlgkakeakcaaDoor
open Go.RowKit Go.Proofs.YtibmlgkakeakcaaDoor.Crc
theorem OwnRL.fr {w : World} {base : Nat} {v : Value} {ls : List (List UInt8)} (h : OwnRL w base v ls) : ∀ k, v.ownBlock = some k → base ≤ k := fun k hk => by
  obtain ⟨vs, h1, _⟩ := h
  exact (World.ownsRow.lt h1 k hk).1
theorem OwnRL.basele {w : World} {base base' : Nat} {v : Value} {ls : List (List UInt8)} (h : OwnRL w base v ls) (hb : base' ≤ base) : OwnRL w base' v ls := by
  obtain ⟨vs, h1, h2⟩ := h
  refine ⟨vs, ⟨h1.1, ?_⟩, fun i hi => ?_⟩
  · rcases h1.2 with h | ⟨g, cap, cur, a1, a2, r⟩
    · exact .inl h
    · exact .inr ⟨g, cap, cur, a1, by omega, r⟩
  · obtain ⟨A, c, h3, h4⟩ := h2 i hi
    exact ⟨A, c, h3, h4.base hb⟩
set_option maxRecDepth 10000 in
set_option maxHeartbeats 2000000 in
theorem refCells_calls {w : World} {n : NodeM} {kA : Option Addr} {kc : Nat} {vA : Option Addr} {vc : Nat} {iA : Option Addr} {ic : Nat} (h : NodeAt w n kA kc vA vc iA ic) (hr : RightM n) (hn : n.keys.length ≤ 1000) :
    Calls Tryd.prog 34 #[.agg #[.bool n.leaf, .slice kA n.keys.length kc, .slice vA n.vals.length vc, .slice iA n.kids.length ic]] w fun e w' => ∃ A c, e = .returned (.slice A n.keys.length c) ∧ Hid (OwnRL w' w.heap.size (.slice A n.keys.length c) (cellsB n) ∧ Below w.heap.size w w') := by
  obtain ⟨lf, ks, vs, is⟩ := n
  obtain ⟨hb1, hr1⟩ := node_box w (.bool lf) (.slice kA ks.length kc) (.slice vA vs.length vc) (.slice iA is.length ic) 26
  obtain ⟨w1, hw1⟩ : ∃ w1, w.alloc (.cells #[.bool lf, .slice kA ks.length kc, .slice vA vs.length vc, .slice iA is.length ic] 26) = w1 := ⟨_, rfl⟩
  obtain ⟨r, hr0⟩ : ∃ r, w.heap.size = r := ⟨_, rfl⟩
  rw [hw1] at hb1 hr1
  rw [hr0] at hr1
  have hx := box_cells hr1
  have H := Lib.hid (h.below hb1)
  have HB0 : Hid (Below w.heap.size w w1) := hb1
  have hsz : Hid (w.heap.size ≤ w1.heap.size) := hb1.size
  have HX := Lib.hid hx
  have HR := Lib.hid hr
  have HNk : Hid (ks.length ≤ 1000) := hn
  clear hb1 hr1 hx h hr hn
  obtain ⟨x0, x1, x2, x3⟩ := HX.out w1 (Below.refl _ _)
  obtain ⟨nk, hnk⟩ : ∃ k, ks.length = k := ⟨_, rfl⟩
  have HK := Lib.hid hnk
  obtain ⟨nv, hnv⟩ : ∃ k, vs.length = k := ⟨_, rfl⟩
  obtain ⟨ni, hni⟩ : ∃ k, is.length = k := ⟨_, rfl⟩
  have HV := Lib.hid hnv
  have HI := Lib.hid hni
  simp only at hw1 ⊢
  rw [hnk, hnv, hni] at hw1
  rw [hnk, hnv, hni]
  simp only [hnk, hnv, hni] at HX x1 x2 x3 HNk
  have hkm : nk ≤ 9223372036854775807 := Nat.le_trans HNk.out (by decide)
  clear hnk hnv hni
  go_enter Tryd.func34, Tryd.ntmps34
  go_wp2_with fail
  clear hw1 x0 x1 x2 x3
  go_loopw [3, 4] (fun v i wr => ∃ t : Nat, t ≤ nk ∧ i = .int .i64 (t : Int) ∧ Hid (OwnRL wr w1.heap.size v ((cellsB ⟨lf, ks, vs, is⟩).take t) ∧ Below w1.heap.size w1 wr)) (fun _ i _ => nk - (intOf i).toNat)
  case atStart => exact ⟨0, Nat.zero_le _, rfl, OwnRL.nil _ _, Below.refl _ _⟩
  case round =>
    obtain ⟨t, ht, rfl, HQ⟩ := hrel
    obtain ⟨x0, x1, x2, x3⟩ := HX.out _ HQ.out.2
    by_cases hlt : t < nk
    · have hlt' : t < ks.length := by rw [HK.out]; exact hlt
      have HLt := Lib.hid hlt'
      obtain ⟨b, o, hA, _⟩ := H.out.k.spot (by rw [strs_length]; exact Nat.lt_of_le_of_lt (Nat.zero_le _) hlt')
      subst hA
      have hc := (H.out.below HQ.out.2).k.strAt t hlt'
      simp only at hc
      unfold strV at hc
      have hT := refText_calls (atL ks t) (by have := HR.out.key t hlt'; simp only at this; omega) wr
      obtain ⟨s, hs⟩ : ∃ s, bstr (atL ks t) = s := ⟨_, rfl⟩
      rw [hs] at hc hT
      have HT := Lib.hid hT
      have HTl : Hid ((textB (atL ks t)).length ≤ 50) := by
        have h1 := HR.out.key t hlt'
        simp only at h1
        have h2 := textB_len (atL ks t) (by omega)
        show _ ≤ _
        omega
      clear hs hT hlt'
      cases lf
      · -- inner
        obtain ⟨q1, q2, q3⟩ := HR.out.kid rfl t HLt.out
        simp only at q1 q2 q3
        obtain ⟨bi, oi, hAi, _⟩ := H.out.i.spot (by rw [ints_length]; exact Nat.lt_of_le_of_lt (Nat.zero_le _) q1)
        subst hAi
        have hci : ∀ w', Below w1.heap.size w1 w' → w'.cell? ⟨bi, oi + t, none⟩ = some (.int .i64 (atI is t)) := fun w' hb => (H.out.below hb).i.intAt t q1
        obtain ⟨kid, hkid⟩ := Int.eq_ofNat_of_zero_le q2
        rw [hkid] at q3
        have hw : IntKind.u64.wrap (kid : Int) = (kid : Int) := by simp only [IntKind.wrap, IntKind.bits, IntKind.signed]; simp; omega
        have hiK : (t : Int) < (ni : Int) := by rw [← HI.out]; omega
        have HKid : Hid ((atI is t).toNat = kid ∧ kid ≤ 2147483647) := ⟨by rw [hkid]; rfl, by omega⟩
        simp only [hkid] at hci
        have HCi := Lib.hid hci
        clear hkid q1 q2 q3 hci
        go_wp2_with (go_at_call 67; (with_reducible refine HT.out.mono ?_); rintro e w2 ⟨A2, c2, rfl, ho2, hb2⟩; refine park ?_; intro q hq)
        refine hq.out ?_
        clear hq HT hc x0 x1 x2 x3
        have hB2 : Below w1.heap.size w1 w2 := HQ.out.2.trans (hb2.mono HQ.out.2.size)
        obtain ⟨x0, x1, x2, x3⟩ := HX.out w2 hB2
        have hci := HCi.out w2 hB2
        have hF := refFixed_calls kid (by have := HKid.out.2; omega) 4 (by decide) w2
        rw [show ((4 : Nat) : Int) = 4 from rfl] at hF
        have HF := Lib.hid hF
        have HO2 := Lib.hid (And.intro ho2 hb2)
        clear hF ho2 hb2 hB2
        go_wp2_with (first | (go_at_call 68; (with_reducible refine HF.out.mono ?_); rintro e w3 ⟨A3, c3, rfl, ho3, hb3⟩) | (with_reducible refine park_append ?_; intro q hq))
        refine hq.out ?_
        clear hq HF hci x0 x1 x2 x3
        have HB3 : Hid (Below wr.heap.size wr w3) := HO2.out.2.trans (hb3.mono HO2.out.2.size)
        have HO3 := Lib.hid (HO2.out.1.below hb3)
        refine wpList_append_bytes rfl _ _ rfl wr.heap.size _ (textB (atL ks t)) rfl HO3.out A3 _ c3 (fixB kid 4) rfl rfl (fun h => by subst h; exact ho3.nilcap.2.1) ho3.bytes (by have := HTl.out; rw [fixB_length]; omega) HB3.out.size ?_
        intro v4 w4 hown4 hg4 _
        have hce : textB (atL ks t) ++ fixB kid 4 = cellB ⟨false, ks, vs, is⟩ t := by
          unfold cellB
          simp only [Bool.false_eq_true, if_false]
          rw [HKid.out.1]
        rw [hce] at hown4
        obtain ⟨A4, c4, rfl⟩ := hown4.slice'
        have HC4 : Hid (OwnB w4 wr.heap.size (.slice A4 (cellB ⟨false, ks, vs, is⟩ t).length c4) (cellB ⟨false, ks, vs, is⟩ t) ∧ Below wr.heap.size wr w4) := ⟨hown4, HB3.out.grown hg4 HB3.out.size (fun j hj => (HO3.out.lt j hj).1)⟩
        clear hce hown4 hg4 ho3 hb3 HO2 HO3 HB3

        -- the cell is put to the others
        have HB4 : Hid (Below w1.heap.size w1 w4) := HQ.out.2.trans (HC4.out.2.mono HQ.out.2.size)
        have HQ4 := Lib.hid (HQ.out.1.below HC4.out.2)
        go_wp2_with (with_reducible refine park_append ?_; intro q hq)
        refine hq.out ?_
        clear hq
        have hba : Below w4.heap.size w4 (w4.alloc (.cells #[.slice A4 (cellB ⟨false, ks, vs, is⟩ t).length c4] 30)) := (Below.refl _ _).alloc (Nat.le_refl _) _
        refine wpList_append_row rfl _ _ rfl w1.heap.size u3 ((cellsB ⟨false, ks, vs, is⟩).take t) rfl (HQ4.out.below hba) ⟨w4.heap.size, 0, none⟩ 1 A4 (cellB ⟨false, ks, vs, is⟩ t).length c4 (cellB ⟨false, ks, vs, is⟩ t) rfl (by rw [Addr.add_lit, cell_of_row _ _ _ _ _ _ (heap_alloc_new w4 _)]; rfl) ((HC4.out.1.base HQ.out.2.size).below hba) (by rw [List.length_take, cellsB_length]; have := HNk.out; have := HK.out; simp only; omega) (by have := HB4.out.size; simp; omega) ?_
        intro v9 w9 H9
        have hfr9 := HQ4.out.fr
        have HN : Hid (OwnRL w9 w1.heap.size v9 ((cellsB ⟨false, ks, vs, is⟩).take (t + 1)) ∧ Below w1.heap.size w1 w9) :=
          ⟨by rw [cellsB_take ⟨false, ks, vs, is⟩ t HLt.out]; exact H9.out.1, (HB4.out.alloc HB4.out.size _).grown H9.out.2 (by have := HB4.out.size; simp; omega) hfr9⟩
        clear H9 hfr9 hba HB4 HQ4 HC4 HQ
        go_wp2_with fail
        go_roundw
        case rel => exact ⟨t + 1, Nat.succ_le_of_lt hlt, congrArg (Value.int .i64) (Int.natCast_succ t).symm, HN⟩
        case measure =>
          clear HN
          simp [intOf]; omega
      · -- a leaf
        obtain ⟨q1, q2⟩ := HR.out.val rfl t HLt.out
        simp only at q1 q2
        obtain ⟨bi, oi, hAi⟩ := H.out.v.spot (Nat.lt_of_le_of_lt (Nat.zero_le _) q1)
        subst hAi
        obtain ⟨Ai, ci, hcv, hsv⟩ := H.out.v.at t q1
        try simp only at hcv hsv
        rw [← atL_eq vs t q1] at hcv hsv
        have hci : ∀ w', Below w1.heap.size w1 w' → w'.cell? ⟨bi, oi + t, none⟩ = some (.slice Ai (atL vs t).length ci) ∧ SlB w' Ai (atL vs t).length ci (atL vs t) := fun w' hb => ⟨(hb.cell (World.block_lt_of_cell? w1 _ hcv)).trans hcv, hsv.below hb⟩
        have hiK : (t : Int) < (nv : Int) := by rw [← HV.out]; omega
        have HQ2 := Lib.hid q2
        have HCi := Lib.hid hci
        clear q1 q2 hci hcv hsv
        go_wp2_with (go_at_call 67; (with_reducible refine HT.out.mono ?_); rintro e w2 ⟨A2, c2, rfl, ho2, hb2⟩; refine park ?_; intro q hq)
        refine hq.out ?_
        clear hq HT hc x0 x1 x2 x3
        have hB2 : Below w1.heap.size w1 w2 := HQ.out.2.trans (hb2.mono HQ.out.2.size)
        obtain ⟨x0, x1, x2, x3⟩ := HX.out w2 hB2
        obtain ⟨hci, hsv⟩ := HCi.out w2 hB2
        have hrun := run_str (w := w2) (c := ci) hsv.1 hsv.2.1
        have hT2 := refText_calls (atL vs t) (by have := HQ2.out; omega) w2
        obtain ⟨s2, hs2⟩ : ∃ s, bstr (atL vs t) = s := ⟨_, rfl⟩
        obtain ⟨m2, hm2⟩ : ∃ m, (atL vs t).length = m := ⟨_, rfl⟩
        rw [hm2] at hci
        rw [hm2, hs2] at hrun
        rw [hs2] at hT2
        have HT2 := Lib.hid hT2
        have HT2l : Hid ((textB (atL vs t)).length ≤ 60) := by
          have h1 := HQ2.out
          have h2 := textB_len (atL vs t) (by omega)
          show _ ≤ _
          omega
        have HO2 := Lib.hid (And.intro ho2 hb2)
        clear hT2 ho2 hb2 hB2 hs2 hm2 hsv
        go_wp2_with (first | (go_at_call 67; (with_reducible refine HT2.out.mono ?_); rintro e w3 ⟨A3, c3, rfl, ho3, hb3⟩) | (with_reducible refine park_append ?_; intro q hq))
        refine hq.out ?_
        clear hq HT2 hci hrun x0 x1 x2 x3
        have HB3 : Hid (Below wr.heap.size wr w3) := HO2.out.2.trans (hb3.mono HO2.out.2.size)
        have HO3 := Lib.hid (HO2.out.1.below hb3)
        refine wpList_append_bytes rfl _ _ rfl wr.heap.size _ (textB (atL ks t)) rfl HO3.out A3 _ c3 (textB (atL vs t)) rfl rfl (fun h => by subst h; exact ho3.nilcap.2.1) ho3.bytes (by have := HTl.out; have := HT2l.out; omega) HB3.out.size ?_
        intro v4 w4 hown4 hg4 _
        have hce : textB (atL ks t) ++ textB (atL vs t) = cellB ⟨true, ks, vs, is⟩ t := by
          unfold cellB
          simp only [if_true]
        rw [hce] at hown4
        obtain ⟨A4, c4, rfl⟩ := hown4.slice'
        have HC4 : Hid (OwnB w4 wr.heap.size (.slice A4 (cellB ⟨true, ks, vs, is⟩ t).length c4) (cellB ⟨true, ks, vs, is⟩ t) ∧ Below wr.heap.size wr w4) := ⟨hown4, HB3.out.grown hg4 HB3.out.size (fun j hj => (HO3.out.lt j hj).1)⟩
        clear hce hown4 hg4 ho3 hb3 HO2 HO3 HB3

        -- the cell is put to the others
        have HB4 : Hid (Below w1.heap.size w1 w4) := HQ.out.2.trans (HC4.out.2.mono HQ.out.2.size)
        have HQ4 := Lib.hid (HQ.out.1.below HC4.out.2)
        go_wp2_with (with_reducible refine park_append ?_; intro q hq)
        refine hq.out ?_
        clear hq
        have hba : Below w4.heap.size w4 (w4.alloc (.cells #[.slice A4 (cellB ⟨true, ks, vs, is⟩ t).length c4] 30)) := (Below.refl _ _).alloc (Nat.le_refl _) _
        refine wpList_append_row rfl _ _ rfl w1.heap.size u3 ((cellsB ⟨true, ks, vs, is⟩).take t) rfl (HQ4.out.below hba) ⟨w4.heap.size, 0, none⟩ 1 A4 (cellB ⟨true, ks, vs, is⟩ t).length c4 (cellB ⟨true, ks, vs, is⟩ t) rfl (by rw [Addr.add_lit, cell_of_row _ _ _ _ _ _ (heap_alloc_new w4 _)]; rfl) ((HC4.out.1.base HQ.out.2.size).below hba) (by rw [List.length_take, cellsB_length]; have := HNk.out; have := HK.out; simp only; omega) (by have := HB4.out.size; simp; omega) ?_
        intro v9 w9 H9
        have hfr9 := HQ4.out.fr
        have HN : Hid (OwnRL w9 w1.heap.size v9 ((cellsB ⟨true, ks, vs, is⟩).take (t + 1)) ∧ Below w1.heap.size w1 w9) :=
          ⟨by rw [cellsB_take ⟨true, ks, vs, is⟩ t HLt.out]; exact H9.out.1, (HB4.out.alloc HB4.out.size _).grown H9.out.2 (by have := HB4.out.size; simp; omega) hfr9⟩
        clear H9 hfr9 hba HB4 HQ4 HC4 HQ
        go_wp2_with fail
        go_roundw
        case rel => exact ⟨t + 1, Nat.succ_le_of_lt hlt, congrArg (Value.int .i64) (Int.natCast_succ t).symm, HN⟩
        case measure =>
          clear HN
          simp [intOf]; omega
    · obtain rfl : nk = t := by omega
      have hV := HQ.out.1
      rw [List.take_of_length_le (by rw [cellsB_length]; exact Nat.le_of_eq HK.out)] at hV
      obtain ⟨A6, c6, hv6, _, _, _, _⟩ := hV.slice
      rw [cellsB_length] at hv6
      rw [show (NodeM.keys ⟨lf, ks, vs, is⟩).length = nk from HK.out] at hv6
      subst hv6
      have HF : Hid (OwnRL wr w.heap.size (.slice A6 nk c6) (cellsB ⟨lf, ks, vs, is⟩) ∧ Below w.heap.size w wr) := ⟨hV.basele hsz.out, HB0.out.trans (HQ.out.2.mono hsz.out)⟩
      clear hV HQ hlt
      go_wp2_with fail
      go_ret
      exact ⟨A6, c6, rfl, HF.out⟩
end Go.Proofs.YtibmlgkakeakcaaDoor
/- The walks of the document's Taken, Bytes, Find. -/
set_option linter.unusedSimpArgs false
set_option linter.unusedVariables false
namespace Go.Proofs.YtibmlgkakeakcaaDoor
open Go.RowKit Go.Proofs.YtibmlgkakeakcaaDoor.Crc
end Go.Proofs.YtibmlgkakeakcaaDoor
/- The walk of the document's Find. -/
set_option linter.unusedSimpArgs false
set_option linter.unusedVariables false
namespace Go.Proofs.YtibmlgkakeakcaaDoor
open Go.RowKit Go.Proofs.YtibmlgkakeakcaaDoor.Crc
end Go.Proofs.YtibmlgkakeakcaaDoor
/- The walk of the document's Same. -/
set_option linter.unusedSimpArgs false
set_option linter.unusedVariables false
namespace Go.Proofs.YtibmlgkakeakcaaDoor
open Go.RowKit Go.Proofs.YtibmlgkakeakcaaDoor.Crc
open Classical in
noncomputable def sameB (n m : NodeM) : Bool := decide (n = m)
open Classical in
theorem sameB_true {n m : NodeM} (h : n = m) : sameB n m = true := by unfold sameB; exact decide_eq_true h
open Classical in
theorem sameB_false {n m : NodeM} (h : ¬ n = m) : sameB n m = false := by unfold sameB; exact decide_eq_false h
theorem list_eq_atL {xs ys : List (List UInt8)} (hl : xs.length = ys.length) (h : ∀ k, k < xs.length → atL xs k = atL ys k) : xs = ys := by
  apply List.ext_getElem hl
  intro i h1 h2
  have := h i h1
  rwa [atL_eq xs i h1, atL_eq ys i h2] at this
theorem list_eq_atI {xs ys : List Int} (hl : xs.length = ys.length) (h : ∀ k, k < xs.length → atI xs k = atI ys k) : xs = ys := by
  apply List.ext_getElem hl
  intro i h1 h2
  have := h i h1
  rwa [atI_eq xs i h1, atI_eq ys i h2] at this
theorem node2_box' (w : World) (a b c d a' b' c' d' : Value) (T T' : TypeId) :
    Below w.heap.size w ((w.alloc (.cells #[a, b, c, d] T)).alloc (.cells #[a', b', c', d'] T')) ∧
    ((w.alloc (.cells #[a, b, c, d] T)).alloc (.cells #[a', b', c', d'] T')).heap[w.heap.size]? = some (.cells #[a, b, c, d] T (0, 0)) ∧
    ((w.alloc (.cells #[a, b, c, d] T)).alloc (.cells #[a', b', c', d'] T')).heap[w.heap.size + 1]? = some (.cells #[a', b', c', d'] T' (0, 0)) := by
  have hs1 : (w.alloc (.cells #[a, b, c, d] T)).heap.size = w.heap.size + 1 := by simp
  have a0 := heap_alloc_new w (.cells #[a, b, c, d] T)
  have b1 := (Below.refl (w.heap.size + 1) (w.alloc (.cells #[a, b, c, d] T))).alloc (by simp) (.cells #[a', b', c', d'] T')
  have a1 := heap_alloc_new (w.alloc (.cells #[a, b, c, d] T)) (.cells #[a', b', c', d'] T')
  rw [hs1] at a1
  exact ⟨((Below.refl w.heap.size w).alloc (Nat.le_refl _) _).alloc (by simp) _, (b1.block _ (by omega)).trans a0, a1⟩
theorem node2_box (w : World) (a b c d a' b' c' d' : Value) (T : TypeId) :
    Below w.heap.size w ((w.alloc (.cells #[a, b, c, d] T)).alloc (.cells #[a', b', c', d'] T)) ∧
    ((w.alloc (.cells #[a, b, c, d] T)).alloc (.cells #[a', b', c', d'] T)).heap[w.heap.size]? = some (.cells #[a, b, c, d] T (0, 0)) ∧
    ((w.alloc (.cells #[a, b, c, d] T)).alloc (.cells #[a', b', c', d'] T)).heap[w.heap.size + 1]? = some (.cells #[a', b', c', d'] T (0, 0)) := by
  have hs1 : (w.alloc (.cells #[a, b, c, d] T)).heap.size = w.heap.size + 1 := by simp
  have a0 := heap_alloc_new w (.cells #[a, b, c, d] T)
  have b1 := (Below.refl (w.heap.size + 1) (w.alloc (.cells #[a, b, c, d] T))).alloc (by simp) (.cells #[a', b', c', d'] T)
  have a1 := heap_alloc_new (w.alloc (.cells #[a, b, c, d] T)) (.cells #[a', b', c', d'] T)
  rw [hs1] at a1
  exact ⟨((Below.refl w.heap.size w).alloc (Nat.le_refl _) _).alloc (by simp) _, (b1.block _ (by omega)).trans a0, a1⟩
set_option maxRecDepth 10000 in
set_option maxHeartbeats 2000000 in
theorem Same14_calls {w : World} {n m : NodeM} {kA : Option Addr} {kc : Nat} {vA : Option Addr} {vc : Nat} {iA : Option Addr} {ic : Nat} {kB : Option Addr} {kd : Nat} {vB : Option Addr} {vd : Nat} {iB : Option Addr} {id : Nat} (h : NodeAt w n kA kc vA vc iA ic) (h' : NodeAt w m kB kd vB vd iB id) :
    Calls Tryd.prog 19 #[.agg #[.bool n.leaf, .slice kA n.keys.length kc, .slice vA n.vals.length vc, .slice iA n.kids.length ic], .agg #[.bool m.leaf, .slice kB m.keys.length kd, .slice vB m.vals.length vd, .slice iB m.kids.length id]] w fun e w' => e = .returned (.bool (sameB n m)) ∧ Hid (Below w.heap.size w w') := by
  obtain ⟨lf, ks, vs, is⟩ := n
  obtain ⟨lf', ks', vs', is'⟩ := m
  obtain ⟨hb1, hr1, hr2⟩ := node2_box w (.bool lf) (.slice kA ks.length kc) (.slice vA vs.length vc) (.slice iA is.length ic) (.bool lf') (.slice kB ks'.length kd) (.slice vB vs'.length vd) (.slice iB is'.length id) 26
  obtain ⟨w1, hw1⟩ : ∃ w1, (w.alloc (.cells #[.bool lf, .slice kA ks.length kc, .slice vA vs.length vc, .slice iA is.length ic] 26)).alloc (.cells #[.bool lf', .slice kB ks'.length kd, .slice vB vs'.length vd, .slice iB is'.length id] 26) = w1 := ⟨_, rfl⟩
  rw [hw1] at hb1 hr1 hr2
  have hx := box_cells hr1
  have hy := box_cells hr2
  have H := Lib.hid (h.below hb1)
  have H' := Lib.hid (h'.below hb1)
  have HB0 : Hid (Below w.heap.size w w1) := hb1
  have hsz : Hid (w.heap.size ≤ w1.heap.size) := hb1.size
  have HBw : Hid (∀ w', Hid (Below w1.heap.size w1 w') → Hid (Below w.heap.size w w')) := fun w' hb => HB0.out.trans (hb.out.mono hsz.out)
  obtain ⟨r, hr0⟩ : ∃ r, w.heap.size = r := ⟨_, rfl⟩
  rw [hr0] at hx hy
  have HX := Lib.hid hx
  have HY := Lib.hid hy
  have hkm0 : ks.length ≤ 9223372036854775807 := Nat.le_trans h.kn.2.1 h.kn.2.2
  have hvm0 : vs.length ≤ 9223372036854775807 := Nat.le_trans h.vn.2.1 h.vn.2.2
  have him0 : is.length ≤ 9223372036854775807 := Nat.le_trans h.inn.2.1 h.inn.2.2
  clear hb1 hr1 hr2 hx hy h h'
  obtain ⟨x0, x1, x2, x3⟩ := HX.out w1 (Below.refl _ _)
  obtain ⟨y0, y1, y2, y3⟩ := HY.out w1 (Below.refl _ _)
  obtain ⟨nk, hnk⟩ : ∃ k, ks.length = k := ⟨_, rfl⟩
  obtain ⟨nv, hnv⟩ : ∃ k, vs.length = k := ⟨_, rfl⟩
  obtain ⟨ni, hni⟩ : ∃ k, is.length = k := ⟨_, rfl⟩
  obtain ⟨mk, hmk⟩ : ∃ k, ks'.length = k := ⟨_, rfl⟩
  obtain ⟨mv, hmv⟩ : ∃ k, vs'.length = k := ⟨_, rfl⟩
  obtain ⟨mi, hmi⟩ : ∃ k, is'.length = k := ⟨_, rfl⟩
  have HK := Lib.hid hnk
  have HV := Lib.hid hnv
  have HI := Lib.hid hni
  have HK' := Lib.hid hmk
  have HV' := Lib.hid hmv
  have HI' := Lib.hid hmi
  simp only at hw1 ⊢
  simp only [hnk, hnv, hni, hmk, hmv, hmi] at hw1 HX HY x1 x2 x3 y1 y2 y3 hkm0 hvm0 him0
  rw [hnk, hnv, hni, hmk, hmv, hmi]
  clear hnk hnv hni hmk hmv hmi
  by_cases e0 : ¬ lf = lf'
  · have HE : Hid (sameB ⟨lf, ks, vs, is⟩ ⟨lf', ks', vs', is'⟩ = false) := sameB_false fun h => absurd (congrArg NodeM.leaf h) e0
    have HB1 := HBw.out w1 (Below.refl _ _)
    have f0 : (lf != lf') = true := by simpa using e0
    clear e0
    go_enter Tryd.func19, Tryd.ntmps19
    cases lf <;> cases lf' <;> first | cases f0 | skip
    all_goals
      go_wp2_with fail
      go_ret
      exact ⟨by rw [HE.out]; rfl, by first | exact HB1 | (rw [← hr0]; exact HB1)⟩
  replace e0 := Classical.not_not.1 e0
  subst e0
  by_cases e1 : ¬ nk = mk
  · have HE : Hid (sameB ⟨lf, ks, vs, is⟩ ⟨lf, ks', vs', is'⟩ = false) := sameB_false fun h => absurd (by rw [← HK.out, ← HK'.out]; exact congrArg List.length (congrArg NodeM.keys h)) e1
    have HB1 := HBw.out w1 (Below.refl _ _)
    have f1 : ((nk : Int) != (mk : Int)) = true := by simp; omega
    clear e1
    go_enter Tryd.func19, Tryd.ntmps19
    go_wp2_with fail
    go_ret
    exact ⟨by rw [HE.out]; rfl, by first | exact HB1 | (rw [← hr0]; exact HB1)⟩
  replace e1 := Classical.not_not.1 e1
  subst e1
  by_cases e2 : ¬ nv = mv
  · have HE : Hid (sameB ⟨lf, ks, vs, is⟩ ⟨lf, ks', vs', is'⟩ = false) := sameB_false fun h => absurd (by rw [← HV.out, ← HV'.out]; exact congrArg List.length (congrArg NodeM.vals h)) e2
    have HB1 := HBw.out w1 (Below.refl _ _)
    have f1 : ((nv : Int) != (mv : Int)) = true := by simp; omega
    clear e2
    go_enter Tryd.func19, Tryd.ntmps19
    go_wp2_with fail
    go_ret
    exact ⟨by rw [HE.out]; rfl, by first | exact HB1 | (rw [← hr0]; exact HB1)⟩
  replace e2 := Classical.not_not.1 e2
  subst e2
  by_cases e3 : ¬ ni = mi
  · have HE : Hid (sameB ⟨lf, ks, vs, is⟩ ⟨lf, ks', vs', is'⟩ = false) := sameB_false fun h => absurd (by rw [← HI.out, ← HI'.out]; exact congrArg List.length (congrArg NodeM.kids h)) e3
    have HB1 := HBw.out w1 (Below.refl _ _)
    have f1 : ((ni : Int) != (mi : Int)) = true := by simp; omega
    clear e3
    go_enter Tryd.func19, Tryd.ntmps19
    go_wp2_with fail
    go_ret
    exact ⟨by rw [HE.out]; rfl, by first | exact HB1 | (rw [← hr0]; exact HB1)⟩
  replace e3 := Classical.not_not.1 e3
  subst e3
  go_enter Tryd.func19, Tryd.ntmps19
  go_wp2_with fail
  clear hw1 x0 x1 x2 x3 y0 y1 y2 y3
  go_loopw [5] (fun i wr => ∃ t : Nat, t ≤ nk ∧ i = .int .i64 (t : Int) ∧ Hid (∀ k, k < t → atL ks k = atL ks' k) ∧ Hid (Below w1.heap.size w1 wr)) (fun i _ => nk - (intOf i).toNat)
  case atStart => exact ⟨0, Nat.zero_le _, rfl, fun k hk => absurd hk (Nat.not_lt_zero _), Below.refl _ _⟩
  case round =>
    obtain ⟨t, ht, rfl, HE, HB⟩ := hrel
    obtain ⟨x0, x1, x2, x3⟩ := HX.out wr HB.out
    obtain ⟨y0, y1, y2, y3⟩ := HY.out wr HB.out
    by_cases hlt : t < nk
    · obtain ⟨b, o, hA, _⟩ := H.out.k.spot (by rw [strs_length]; exact Nat.lt_of_le_of_lt (Nat.zero_le t) (by rw [HK.out]; exact hlt))
      obtain ⟨b', o', hA', _⟩ := H'.out.k.spot (by rw [strs_length]; exact Nat.lt_of_le_of_lt (Nat.zero_le t) (by rw [HK'.out]; exact hlt))
      subst hA
      subst hA'
      have hc := (H.out.below HB.out).k.strAt t (by rw [HK.out]; exact hlt)
      have hc' := (H'.out.below HB.out).k.strAt t (by rw [HK'.out]; exact hlt)
      unfold strV at hc hc'
      simp only at hc hc'
      obtain ⟨s, hs⟩ : ∃ s, bstr (atL ks t) = s := ⟨_, rfl⟩
      obtain ⟨s', hs'⟩ : ∃ s, bstr (atL ks' t) = s := ⟨_, rfl⟩
      rw [hs] at hc
      rw [hs'] at hc'
      have hst : s.toList = atL ks t := by rw [← hs]; exact bstr_toList _
      have hst' : s'.toList = atL ks' t := by rw [← hs']; exact bstr_toList _
      clear hs hs'
      by_cases he : atL ks t = atL ks' t
      · have f1 : (s.toList == s'.toList) = true := by rw [hst, hst', he]; simp
        have HN : Hid (∀ k, k < t + 1 → atL ks k = atL ks' k) := fun k hk => by
          by_cases hkt : k < t
          · exact HE.out k hkt
          · obtain rfl : k = t := by omega
            exact he
        clear he hst hst' HE
        go_wp2_with fail
        go_region
        go_wp2_with fail
        go_roundw
        case rel => exact ⟨t + 1, Nat.succ_le_of_lt hlt, congrArg (Value.int .i64) (Int.natCast_succ t).symm, HN, HB.out.drew⟩
        case measure => simp [intOf]; omega
      · have f1 : (s.toList == s'.toList) = false := by rw [beq_eq_false_iff_ne, hst, hst']; exact he
        have HF : Hid (sameB ⟨lf, ks, vs, is⟩ ⟨lf, ks', vs', is'⟩ = false) := sameB_false fun h => absurd (congrArg (fun n : NodeM => atL n.keys t) h) he
        clear he hst hst' HE
        go_wp2_with fail
        go_region
        go_wp2_with fail
        go_ret
        exact ⟨by rw [HF.out]; rfl, by first | exact HBw.out _ HB.out.drew | (rw [← hr0]; exact HBw.out _ HB.out.drew)⟩
    · obtain rfl : nk = t := by omega
      have HEk : Hid (ks = ks') := list_eq_atL (by rw [HK.out, HK'.out]) (fun k hk => HE.out k (by rw [← HK.out]; exact hk))
      clear HE hlt
      go_wp2_with fail
      clear x0 x1 x2 x3 y0 y1 y2 y3
      go_loopw [6] (fun i wr => ∃ t : Nat, t ≤ nv ∧ i = .int .i64 (t : Int) ∧ Hid (∀ k, k < t → atL vs k = atL vs' k) ∧ Hid (Below w1.heap.size w1 wr)) (fun i _ => nv - (intOf i).toNat)
      case atStart => exact ⟨0, Nat.zero_le _, rfl, fun k hk => absurd hk (Nat.not_lt_zero _), HB⟩
      case round =>
        obtain ⟨t, ht, rfl, HE, HB⟩ := hrel
        obtain ⟨x0, x1, x2, x3⟩ := HX.out wr HB.out
        obtain ⟨y0, y1, y2, y3⟩ := HY.out wr HB.out
        by_cases hlt : t < nv
        · have hl1 : t < vs.length := by rw [HV.out]; exact hlt
          have hl2 : t < vs'.length := by rw [HV'.out]; exact hlt
          obtain ⟨b, o, hA⟩ := H.out.v.spot (Nat.lt_of_le_of_lt (Nat.zero_le t) hl1)
          obtain ⟨b', o', hA'⟩ := H'.out.v.spot (Nat.lt_of_le_of_lt (Nat.zero_le t) hl2)
          subst hA
          subst hA'
          obtain ⟨Ai, ci, hc, hs⟩ := (H.out.below HB.out).v.at t hl1
          obtain ⟨Ai', ci', hc', hs'⟩ := (H'.out.below HB.out).v.at t hl2
          try simp only at hc hs hc' hs'
          rw [← atL_eq vs t hl1] at hc hs
          rw [← atL_eq vs' t hl2] at hc' hs'
          have hrun := run_str (w := wr.drew) (c := ci) hs.1 hs.2.1.drew
          have hrun' := run_str (w := wr.drew) (c := ci') hs'.1 hs'.2.1.drew
          obtain ⟨p, hp⟩ : ∃ p, (atL vs t).length = p := ⟨_, rfl⟩
          obtain ⟨p', hp'⟩ : ∃ p, (atL vs' t).length = p := ⟨_, rfl⟩
          obtain ⟨s, hse⟩ : ∃ s, bstr (atL vs t) = s := ⟨_, rfl⟩
          obtain ⟨s', hse'⟩ : ∃ s, bstr (atL vs' t) = s := ⟨_, rfl⟩
          rw [hp] at hc
          rw [hp'] at hc'
          rw [hp, hse] at hrun
          rw [hp', hse'] at hrun'
          have hst : s.toList = atL vs t := by rw [← hse]; exact bstr_toList _
          have hst' : s'.toList = atL vs' t := by rw [← hse']; exact bstr_toList _
          clear hse hse' hp hp' hs hs' hl1 hl2
          by_cases he : atL vs t = atL vs' t
          · have f1 : (s.toList == s'.toList) = true := by rw [hst, hst', he]; simp
            have HN : Hid (∀ k, k < t + 1 → atL vs k = atL vs' k) := fun k hk => by
              by_cases hkt : k < t
              · exact HE.out k hkt
              · obtain rfl : k = t := by omega
                exact he
            clear he hst hst' HE
            go_wp2_with fail
            go_region
            go_wp2_with fail
            go_roundw
            case rel => exact ⟨t + 1, Nat.succ_le_of_lt hlt, congrArg (Value.int .i64) (Int.natCast_succ t).symm, HN, HB.out.drew⟩
            case measure => simp [intOf]; omega
          · have f1 : (s.toList == s'.toList) = false := by rw [beq_eq_false_iff_ne, hst, hst']; exact he
            have HF : Hid (sameB ⟨lf, ks, vs, is⟩ ⟨lf, ks', vs', is'⟩ = false) := sameB_false fun h => absurd (congrArg (fun n : NodeM => atL n.vals t) h) he
            clear he hst hst' HE
            go_wp2_with fail
            go_region
            go_wp2_with fail
            go_ret
            exact ⟨by rw [HF.out]; rfl, by first | exact HBw.out _ HB.out.drew | (rw [← hr0]; exact HBw.out _ HB.out.drew)⟩
        · obtain rfl : nv = t := by omega
          have HEv : Hid (vs = vs') := list_eq_atL (by rw [HV.out, HV'.out]) (fun k hk => HE.out k (by rw [← HV.out]; exact hk))
          clear HE hlt
          go_wp2_with fail
          clear x0 x1 x2 x3 y0 y1 y2 y3
          go_loopw [7] (fun i wr => ∃ t : Nat, t ≤ ni ∧ i = .int .i64 (t : Int) ∧ Hid (∀ k, k < t → atI is k = atI is' k) ∧ Hid (Below w1.heap.size w1 wr)) (fun i _ => ni - (intOf i).toNat)
          case atStart => exact ⟨0, Nat.zero_le _, rfl, fun k hk => absurd hk (Nat.not_lt_zero _), HB⟩
          case round =>
            obtain ⟨t, ht, rfl, HE, HB⟩ := hrel
            obtain ⟨x0, x1, x2, x3⟩ := HX.out wr HB.out
            obtain ⟨y0, y1, y2, y3⟩ := HY.out wr HB.out
            by_cases hlt : t < ni
            · obtain ⟨b, o, hA, _⟩ := H.out.i.spot (by rw [ints_length]; exact Nat.lt_of_le_of_lt (Nat.zero_le t) (by rw [HI.out]; exact hlt))
              obtain ⟨b', o', hA', _⟩ := H'.out.i.spot (by rw [ints_length]; exact Nat.lt_of_le_of_lt (Nat.zero_le t) (by rw [HI'.out]; exact hlt))
              subst hA
              subst hA'
              have hc := (H.out.below HB.out).i.intAt t (by rw [HI.out]; exact hlt)
              have hc' := (H'.out.below HB.out).i.intAt t (by rw [HI'.out]; exact hlt)
              simp only at hc hc'
              obtain ⟨s, hs⟩ : ∃ s, atI is t = s := ⟨_, rfl⟩
              obtain ⟨s', hs'⟩ : ∃ s, atI is' t = s := ⟨_, rfl⟩
              rw [hs] at hc
              rw [hs'] at hc'
              by_cases he : s = s'
              · have f1 : (s != s') = false := by rw [he]; simp
                have HN : Hid (∀ k, k < t + 1 → atI is k = atI is' k) := fun k hk => by
                  by_cases hkt : k < t
                  · exact HE.out k hkt
                  · obtain rfl : k = t := by omega
                    rw [hs, hs', he]
                clear he hs hs' HE
                go_wp2_with fail
                go_region
                go_wp2_with fail
                go_roundw
                case rel => exact ⟨t + 1, Nat.succ_le_of_lt hlt, congrArg (Value.int .i64) (Int.natCast_succ t).symm, HN, HB.out.drew⟩
                case measure => simp [intOf]; omega
              · have f1 : (s != s') = true := by simpa using he
                have HF : Hid (sameB ⟨lf, ks, vs, is⟩ ⟨lf, ks', vs', is'⟩ = false) := sameB_false fun h => absurd (by rw [← hs, ← hs']; exact congrArg (fun n : NodeM => atI n.kids t) h) he
                clear he hs hs' HE
                go_wp2_with fail
                go_region
                go_wp2_with fail
                go_ret
                exact ⟨by rw [HF.out]; rfl, by first | exact HBw.out _ HB.out.drew | (rw [← hr0]; exact HBw.out _ HB.out.drew)⟩
            · obtain rfl : ni = t := by omega
              have HEi : Hid (is = is') := list_eq_atI (by rw [HI.out, HI'.out]) (fun k hk => HE.out k (by rw [← HI.out]; exact hk))
              have HF : Hid (sameB ⟨lf, ks, vs, is⟩ ⟨lf, ks', vs', is'⟩ = true) := sameB_true (by rw [HEk.out, HEv.out, HEi.out])
              clear HE hlt
              go_wp2_with fail
              go_ret
              exact ⟨by rw [HF.out]; rfl, by first | exact HBw.out _ HB | (rw [← hr0]; exact HBw.out _ HB)⟩
end Go.Proofs.YtibmlgkakeakcaaDoor
/- Regions that draw their order, by hand. -/
set_option linter.unusedSimpArgs false
set_option linter.unusedVariables false
namespace Go.Proofs.YtibmlgkakeakcaaDoor
open Go.RowKit
section
variable {P : Program} {ops : Array Oper} {Q : Exit → Act → World → Prop} {md : Region.Mode} {a : Act} {w : World} {K : Act → World → Prop} {o : Oper} {S S' : World → Prop}
end
end Go.Proofs.YtibmlgkakeakcaaDoor
/- Regions that draw their order, by an invariant that each operation keeps. -/
set_option linter.unusedSimpArgs false
set_option linter.unusedVariables false
namespace Go.Proofs.YtibmlgkakeakcaaDoor
open Go.RowKit
def unlisted (listed : Array Bool) : Nat := listed.toList.countP (fun b => !b)
theorem unlisted_set {listed : Array Bool} {i : Nat} (h : listed.getD i true = false) : unlisted (listed.setIfInBounds i true) + 1 = unlisted listed := by
  obtain ⟨l⟩ := listed
  have hlt : i < l.length := by
    rcases Nat.lt_or_ge i l.length with h' | h'
    · exact h'
    · rw [Array.getD_eq_getD_getElem?, Array.getElem?_eq_none (by simpa using h')] at h; cases h
  have hv : l[i] = false := by
    rw [Array.getD_eq_getD_getElem?] at h
    simpa [hlt] using h
  unfold unlisted
  simp only [List.setIfInBounds_toArray]
  rw [List.countP_set hlt, hv]
  have : 0 < l.countP (fun b => !b) := List.countP_pos_iff.2 ⟨false, by rw [← hv]; exact List.getElem_mem hlt, rfl⟩
  simp
  omega
theorem unlisted_zero {listed : Array Bool} (h : unlisted listed = 0) (i : Nat) : listed.getD i true = true := by
  obtain ⟨l⟩ := listed
  unfold unlisted at h
  rw [List.countP_eq_zero] at h
  rw [Array.getD_eq_getD_getElem?]
  rcases Nat.lt_or_ge i l.length with h' | h'
  · have := h l[i] (List.getElem_mem h')
    simpa [h'] using this
  · simp [Array.getElem?_eq_none, h']
section
variable {P : Program} {ops : Array Oper} {Q : Exit → Act → World → Prop} {md : Region.Mode} {I : Array Bool → Act → World → Prop}
theorem wpAny_inv
    (hstep : ∀ (i : Nat) (o : Oper) (listed : Array Bool) (a : Act) (w : World), ops[i]? = some o → listed.getD i true = false → (∀ e ∈ o.after, Region.binds md e = true → listed.getD e.on false = true) → I listed a w →
      wpOp P ops Q i (fun a' w' => I (listed.setIfInBounds i true) a' w') a w)
    (hend : ∀ (listed : Array Bool) (a : Act) (w : World), Region.ready md ops listed = [] → I listed a w → Q .normal a w) :
    ∀ (fuel : Nat) (listed : Array Bool) (a : Act) (w : World), unlisted listed ≤ fuel → I listed a w → wpAny P md ops Q fuel listed a w := by
  intro fuel
  induction fuel with
  | zero =>
    intro listed a w hu hI
    have hr : Region.ready md ops listed = [] := by
      apply List.eq_nil_iff_forall_not_mem.2
      intro i hi
      have h1 := (mem_ready.1 hi).1
      rw [unlisted_zero (by omega) i] at h1
      cases h1
    exact ⟨hr, hend _ _ _ hr hI⟩
  | succ fuel ih =>
    intro listed a w hu hI
    refine ⟨fun hr => hend _ _ _ hr hI, fun i hi => ?_⟩
    obtain ⟨h1, o, ho, hall⟩ := mem_ready.1 hi
    refine wpOp_mono (fun a' w' h' => ih _ a' w' ?_ h') (hstep i o listed a w ho h1 hall hI)
    have := unlisted_set h1
    omega
def acycB (ops : Array Oper) : Bool := (List.range ops.size).all fun i => match ops[i]? with
  | some o => o.after.all fun e => decide (e.on < i)
  | none => true
theorem ready_nil_all (hac : acycB ops = true) {listed : Array Bool} (hs : listed.size = ops.size) (hr : Region.ready md ops listed = []) (i : Nat) : listed.getD i true = true := by
  induction i using Nat.strongRecOn with
  | ind i ih =>
    cases hv : listed.getD i true
    · exfalso
      have hlt : i < listed.size := by
        rcases Nat.lt_or_ge i listed.size with h' | h'
        · exact h'
        · rw [Array.getD_eq_getD_getElem?, Array.getElem?_eq_none h'] at hv; cases hv
      have hlt2 : i < ops.size := by omega
      have hmem : i ∈ Region.ready md ops listed := by
        refine mem_ready.2 ⟨hv, ops[i], by simp [hlt2], fun e he hb => ?_⟩
        unfold acycB at hac
        rw [List.all_eq_true] at hac
        have h1 := hac i (List.mem_range.2 hlt2)
        rw [Array.getElem?_eq_getElem hlt2] at h1
        simp only at h1
        rw [Array.all_eq_true_iff_forall_mem] at h1
        have h2 := of_decide_eq_true (h1 e he)
        have h3 := ih e.on h2
        have h4 : e.on < listed.size := by omega
        rw [Array.getD_eq_getD_getElem?] at h3 ⊢
        rw [Array.getElem?_eq_getElem h4] at h3 ⊢
        exact h3
      rw [hr] at hmem; cases hmem
    · rfl
theorem wp_region_inv {id : Nat} {a : Act} {w : World} (I : Array Bool → Act → World → Prop) (hm : P.follows .mixedOrders = true)
    (h0 : I (Array.replicate ops.size false) a w.drew)
    (hstep : ∀ (i : Nat) (o : Oper) (listed : Array Bool) (a : Act) (w : World), ops[i]? = some o → listed.getD i true = false → (∀ e ∈ o.after, Region.binds .any e = true → listed.getD e.on false = true) → I listed a w →
      wpOp P ops Q i (fun a' w' => I (listed.setIfInBounds i true) a' w') a w)
    (hend : ∀ (listed : Array Bool) (a : Act) (w : World), Region.ready .any ops listed = [] → I listed a w → Q .normal a w) : (Code.region id ops true).wp P Q a w :=
  wp_region_any hm (wpAny_inv hstep hend _ _ _ _ (by
    unfold unlisted
    rw [Array.toList_replicate, List.countP_replicate]
    simp) h0)
end
end Go.Proofs.YtibmlgkakeakcaaDoor
/- Lists of values: operations alone. -/
set_option linter.unusedSimpArgs false
set_option linter.unusedVariables false
namespace Go.Proofs.YtibmlgkakeakcaaDoor
open Go.RowKit
/-- append of values onto values of one's own, as an operation alone. -/
theorem wp_append_vals {ts t : TypeId} {z : Value} {b : Nat} (E : El ts t z b) {w : World} {o : Oper} {a : Act} {K : Act → World → Prop} {Q : Exit → Act → World → Prop} (s x : Operand)
    (ho : o.op = .call { callee := .builtin .append, args := #[s, x], argTypes := #[ts, ts] })
    (base : Nat) (v : Value) (vs : List Value) (hs : a.eval s = v) (hown : OwnVs w base t v vs)
    (A : Option Addr) (m cx : Nat) (ys : List Value) (hx : a.eval x = .slice A m cx) (hm : m = ys.length) (hnil : A = none → cx = 0) (hU : ValsAt w A ys) (h1 : ∀ u ∈ ys, u.oneCell' = true)
    (hbytes : vs.length + ys.length ≤ 1000000000000) (hbase : base ≤ w.heap.size)
    (h : ∀ v' w', Hid (OwnVs w' base t v' (vs ++ ys) ∧ w.grownBy w' v.ownBlock) → K (a.put o.dst v') w') : o.wp Tryd.prog a w K Q := by
  obtain ⟨i, hi, hz0, hz1, hz2⟩ := info_parts E.i
  subst hm
  cases A with
  | none =>
    have hys : ys = [] := by
      rcases ys with _ | ⟨y, ys⟩
      · rfl
      · obtain ⟨ad, hA, _⟩ := hU 0 (Nat.succ_pos _); cases hA
    subst hys
    have hc := hnil rfl
    subst hc
    have hr := run_append_owned_none (P := Tryd.prog) w base ts o.type t i 1 E.u hi v vs.length vs hown
    unfold Oper.wp execOp
    simp only [ho, resolve, invoke, builtin, Sem.run_bind, Sem.run_pure, Result.andThen_ok, List.map_toArray, List.map_cons, List.map_nil, hs, hx]
    simp only [List.length_nil, hr, Result.andThen_ok]
    exact h v w ⟨by rw [List.append_nil]; exact hown, World.grownBy.refl _ _⟩
  | some ad =>
    have hb24 := E.b24
    refine wp_append_own w s x _ ho base t i z 1 b E.u hi hz0 hz1 hz2 E.z1 (by decide) v vs.length _ hs hown ad ys.length cx ys hx (by rw [Nat.mul_one]) ?_ h1 (by unfold maxLen; omega) ?_ hbase ?_
    · intro j u hj
      have hlt : j < ys.length := (List.getElem?_eq_some_iff.1 hj).1
      obtain ⟨ad', hA, hc⟩ := hU j hlt
      cases hA
      rw [hc]
      rw [List.getElem?_eq_getElem hlt] at hj
      exact hj
    · refine Nat.le_trans (Nat.mul_le_mul hbytes hb24) (by decide)
    · intro v' w' hown' hg hnn
      refine h v' w' ⟨?_, hg⟩
      unfold OwnVs
      rw [List.length_append]
      exact hown'
/-- A whole variable is written, as an operation alone. -/
theorem wp_storeRow {w : World} {o : Oper} {a : Act} {K : Act → World → Prop} {Q : Exit → Act → World → Prop} (t : TypeId) (x y : Operand) (ho : o.op = .store t x y) (r : Nat) (hx : a.eval x = .pointer (some ⟨r, 0, none⟩)) (cs old : List Value) (hy : a.eval y = .agg cs.toArray)
    (hs : (Tryd.prog.info? t).map (·.size) = some cs.length) (hl : old.length = cs.length) (h1 : ∀ v ∈ cs, v.oneCell' = true) (hb : w.heap[r]? = some (.cells old.toArray t (0, 0)))
    (h : ∀ w', Hid (w'.heap[r]? = some (.cells cs.toArray t (0, 0))) → Kept (· = r) w w' → K (a.put o.dst undef) w') : o.wp Tryd.prog a w K Q := by
  have hr := run_storeVar_row (P := Tryd.prog) w r t t old.toArray cs.toArray hb (by simpa using hs) (by simpa using hl) (all_oneCell_toArray h1)
  unfold Oper.wp execOp
  simp only [ho, hx, hy, Instr.storeAt, Instr.sureAddr, Sem.run_bind, Sem.run_pure, Result.andThen_ok, hr]
  exact h _ (setRow_heap w r _ _ t (0, 0) hb) (Kept.setRow w _)
theorem step_of {ops : Array Oper} {o : Oper} {a : Act} {w : World} {K : Act → World → Prop} {Q : Exit → Act → World → Prop} {E : Prop} (hgd : o.guard = none) (h : o.wp Tryd.prog a w K Q) : if Region.wanted o (yielded ops a.tmps) = true then Oper.wp Tryd.prog o a w K Q else E := by
  have hw : Region.wanted o (yielded ops a.tmps) = true := by simp [Region.wanted, hgd]
  rw [if_pos hw]; exact h
/-- append of any bytes onto bytes of one's own, as an operation alone. -/
theorem wp_append_bytesO {w : World} {o : Oper} {a : Act} {K : Act → World → Prop} {Q : Exit → Act → World → Prop} (s x : Operand)
    (ho : o.op = .call { callee := .builtin .append, args := #[s, x], argTypes := #[30, 30] })
    (base : Nat) (v : Value) (l : List UInt8) (hs : a.eval s = v) (hown : OwnB w base v l)
    (A : Option Addr) (m c : Nat) (l' : List UInt8) (hx : a.eval x = .slice A m c) (hm : m = l'.length) (hnil : A = none → c = 0) (hb : Bytes w A l')
    (hbytes : l.length + l'.length ≤ 140737488355328) (hbase : base ≤ w.heap.size)
    (h : ∀ v' w', Hid (OwnB w' base v' (l ++ l') ∧ w.grownBy w' v.ownBlock) → K (a.put o.dst v') w') : o.wp Tryd.prog a w K Q := by
  obtain ⟨i, hi, hz0, hz1, hz2⟩ := info_parts info8
  subst hm
  cases A with
  | some ad =>
    refine wp_append_own w s x _ ho base 5 i (.int .u8 0) 1 1 Tryd.underlying30 hi hz0 hz1 hz2 rfl (by decide) v l.length (cells8 l) hs hown ad l'.length c (cells8 l') hx (by rw [cells8_length, Nat.mul_one]) ?_ (cells8_one l') (by unfold maxLen; omega) (by omega) hbase ?_
    · intro j u hj
      have hlt : j < l'.length := by have := (List.getElem?_eq_some_iff.1 hj).1; rwa [cells8_length] at this
      obtain ⟨ad', hA, hc⟩ := hb j hlt
      cases hA
      rw [cells8_get l' j hlt] at hj
      rw [hc, hj]
    · intro v' w' hown' hg hnn
      refine h v' w' ⟨?_, hg⟩
      unfold OwnB
      rw [List.length_append, cells8_append]
      exact hown'
  | none =>
    have hl : l' = [] := hb.none
    subst hl
    have hc := hnil rfl
    subst hc
    have hr := run_append_owned_none (P := Tryd.prog) w base 30 o.type 5 i 1 Tryd.underlying30 hi v l.length (cells8 l) hown
    unfold Oper.wp execOp
    simp only [ho, resolve, invoke, builtin, Sem.run_bind, Sem.run_pure, Result.andThen_ok, List.map_toArray, List.map_cons, List.map_nil, hs, hx]
    simp only [List.length_nil, hr, Result.andThen_ok]
    exact h v w ⟨by rw [List.append_nil]; exact hown, World.grownBy.refl _ _⟩
end Go.Proofs.YtibmlgkakeakcaaDoor
/- append of one row onto rows of one's own, as an operation alone. -/
set_option linter.unusedSimpArgs false
set_option linter.unusedVariables false
namespace Go.Proofs.YtibmlgkakeakcaaDoor
open Go.RowKit Go.Proofs.YtibmlgkakeakcaaDoor.Crc
theorem wp_append_rowO {w : World} {o : Oper} {a : Act} {K : Act → World → Prop} {Q : Exit → Act → World → Prop} (s x : Operand)
    (ho : o.op = .call { callee := .builtin .append, args := #[s, x], argTypes := #[23, 23] })
    (base : Nat) (v : Value) (ls : List (List UInt8)) (hs : a.eval s = v) (hown : OwnRL w base v ls)
    (ad : Addr) (cx : Nat) (A : Option Addr) (m c : Nat) (l : List UInt8) (hx : a.eval x = .slice (some ad) 1 cx) (hcell : w.cell? (ad.add 0) = some (.slice A m c)) (hb : OwnB w base (.slice A m c) l)
    (hbytes : ls.length ≤ 1000000) (hbase : base ≤ w.heap.size)
    (h : ∀ v' w', Hid (OwnRL w' base v' (ls ++ [l]) ∧ w.grownBy w' v.ownBlock) → K (a.put o.dst v') w') : o.wp Tryd.prog a w K Q := by
  obtain ⟨i, hi, hz0, hz1, hz2⟩ := info_parts infoRow
  obtain ⟨vs, h1, h2⟩ := hown
  have hm := hb.len
  subst hm
  refine wp_append_own w s x _ ho base 30 i (.slice none 0 0) 1 24 Tryd.underlying23 hi hz0 hz1 hz2 rfl (by decide) v ls.length vs hs h1 ad 1 cx [.slice A l.length c] hx rfl ?_ (by simp; rfl) (by unfold maxLen; omega) (by omega) hbase ?_
  · intro j u hj
    match j, hj with
    | 0, hj => simp at hj; rw [hcell, hj]
    | j + 1, hj => simp at hj
  · intro v' w' hown' hg hnn
    refine h v' w' ⟨⟨vs ++ [.slice A l.length c], by rw [List.length_append]; exact hown', ?_⟩, hg⟩
    have hvl : vs.length = ls.length := by have := h1.1; omega
    intro i hi
    rw [List.length_append, List.length_singleton] at hi
    by_cases hlt : i < ls.length
    · obtain ⟨Ai, ci, h3, h4⟩ := h2 i hlt
      refine ⟨Ai, ci, ?_, ?_⟩
      · rw [List.getElem?_append_left (by omega), h3, List.getElem_append_left hlt]
      · rw [List.getElem_append_left hlt]
        exact h4.grown hg (ownsRow_apart h4 h1 (by decide))
    · obtain rfl : i = ls.length := by omega
      refine ⟨A, c, ?_, ?_⟩
      · rw [List.getElem?_append_right (by omega), hvl]; simp
      · simp only [List.getElem_append_right (Nat.le_refl _), Nat.sub_self, List.getElem_cons_zero]
        exact hb.grown hg (ownsRow_apart hb h1 (by decide))
end Go.Proofs.YtibmlgkakeakcaaDoor
/- The walk of copied: a node of its own memory. -/
set_option linter.unusedSimpArgs false
set_option linter.unusedVariables false
namespace Go.Proofs.YtibmlgkakeakcaaDoor
open Go.RowKit Go.Proofs.YtibmlgkakeakcaaDoor.Crc
theorem OwnVs.grown {w w' : World} {base : Nat} {t : TypeId} {v : Value} {vs : List Value} {row : Option Nat} (h : OwnVs w base t v vs) (hg : w.grownBy w' row) (hne : v.ownBlock = none ∨ v.ownBlock ≠ row) : OwnVs w' base t v vs := World.ownsRow.kept h hg hne
theorem ownVs_apart {w : World} {base base' : Nat} {t t' : TypeId} {v v' : Value} {vs vs' : List Value} (h : OwnVs w base t v vs) (h' : OwnVs w base' t' v' vs') (he : t ≠ t') : v.ownBlock = none ∨ v.ownBlock ≠ v'.ownBlock := ownsRow_apart h h' he
theorem ownVs_not {w : World} {base p : Nat} {t T : TypeId} {v : Value} {vs : List Value} {cs : Array Value} (h : OwnVs w base t v vs) (hp : w.heap[p]? = some (.cells cs T (0, 0))) (he : t ≠ T) : ¬ v.ownBlock = some p := fun hv => by
  obtain ⟨cur, hc⟩ := ownsRow_block h hv
  rw [hc] at hp
  injection hp with hp
  injection hp with _ h4
  exact he h4
theorem ownVs_node {w w' : World} {base p : Nat} {t T : TypeId} {v : Value} {vs : List Value} {cs : Array Value} (h : OwnVs w base t v vs) (hg : w.grownBy w' v.ownBlock) (hp : w.heap[p]? = some (.cells cs T (0, 0))) (he : t ≠ T) : w'.heap[p]? = some (.cells cs T (0, 0)) :=
  ((Kept.of_grown (S := fun k => v.ownBlock = some k) hg (fun k hk => hk)).block p (Array.getElem?_eq_some_iff.1 hp).1 (ownVs_not h hp he)).trans hp
/-- A copied node under way: its block, its rows. -/
structure CopL (B p : Nat) (w1 : World) (lf : Bool) (x11 x15 : Value) (ks : List (List UInt8)) (vs : List (List UInt8)) (is : List Int) (t : Nat) (v : Value) (w : World) : Prop where
  blk : w.heap[p]? = some (.cells #[.bool lf, x11, v, x15] 28 (0, 0))
  v : OwnRL w B v (vs.take t)
  k : OwnVs w B 9 x11 (strs ks)
  i : OwnVs w B 3 x15 (ints is)
  be : Below B w1 w
theorem ownRL_not {w : World} {base p : Nat} {T : TypeId} {v : Value} {ls : List (List UInt8)} {cs : Array Value} (h : OwnRL w base v ls) (hp : w.heap[p]? = some (.cells cs T (0, 0))) (he : 30 ≠ T) : ¬ v.ownBlock = some p := fun hv => by
  obtain ⟨vs, h1, _⟩ := h
  obtain ⟨cur, hc⟩ := ownsRow_block h1 hv
  rw [hc] at hp
  injection hp with hp
  injection hp with _ h4
  exact he h4
theorem OwnRL.keptBy {S : Nat → Prop} {w w' : World} {base : Nat} {v : Value} {ls : List (List UInt8)} (h : OwnRL w base v ls) (hk : Kept S w w') (hs : ∀ k cs, S k → w.heap[k]? = some (.cells cs 30 (0, 0)) → False) (hs8 : ∀ k cs, S k → w.heap[k]? = some (.cells cs 5 (0, 0)) → False) : OwnRL w' base v ls := by
  obtain ⟨vs, h1, h2⟩ := h
  refine ⟨vs, ⟨h1.1, ?_⟩, fun i hi => ?_⟩
  · rcases h1.2 with a | ⟨g, cap, cur, a1, a2, a3, r⟩
    · exact .inl a
    · exact .inr ⟨g, cap, cur, a1, a2, by rw [hk.block g ((Array.getElem?_eq_some_iff.1 a3).1) (fun hS => hs g cur hS a3)]; exact a3, r⟩
  · obtain ⟨A, c, h3, h4⟩ := h2 i hi
    refine ⟨A, c, h3, h4.kept hk (fun k hk' hS => ?_)⟩
    obtain ⟨cur, hc⟩ := ownsRow_block h4 hk'
    exact hs8 k cur hS hc
/-- The row's bytes are copied: what stands then. -/
theorem CopL.cell {B p : Nat} {w1 : World} {lf : Bool} {x11 x15 : Value} {ks vs : List (List UInt8)} {is : List Int} {t : Nat} {v : Value} {wr w5 : World} (h : CopL B p w1 lf x11 x15 ks vs is t v wr) {l : List UInt8} {A5 : Option Addr} {m c5 : Nat}
    (hO : OwnB (wr.drew.alloc (.cells #[] 5)) wr.heap.size (.slice (some ⟨wr.heap.size, 0, none⟩) 0 0) []) (hB : Below wr.heap.size wr (wr.drew.alloc (.cells #[] 5)))
    (h5 : OwnB w5 wr.heap.size (.slice A5 m c5) ([] ++ l) ∧ (wr.drew.alloc (.cells #[] 5)).grownBy w5 (Value.slice (some ⟨wr.heap.size, 0, none⟩) 0 0).ownBlock) (hm : l.length = m) (hBs : B ≤ wr.heap.size) :
    w5.cell? ⟨p, 2, none⟩ = some v ∧ (w5.alloc (.cells #[.slice A5 m c5] 30)).cell? ⟨p, 2, none⟩ = some v ∧ OwnRL (w5.alloc (.cells #[.slice A5 m c5] 30)) B v (vs.take t) ∧ OwnB (w5.alloc (.cells #[.slice A5 m c5] 30)) B (.slice A5 m c5) l ∧ B ≤ (w5.alloc (.cells #[.slice A5 m c5] 30)).heap.size ∧
      CopL B p w1 lf x11 x15 ks vs is t v (w5.alloc (.cells #[.slice A5 m c5] 30)) := by
  have h1 : Below wr.heap.size wr w5 := hB.grown h5.2 hB.size (fun k hk => (hO.lt k hk).1)
  have h2 : Below w5.heap.size w5 (w5.alloc (.cells #[.slice A5 m c5] 30)) := (Below.refl _ _).alloc (Nat.le_refl _) _
  have h3 : Below wr.heap.size wr (w5.alloc (.cells #[.slice A5 m c5] 30)) := h1.trans (h2.mono h1.size)
  have hc : wr.cell? ⟨p, 2, none⟩ = some v := by rw [cell_of_row _ _ _ _ _ _ h.blk]; rfl
  have hp : p < wr.heap.size := (Array.getElem?_eq_some_iff.1 h.blk).1
  have h5' := h5.1
  rw [List.nil_append] at h5'
  refine ⟨(h1.cell hp).trans hc, (h3.cell hp).trans hc, h.v.below h3, (h5'.base hBs).below h2, Nat.le_trans hBs h3.size, ?_⟩
  exact ⟨(h3.block p hp).trans h.blk, h.v.below h3, h.k.below h3, h.i.below h3, h.be.trans (h3.mono hBs)⟩
/-- The row is put to the others. -/
theorem CopL.put {B p : Nat} {w1 : World} {lf : Bool} {x11 x15 : Value} {ks vs : List (List UInt8)} {is : List Int} {t : Nat} {v v9 : Value} {wr w9 : World} (h : CopL B p w1 lf x11 x15 ks vs is t v wr) {l : List UInt8}
    (h9 : OwnRL w9 B v9 (vs.take t ++ [l]) ∧ wr.grownBy w9 v.ownBlock) (ht : vs.take (t + 1) = vs.take t ++ [l]) :
    w9.cell? ⟨p, 2, none⟩ = some v ∧ w9.frozen? ⟨p, 2, none⟩ = false ∧ (B ≤ wr.heap.size → B ≤ p → CopL B p w1 lf x11 x15 ks vs is (t + 1) v9 (w9.setCell ⟨p, 2, none⟩ v9)) := by
  have hp : p < wr.heap.size := (Array.getElem?_eq_some_iff.1 h.blk).1
  have hk : Kept (fun k => v.ownBlock = some k) wr w9 := Kept.of_grown h9.2 (fun k hk => hk)
  have hnp : ¬ v.ownBlock = some p := ownRL_not h.v h.blk (by decide)
  have hb9 : w9.heap[p]? = some (.cells #[.bool lf, x11, v, x15] 28 (0, 0)) := (hk.block p hp hnp).trans h.blk
  refine ⟨by rw [cell_of_row _ _ _ _ _ _ hb9]; rfl, frozen_of_row _ _ _ _ _ hb9, fun hB hBp => ?_⟩
  have hs : Kept (· = p) w9 (w9.setCell ⟨p, 2, none⟩ v9) := Kept.set1 w9 p 2 v9
  obtain ⟨vs', hv1, _⟩ := h.v
  have hk9 : OwnVs w9 B 9 x11 (strs ks) := h.k.grown h9.2 (ownsRow_apart h.k hv1 (by decide))
  have hi9 : OwnVs w9 B 3 x15 (ints is) := h.i.grown h9.2 (ownsRow_apart h.i hv1 (by decide))
  have hB9 : Below B w1 w9 := h.be.grown h9.2 hB (fun k hk' => h.v.fr k hk')
  refine ⟨?_, ?_, hk9.kept hs (fun k hk' e => ownVs_not hk9 hb9 (by decide) (e ▸ hk')), hi9.kept hs (fun k hk' e => ownVs_not hi9 hb9 (by decide) (e ▸ hk')), hB9.trans (hs.below (Nat.le_trans hB (Kept.of_grown (S := fun _ => True) h9.2 (fun _ _ => trivial)).size) (fun k hk' e => by have e' : k = p := e; omega))⟩
  · simp [World.setCell, Array.getElem?_modify, hb9]
  · rw [ht]
    refine h9.1.keptBy hs (fun k cs hS hc => ?_) (fun k cs hS hc => ?_)
    · rw [show k = p from hS, hb9] at hc; injection hc with hc; injection hc with _ h4; exact absurd h4 (by decide)
    · rw [show k = p from hS, hb9] at hc; injection hc with hc; injection hc with _ h4; exact absurd h4 (by decide)
theorem own_ones {w : World} {base base' : Nat} {t t' : TypeId} {v v' : Value} {vs vs' : List Value} {b : Bool} (h : OwnVs w base t v vs) (h' : OwnVs w base' t' v' vs') : ∀ u ∈ ([.bool b, v, .slice none 0 0, v'] : List Value), u.oneCell' = true := by
  intro u hu
  simp only [List.mem_cons, List.mem_nil_iff, or_false] at hu
  rcases hu with rfl | rfl | rfl | rfl
  · rfl
  · obtain ⟨A, c, rfl, _⟩ := h.sl; rfl
  · rfl
  · obtain ⟨A, c, rfl, _⟩ := h'.sl; rfl
theorem sizeNd : (Tryd.prog.info? 28).map (·.size) = some 4 := by kernel_rfl
theorem run_retNode {w : World} {r : Nat} {a b c d : Value} (h : w.heap[r]? = some (.cells #[a, b, c, d] 28 (0, 0))) : (loadVar 28 ⟨r, 0, none⟩).run Tryd.prog w = .ok (.agg #[a, b, c, d]) w :=
  run_loadVar_row _ _ _ 28 _ (0, 0) _ h Tryd.underlying28 rfl sizeNd
theorem row4_cells {w : World} {r : Nat} {a b c d : Value} {T : TypeId} (h : w.heap[r]? = some (.cells #[a, b, c, d] T (0, 0))) : w.cell? ⟨r, 0, none⟩ = some a ∧ w.cell? ⟨r, 1, none⟩ = some b ∧ w.cell? ⟨r, 2, none⟩ = some c ∧ w.cell? ⟨r, 3, none⟩ = some d :=
  ⟨by rw [cell_of_row _ _ _ _ _ _ h]; rfl, by rw [cell_of_row _ _ _ _ _ _ h]; rfl, by rw [cell_of_row _ _ _ _ _ _ h]; rfl, by rw [cell_of_row _ _ _ _ _ _ h]; rfl⟩
theorem row4_frozen {w : World} {r : Nat} {a b c d : Value} {T : TypeId} (h : w.heap[r]? = some (.cells #[a, b, c, d] T (0, 0))) : w.frozen? ⟨r, 0, none⟩ = false ∧ w.frozen? ⟨r, 1, none⟩ = false ∧ w.frozen? ⟨r, 2, none⟩ = false ∧ w.frozen? ⟨r, 3, none⟩ = false :=
  ⟨frozen_of_row _ _ _ _ _ h, frozen_of_row _ _ _ _ _ h, frozen_of_row _ _ _ _ _ h, frozen_of_row _ _ _ _ _ h⟩
theorem row4_put {w : World} {r : Nat} {a b c d : Value} {T : TypeId} (h : w.heap[r]? = some (.cells #[a, b, c, d] T (0, 0))) (x y z u : Value) : ((((w.setCell ⟨r, 0, none⟩ x).setCell ⟨r, 1, none⟩ y).setCell ⟨r, 2, none⟩ z).setCell ⟨r, 3, none⟩ u).heap[r]? = some (.cells #[x, y, z, u] T (0, 0)) ∧ Kept (· = r) w ((((w.setCell ⟨r, 0, none⟩ x).setCell ⟨r, 1, none⟩ y).setCell ⟨r, 2, none⟩ z).setCell ⟨r, 3, none⟩ u) :=
  ⟨by simp [World.setCell, Array.getElem?_modify, h], (((Kept.set1 w r 0 x).trans (Kept.set1 _ r 1 y)).trans (Kept.set1 _ r 2 z)).trans (Kept.set1 _ r 3 u)⟩
theorem results_cell1 {fn : Func} {t : TypeId} {k r : Nat} {w : World} {v : Value} (hf : fn.results = #[.cell k t]) (tmps : Array Value) (hp : tmps.getD k undef = .pointer (some ⟨r, 0, none⟩))
    (h : (loadVar t ⟨r, 0, none⟩).run Tryd.prog w = .ok v w) : (results fn tmps).run Tryd.prog w = .ok v w := by
  rw [Array.getD_eq_getD_getElem?] at hp
  simp [results, hf, hp, asAddr, h]
end Go.Proofs.YtibmlgkakeakcaaDoor
/- The walk of great: which nodes the laws leave out. -/
set_option linter.unusedSimpArgs false
set_option linter.unusedVariables false
namespace Go.Proofs.YtibmlgkakeakcaaDoor
open Go.RowKit Go.Proofs.YtibmlgkakeakcaaDoor.Crc
/-- A node that the laws ask of. -/
structure Small (n : NodeM) : Prop where
  k : n.keys.length ≤ 200
  v : n.vals.length ≤ 200
  i : n.kids.length ≤ 200
  kl : ∀ k, k < n.keys.length → (atL n.keys k).length ≤ 200
  vl : ∀ k, k < n.vals.length → (atL n.vals k).length ≤ 200
open Classical in
noncomputable def greatB (n : NodeM) : Bool := !decide (Small n)
open Classical in
theorem greatB_true {n : NodeM} (h : ¬ Small n) : greatB n = true := by unfold greatB; simp [h]
open Classical in
theorem greatB_false {n : NodeM} (h : Small n) : greatB n = false := by unfold greatB; simp [h]
open Classical in
theorem greatB_small {n : NodeM} (h : greatB n = false) : Small n := by unfold greatB at h; simpa using h
theorem node_box1 (w : World) (a b c d : Value) (T : TypeId) :
    Below w.heap.size w (w.alloc (.cells #[a, b, c, d] T)) ∧ (w.alloc (.cells #[a, b, c, d] T)).heap[w.heap.size]? = some (.cells #[a, b, c, d] T (0, 0)) :=
  ⟨(Below.refl w.heap.size w).alloc (Nat.le_refl _) _, heap_alloc_new w _⟩
set_option maxRecDepth 10000 in
set_option maxHeartbeats 2000000 in
theorem great_calls {w : World} {n : NodeM} {kA : Option Addr} {kc : Nat} {vA : Option Addr} {vc : Nat} {iA : Option Addr} {ic : Nat} (h : NodeAt w n kA kc vA vc iA ic) :
    Calls Tryd.prog 8 #[.agg #[.bool n.leaf, .slice kA n.keys.length kc, .slice vA n.vals.length vc, .slice iA n.kids.length ic]] w fun e w' => e = .returned (.bool (greatB n)) ∧ Hid (Below w.heap.size w w') := by
  obtain ⟨lf, ks, vs, is⟩ := n
  obtain ⟨hb1, hr1⟩ := node_box1 w (.bool lf) (.slice kA ks.length kc) (.slice vA vs.length vc) (.slice iA is.length ic) 26
  obtain ⟨w1, hw1⟩ : ∃ w1, w.alloc (.cells #[.bool lf, .slice kA ks.length kc, .slice vA vs.length vc, .slice iA is.length ic] 26) = w1 := ⟨_, rfl⟩
  rw [hw1] at hb1 hr1
  have hx := box_cells hr1
  have H := Lib.hid (h.below hb1)
  have HB0 : Hid (Below w.heap.size w w1) := hb1
  have hsz : Hid (w.heap.size ≤ w1.heap.size) := hb1.size
  have HBw : Hid (∀ w', Hid (Below w1.heap.size w1 w') → Hid (Below w.heap.size w w')) := fun w' hb => HB0.out.trans (hb.out.mono hsz.out)
  obtain ⟨r, hr0⟩ : ∃ r, w.heap.size = r := ⟨_, rfl⟩
  rw [hr0] at hx
  have HX := Lib.hid hx
  clear hb1 hr1 hx h
  obtain ⟨x0, x1, x2, x3⟩ := HX.out w1 (Below.refl _ _)
  obtain ⟨nk, hnk⟩ : ∃ k, ks.length = k := ⟨_, rfl⟩
  obtain ⟨nv, hnv⟩ : ∃ k, vs.length = k := ⟨_, rfl⟩
  obtain ⟨ni, hni⟩ : ∃ k, is.length = k := ⟨_, rfl⟩
  have HK := Lib.hid hnk
  have HV := Lib.hid hnv
  have HI := Lib.hid hni
  simp only at hw1 ⊢
  simp only [hnk, hnv, hni] at hw1 HX x1 x2 x3
  rw [hnk, hnv, hni]
  clear hnk hnv hni
  by_cases e1 : 200 < nk
  · have HE : Hid (greatB ⟨lf, ks, vs, is⟩ = true) := greatB_true fun h => by have := h.k; have := HK.out; simp only at *; omega
    have HB1 := HBw.out w1 (Below.refl _ _)
    have f1 : (200 : Int) < (nk : Int) := by omega
    clear e1
    go_enter Tryd.func8, Tryd.ntmps8
    go_wp2_with fail
    go_ret
    exact ⟨by rw [HE.out]; rfl, by first | exact HB1 | (rw [← hr0]; exact HB1)⟩
  have f1 : (nk : Int) ≤ (200 : Int) := by omega
  by_cases e2 : 200 < nv
  · have HE : Hid (greatB ⟨lf, ks, vs, is⟩ = true) := greatB_true fun h => by have := h.v; have := HV.out; simp only at *; omega
    have HB1 := HBw.out w1 (Below.refl _ _)
    have f2 : (200 : Int) < (nv : Int) := by omega
    clear e1 e2
    go_enter Tryd.func8, Tryd.ntmps8
    go_wp2_with fail
    go_ret
    exact ⟨by rw [HE.out]; rfl, by first | exact HB1 | (rw [← hr0]; exact HB1)⟩
  have f2 : (nv : Int) ≤ (200 : Int) := by omega
  by_cases e3 : 200 < ni
  · have HE : Hid (greatB ⟨lf, ks, vs, is⟩ = true) := greatB_true fun h => by have := h.i; have := HI.out; simp only at *; omega
    have HB1 := HBw.out w1 (Below.refl _ _)
    have f3 : (200 : Int) < (ni : Int) := by omega
    clear e1 e2 e3
    go_enter Tryd.func8, Tryd.ntmps8
    go_wp2_with fail
    go_ret
    exact ⟨by rw [HE.out]; rfl, by first | exact HB1 | (rw [← hr0]; exact HB1)⟩
  have f3 : (ni : Int) ≤ (200 : Int) := by omega
  have hk64 : nk ≤ 9223372036854775807 := by omega
  have hv64 : nv ≤ 9223372036854775807 := by omega
  have HL : Hid (nk ≤ 200 ∧ nv ≤ 200 ∧ ni ≤ 200) := by show _ ∧ _; omega
  clear e1 e2 e3
  go_enter Tryd.func8, Tryd.ntmps8
  go_wp2_with fail
  clear hw1 x0 x1 x2 x3 f1 f2 f3
  go_loopw [26] (fun i wr => ∃ t : Nat, t ≤ nk ∧ i = .int .i64 (t : Int) ∧ Hid (∀ k, k < t → (atL ks k).length ≤ 200) ∧ Hid (Below w1.heap.size w1 wr)) (fun i _ => nk - (intOf i).toNat)
  case atStart => exact ⟨0, Nat.zero_le _, rfl, fun k hk => absurd hk (Nat.not_lt_zero _), Below.refl _ _⟩
  case round =>
    obtain ⟨t, ht, rfl, HE, HB⟩ := hrel
    obtain ⟨x0, x1, x2, x3⟩ := HX.out wr HB.out
    by_cases hlt : t < nk
    · have hlt' : t < ks.length := by rw [HK.out]; exact hlt
      obtain ⟨b, o, hA, _⟩ := H.out.k.spot (by rw [strs_length]; exact Nat.lt_of_le_of_lt (Nat.zero_le t) hlt')
      subst hA
      have hc := (H.out.below HB.out).k.strAt t hlt'
      unfold strV at hc
      simp only at hc
      obtain ⟨s, hs⟩ : ∃ s, bstr (atL ks t) = s := ⟨_, rfl⟩
      rw [hs] at hc
      have hsz : s.size = (atL ks t).length := by rw [← hs, bstr_size]
      have HSz := Lib.hid hsz
      clear hs hsz
      by_cases h2 : 200 < s.size
      · have HF : Hid (greatB ⟨lf, ks, vs, is⟩ = true) := greatB_true fun h => by have := h.kl t hlt'; have := HSz.out; simp only at *; omega
        have f1 : (200 : Int) < (s.size : Int) := by omega
        clear h2 hlt'
        go_wp2_with fail
        go_ret
        exact ⟨by rw [HF.out]; rfl, by first | exact HBw.out _ HB.out | (rw [← hr0]; exact HBw.out _ HB.out)⟩
      · have f1 : (s.size : Int) ≤ (200 : Int) := by omega
        have HN : Hid (∀ k, k < t + 1 → (atL ks k).length ≤ 200) := fun k hk => by
          by_cases hkt : k < t
          · exact HE.out k hkt
          · obtain rfl : k = t := by omega
            rw [← HSz.out]; omega
        clear h2 hlt' HE
        go_wp2_with fail
        go_roundw
        case rel => exact ⟨t + 1, Nat.succ_le_of_lt hlt, congrArg (Value.int .i64) (Int.natCast_succ t).symm, HN, HB.out⟩
        case measure => simp [intOf]; omega
    · obtain rfl : nk = t := by omega
      clear hlt
      have HEk := HE
      clear HE
      go_wp2_with fail
      clear x0 x1 x2 x3
      go_loopw [37] (fun i wr => ∃ t : Nat, t ≤ nv ∧ i = .int .i64 (t : Int) ∧ Hid (∀ k, k < t → (atL vs k).length ≤ 200) ∧ Hid (Below w1.heap.size w1 wr)) (fun i _ => nv - (intOf i).toNat)
      case atStart => exact ⟨0, Nat.zero_le _, rfl, fun k hk => absurd hk (Nat.not_lt_zero _), HB⟩
      case round =>
        obtain ⟨t, ht, rfl, HE, HB⟩ := hrel
        obtain ⟨x0, x1, x2, x3⟩ := HX.out wr HB.out
        by_cases hlt : t < nv
        · have hl1 : t < vs.length := by rw [HV.out]; exact hlt
          obtain ⟨b, o, hA⟩ := H.out.v.spot (Nat.lt_of_le_of_lt (Nat.zero_le t) hl1)
          subst hA
          obtain ⟨Ai, ci, hc, hs⟩ := (H.out.below HB.out).v.at t hl1
          try simp only at hc hs
          rw [← atL_eq vs t hl1] at hc hs
          obtain ⟨p, hp⟩ : ∃ p, (atL vs t).length = p := ⟨_, rfl⟩
          rw [hp] at hc
          have HPl := Lib.hid hp
          clear hs hp
          by_cases h2 : 200 < p
          · have HF : Hid (greatB ⟨lf, ks, vs, is⟩ = true) := greatB_true fun h => by have := h.vl t hl1; have := HPl.out; simp only at *; omega
            have f1 : (200 : Int) < (p : Int) := by omega
            clear h2 hl1
            go_wp2_with fail
            go_ret
            exact ⟨by rw [HF.out]; rfl, by first | exact HBw.out _ HB.out | (rw [← hr0]; exact HBw.out _ HB.out)⟩
          · have f1 : (p : Int) ≤ (200 : Int) := by omega
            have HN : Hid (∀ k, k < t + 1 → (atL vs k).length ≤ 200) := fun k hk => by
              by_cases hkt : k < t
              · exact HE.out k hkt
              · obtain rfl : k = t := by omega
                rw [HPl.out]; omega
            clear h2 hl1 HE
            go_wp2_with fail
            go_roundw
            case rel => exact ⟨t + 1, Nat.succ_le_of_lt hlt, congrArg (Value.int .i64) (Int.natCast_succ t).symm, HN, HB.out⟩
            case measure => simp [intOf]; omega
        · obtain rfl : nv = t := by omega
          have HF : Hid (greatB ⟨lf, ks, vs, is⟩ = false) := greatB_false ⟨by rw [HK.out]; exact HL.out.1, by rw [HV.out]; exact HL.out.2.1, by rw [HI.out]; exact HL.out.2.2, fun k hk => HEk.out k (by rw [← HK.out]; exact hk), fun k hk => HE.out k (by rw [← HV.out]; exact hk)⟩
          clear HE hlt
          go_wp2_with fail
          go_ret
          exact ⟨by rw [HF.out]; rfl, by first | exact HBw.out _ HB.out | (rw [← hr0]; exact HBw.out _ HB.out)⟩
end Go.Proofs.YtibmlgkakeakcaaDoor
/- A node under the reader: what stands; a call as an operation alone. -/
set_option linter.unusedSimpArgs false
set_option linter.unusedVariables false
namespace Go.Proofs.YtibmlgkakeakcaaDoor
open Go.RowKit Go.Proofs.YtibmlgkakeakcaaDoor.Crc
/-- A call of a function, by its contract, as an operation alone. -/
theorem wp_goCall {o : Oper} {a : Act} {w : World} {K : Act → World → Prop} {Q : Exit → Act → World → Prop} (f : FuncId) (xs : Array Operand) (ats : Array TypeId) (ho : o.op = .call { callee := .value (.func f), args := xs, argTypes := ats })
    {fn : Func} (hf : Tryd.prog.funcs[f]? = some fn) (hn : (fn.name == "runtime.NumGoroutine") = false) (hb : fn.body.isSome = true) (vs : Array Value) (hv : xs.map a.eval = vs) {R : Ending → World → Prop} (h : Calls Tryd.prog f vs w R)
    (hk : ∀ e w', R e w' → ∃ v, e = .returned v ∧ K (a.put o.dst v) w') : o.wp Tryd.prog a w K Q := by
  have he : execOp a.eval o = callFunc f (#[] ++ xs.map a.eval ++ #[]) := by
    obtain ⟨dst, op, ty, pos, after, guard⟩ := o
    simp only at ho
    subst ho
    rfl
  have hr : (execOp a.eval o).run Tryd.prog w = .ok (.enter f vs) w := by
    rw [he, hv]
    have hn' : ¬ fn.name = "runtime.NumGoroutine" := by simpa using hn
    obtain ⟨c, hb'⟩ := Option.isSome_iff_exists.1 hb
    simp [callFunc, hf, hn', hb']
  unfold Oper.wp
  rw [hr, Oper.upon_enter]
  refine h.mono ?_
  intro e w' hR
  obtain ⟨v, rfl, hK⟩ := hk e w' hR
  exact hK
/-- A row of bytes of one's own, whatever of it is frozen. -/
def RowF (B : Nat) (w : World) (u : Value) (l : List UInt8) : Prop :=
  ∃ g c cur fz, u = .slice (some ⟨g, 0, none⟩) l.length c ∧ B ≤ g ∧ w.heap[g]? = some (.cells cur 5 fz) ∧ Bytes w (some ⟨g, 0, none⟩) l ∧ l.length ≤ c ∧ c ≤ 9223372036854775807
theorem RowF.kept {B : Nat} {S : Nat → Prop} {w w' : World} {u : Value} {l : List UInt8} (h : RowF B w u l) (hk : Kept S w w') (hs : ∀ k cur fz, S k → w.heap[k]? = some (.cells cur 5 fz) → False) : RowF B w' u l := by
  obtain ⟨g, c, cur, fz, h1, h2, h3, h4, h5, h6⟩ := h
  have hlt : g < w.heap.size := (Array.getElem?_eq_some_iff.1 h3).1
  exact ⟨g, c, cur, fz, h1, h2, (hk.block g hlt (fun hS => hs g cur fz hS h3)).trans h3, h4.kept hk (fun ad hA hS => by cases hA; exact hs g cur fz hS h3), h5, h6⟩
theorem bytesWorld_row (w : World) (B : Nat) (hB : B ≤ w.heap.size) (l : List UInt8) (hl : l.length ≤ 1000) : RowF B (Lib.bytesWorld w 5 (bstr l)) (.slice (some ⟨w.heap.size, 0, none⟩) l.length (grownCap w l.length 0 5)) l :=
  ⟨_, _, _, _, rfl, hB, Lib.bytesWorld_at_new w _ _, bytesWorld_bytes w l, grownCap_ge _ _ _ _, Nat.le_trans (grownCap_le_maxLen w l.length 0 _ (by unfold maxLen; omega)) (by unfold maxLen; omega)⟩
/-- '[]byte(s)', as an operation alone. -/
theorem wp_bytes_ofO {w : World} {o : Oper} {a : Act} {K : Act → World → Prop} {Q : Exit → Act → World → Prop} (x : Operand) (ho : o.op = .convert 9 30 x) (B : Nat)
    (l : List UInt8) (y : ByteArray) (hy : y = bstr l) (hx : a.eval x = .string y) (hl : l.length ≤ 1000) (hB : B ≤ w.heap.size)
    (h : ∀ u w', Hid (RowF B w' u l ∧ Below w.heap.size w w') → K (a.put o.dst u) w') : o.wp Tryd.prog a w K Q := by
  subst hy
  unfold Oper.wp execOp
  simp only [ho, hx, run_bytes_of w (bstr l), bstr_size, Sem.run_bind, Result.andThen_ok, Sem.run_pure]
  exact h _ _ ⟨bytesWorld_row w B hB l hl, bytesWorld_below w _⟩
/-- Rows of one's own, in a list of one's own. -/
def OwnRF (w : World) (B : Nat) (v : Value) (ls : List (List UInt8)) : Prop := ∃ us, OwnVs w B 30 v us ∧ us.length = ls.length ∧ ∀ k (h : k < us.length), RowF B w us[k] (atL ls k)
theorem OwnRF.nil (w : World) (B : Nat) : OwnRF w B (.slice none 0 0) [] := ⟨[], World.ownsRow_nil _ _ _ _, rfl, fun k h => absurd h (Nat.not_lt_zero _)⟩
theorem OwnVs.keptT {S : Nat → Prop} {w w' : World} {B : Nat} {t : TypeId} {v : Value} {vs : List Value} (h : OwnVs w B t v vs) (hk : Kept S w w') (hs : ∀ k cs, S k → w.heap[k]? = some (.cells cs t (0, 0)) → False) : OwnVs w' B t v vs :=
  h.kept hk (fun k hv hS => by obtain ⟨cur, hc⟩ := ownsRow_block h hv; exact hs k cur hS hc)
theorem OwnRF.kept {S : Nat → Prop} {w w' : World} {B : Nat} {v : Value} {ls : List (List UInt8)} (h : OwnRF w B v ls) (hk : Kept S w w') (hs : ∀ k cs, S k → w.heap[k]? = some (.cells cs 30 (0, 0)) → False) (hs8 : ∀ k cs fz, S k → w.heap[k]? = some (.cells cs 5 fz) → False) : OwnRF w' B v ls := by
  obtain ⟨us, h1, h2, h3⟩ := h
  exact ⟨us, h1.keptT hk hs, h2, fun k hk' => (h3 k hk').kept hk hs8⟩
theorem OwnRF.rows {w : World} {B n c : Nat} {A : Option Addr} {ls : List (List UInt8)} (h : OwnRF w B (.slice A n c) ls) : RowsB w A ls ∧ n = ls.length ∧ n ≤ c ∧ c ≤ 9223372036854775807 ∧ (A = none → c = 0) := by
  obtain ⟨us, h1, h2, h3⟩ := h
  obtain ⟨A', c', e, h4, h5, h6, h7, h8⟩ := h1.sl
  obtain ⟨rfl, rfl, rfl⟩ : A = A' ∧ n = us.length ∧ c = c' := by simpa using e
  refine ⟨fun i hi => ?_, h2, h6, h7, h4⟩
  obtain ⟨ad, hA, hc⟩ := h5 i (by omega)
  obtain ⟨g, ci, cur, fz, r1, r2, r3, r4, r5, r6⟩ := h3 i (by omega)
  rw [atL_eq ls i hi] at r1 r4 r5
  refine ⟨ad, some ⟨g, 0, none⟩, ci, hA, by rw [hc, r1], rfl, r4, r5, Nat.le_trans r5 r6, fun h => by cases h⟩
theorem Kept.then' {S T : Nat → Prop} {a b c : World} (h : Kept S a b) (k : Kept T b c) (hs : ∀ k, k < a.heap.size → T k → S k) : Kept S a c :=
  ⟨k.os.trans h.os, k.tape.trans h.tape, k.output.trans h.output, Nat.le_trans h.size k.size, fun i hi hS => (k.block i (Nat.lt_of_lt_of_le hi h.size) (fun hT => hS (hs i hi hT))).trans (h.block i hi hS)⟩
theorem PaL.size' {a w : World} {S : Nat → Prop} {B : Nat} (h : Kept S a w) (e : a.heap.size = B) : B ≤ w.heap.size := by rw [← e]; exact h.size
/-- A node under the reader. -/
structure PaL (B p : Nat) (w1 : World) (lf : Bool) (ks vs : List (List UInt8)) (is : List Int) (x1 x2 x3 : Value) (w : World) : Prop where
  blk : w.heap[p]? = some (.cells #[.bool lf, x1, x2, x3] 28 (0, 0))
  k : OwnVs w B 9 x1 (strs ks)
  v : OwnRF w B x2 vs
  i : OwnVs w B 3 x3 (ints is)
  be : Kept (· = p) w1 w
  wl : w1.heap.size = B
/-- Blocks of another type than the node's turn. -/
theorem PaL.keptS {S : Nat → Prop} {B p : Nat} {w1 : World} {lf : Bool} {ks vs : List (List UInt8)} {is : List Int} {x1 x2 x3 : Value} {w w' : World} (h : PaL B p w1 lf ks vs is x1 x2 x3 w) (hk : Kept S w w') (hb : ∀ k, S k → B ≤ k)
    (hs : ∀ k cs t fz, S k → w.heap[k]? = some (.cells cs t fz) → t ≠ 28 ∧ t ≠ 9 ∧ t ≠ 30 ∧ t ≠ 5 ∧ t ≠ 3) : PaL B p w1 lf ks vs is x1 x2 x3 w' :=
  ⟨(hk.block p (Array.getElem?_eq_some_iff.1 h.blk).1 (fun hS => (hs _ _ _ _ hS h.blk).1 rfl)).trans h.blk, h.k.keptT hk (fun k cs hS hc => (hs _ _ _ _ hS hc).2.1 rfl), h.v.kept hk (fun k cs hS hc => (hs _ _ _ _ hS hc).2.2.1 rfl) (fun k cs fz hS hc => (hs _ _ _ _ hS hc).2.2.2.1 rfl),
   h.i.keptT hk (fun k cs hS hc => (hs _ _ _ _ hS hc).2.2.2.2 rfl), h.be.then' hk (fun k hlt hS => by have := hb k hS; have := h.wl; omega), h.wl⟩
theorem PaL.keptR {B p r : Nat} {w1 : World} {lf : Bool} {ks vs : List (List UInt8)} {is : List Int} {x1 x2 x3 : Value} {w w' : World} {cs : Array Value} (h : PaL B p w1 lf ks vs is x1 x2 x3 w) (hk : Kept (· = r) w w') (hr : B ≤ r)
    (hc : w.heap[r]? = some (.cells cs 108 (0, 0))) : PaL B p w1 lf ks vs is x1 x2 x3 w' :=
  h.keptS hk (fun k e => by rw [show k = r from e]; exact hr) (fun k cs' t fz e hc' => by
    rw [show k = r from e, hc] at hc'; injection hc' with hc'; injection hc' with _ ht _; subst ht; decide)
theorem PaL.below {B p : Nat} {w1 : World} {lf : Bool} {ks vs : List (List UInt8)} {is : List Int} {x1 x2 x3 : Value} {w w' : World} (h : PaL B p w1 lf ks vs is x1 x2 x3 w) (hb : Below w.heap.size w w') : PaL B p w1 lf ks vs is x1 x2 x3 w' := by
  have hk : Kept (fun _ => False) w w' := Kept.of_below hb
  exact h.keptS hk (fun k hk => hk.elim) (fun k cs t fz hS hc => hS.elim)
end Go.Proofs.YtibmlgkakeakcaaDoor
/- A node under the reader: each list grows. -/
set_option linter.unusedSimpArgs false
set_option linter.unusedVariables false
namespace Go.Proofs.YtibmlgkakeakcaaDoor
open Go.RowKit Go.Proofs.YtibmlgkakeakcaaDoor.Crc
theorem PaL.grown {B p : Nat} {w1 : World} {lf : Bool} {ks vs : List (List UInt8)} {is : List Int} {x1 x2 x3 : Value} {w w9 : World} (h : PaL B p w1 lf ks vs is x1 x2 x3 w) {t : TypeId} {x : Value} {us : List Value} (hx : OwnVs w B t x us) (hg : w.grownBy w9 x.ownBlock) (ht : t ≠ 28 ∧ t ≠ 108) :
    w9.heap[p]? = some (.cells #[.bool lf, x1, x2, x3] 28 (0, 0)) ∧ Kept (· = p) w1 w9 ∧ Kept (fun k => x.ownBlock = some k) w w9 ∧ (∀ k, x.ownBlock = some k → B ≤ k ∧ ∃ cur, w.heap[k]? = some (.cells cur t (0, 0))) ∧
      ∀ (D : Nat → Prop), (∀ k, D k → k < B ∧ k ≠ p) → ∀ r cs l, w.heap[r]? = some (.cells cs 108 (0, 0)) → RdLB D w r l → RdLB D w9 r l := by
  have hk : Kept (fun k => x.ownBlock = some k) w w9 := Kept.of_grown hg (fun k hk => hk)
  have hb : ∀ k, x.ownBlock = some k → B ≤ k ∧ ∃ cur, w.heap[k]? = some (.cells cur t (0, 0)) := fun k hk => ⟨(World.ownsRow.lt hx k hk).1, ownsRow_block hx hk⟩
  refine ⟨(hk.block p (Array.getElem?_eq_some_iff.1 h.blk).1 (fun hS => ?_)).trans h.blk, h.be.then' hk (fun k hlt hS => by have := (hb k hS).1; have := h.wl; omega), hk, hb, fun D hD r cs l hc hr => RdLB.kept hr hk (fun k hlt hS => ⟨fun e => ?_, .inl (fun hd => by have := (hb k hS).1; have := (hD k hd).1; omega)⟩)⟩
  · obtain ⟨cur, hc⟩ := (hb p hS).2
    rw [h.blk] at hc; injection hc with hc; injection hc with _ h4 _; exact ht.1 h4.symm
  · obtain ⟨cur, hc'⟩ := (hb k hS).2
    rw [e, hc] at hc'; injection hc' with hc'; injection hc' with _ h4 _; exact ht.2 h4.symm
theorem RdLB.set {D : Nat → Prop} {p r i : Nat} {w : World} {l : List UInt8} {cs cs' : Array Value} (h : RdLB D w r l) (hD : ¬ D p) (hp : w.heap[p]? = some (.cells cs 28 (0, 0))) (hr : w.heap[r]? = some (.cells cs' 108 (0, 0))) (v : Value) : RdLB D (w.setCell ⟨p, i, none⟩ v) r l :=
  RdLB.kept h (Kept.set1 w p i v) (fun k hlt e => ⟨fun e2 => by
    rw [show k = p from e] at e2; rw [e2, hr] at hp; injection hp with hp; injection hp with _ h4 _; exact absurd h4 (by decide), .inl (by rw [show k = p from e]; exact hD)⟩)
theorem RdLB.blk {D : Nat → Prop} {r : Nat} {w : World} {l : List UInt8} (h : RdLB D w r l) : ∃ cs, w.heap[r]? = some (.cells cs 108 (0, 0)) := by
  obtain ⟨A, c, h1, _⟩ := h; exact ⟨_, h1⟩
theorem strs_snoc (ks : List (List UInt8)) (k : List UInt8) : strs (ks ++ [k]) = strs ks ++ [strV k] := by unfold strs; simp
theorem ints_snoc (ks : List Int) (k : Int) : ints (ks ++ [k]) = ints ks ++ [intV k] := by unfold ints; simp
theorem PaL.put1 {B p : Nat} {w1 : World} {lf : Bool} {ks vs : List (List UInt8)} {is : List Int} {x1 x2 x3 v9 : Value} {w w9 : World} (h : PaL B p w1 lf ks vs is x1 x2 x3 w) {k : List UInt8} (hg : OwnVs w9 B 9 v9 (strs ks ++ [strV k]) ∧ w.grownBy w9 x1.ownBlock) {D : Nat → Prop} (hD : ∀ k, D k → k < B ∧ k ≠ p) :
    w9.cell? ⟨p, 1, none⟩ = some x1 ∧ w9.frozen? ⟨p, 1, none⟩ = false ∧ PaL B p w1 lf (ks ++ [k]) vs is v9 x2 x3 (w9.setCell ⟨p, 1, none⟩ v9) ∧ ∀ r l, RdLB D w r l → RdLB D (w9.setCell ⟨p, 1, none⟩ v9) r l := by
  obtain ⟨g1, g2, g3, g4, g5⟩ := h.grown h.k hg.2 (by decide)
  have hs : Kept (· = p) w9 (w9.setCell ⟨p, 1, none⟩ v9) := Kept.set1 w9 p 1 v9
  refine ⟨by rw [cell_of_row _ _ _ _ _ _ g1]; rfl, frozen_of_row _ _ _ _ _ g1, ⟨by simp [World.setCell, Array.getElem?_modify, g1], by rw [strs_snoc]; exact hg.1.keptT hs (fun k cs e hc => by rw [show k = p from e, g1] at hc; injection hc with hc; injection hc with _ h4 _; exact absurd h4 (by decide)), (h.v.kept g3 (fun k cs hS hc => by obtain ⟨cur, hc2⟩ := (g4 k hS).2; rw [hc] at hc2; injection hc2 with hc2; injection hc2 with _ h4 _; exact absurd h4 (by decide)) (fun k cs fz hS hc => by obtain ⟨cur, hc2⟩ := (g4 k hS).2; rw [hc] at hc2; injection hc2 with hc2; injection hc2 with _ h4 _; exact absurd h4 (by decide))).kept hs (fun k cs e hc => by rw [show k = p from e, g1] at hc; injection hc with hc; injection hc with _ h4 _; exact absurd h4 (by decide)) (fun k cs fz e hc => by rw [show k = p from e, g1] at hc; injection hc with hc; injection hc with _ h4 _; exact absurd h4 (by decide)), (h.i.keptT g3 (fun k cs hS hc => by obtain ⟨cur, hc2⟩ := (g4 k hS).2; rw [hc] at hc2; injection hc2 with hc2; injection hc2 with _ h4 _; exact absurd h4 (by decide))).keptT hs (fun k cs e hc => by rw [show k = p from e, g1] at hc; injection hc with hc; injection hc with _ h4 _; exact absurd h4 (by decide)), g2.trans hs, h.wl⟩, fun r l hr => ?_⟩
  · obtain ⟨cs, hc⟩ := hr.blk
    have h9 := g5 D hD r cs l hc hr
    obtain ⟨cs', hc'⟩ := h9.blk
    exact h9.set (fun hd => (hD p hd).2 rfl) g1 hc' v9
theorem PaL.put2 {B p : Nat} {w1 : World} {lf : Bool} {ks vs : List (List UInt8)} {is : List Int} {x1 x2 x3 v9 : Value} {w w9 : World} (h : PaL B p w1 lf ks vs is x1 x2 x3 w) {u : Value} {v : List UInt8} {us : List Value} (hus : OwnVs w B 30 x2 us) (hul : us.length = vs.length) (hur : ∀ k (h : k < us.length), RowF B w us[k] (atL vs k)) (hu : RowF B w u v) (hg : OwnVs w9 B 30 v9 (us ++ [u]) ∧ w.grownBy w9 x2.ownBlock) {D : Nat → Prop} (hD : ∀ k, D k → k < B ∧ k ≠ p) :
    w9.cell? ⟨p, 2, none⟩ = some x2 ∧ w9.frozen? ⟨p, 2, none⟩ = false ∧ PaL B p w1 lf ks (vs ++ [v]) is x1 v9 x3 (w9.setCell ⟨p, 2, none⟩ v9) ∧ ∀ r l, RdLB D w r l → RdLB D (w9.setCell ⟨p, 2, none⟩ v9) r l := by
  obtain ⟨g1, g2, g3, g4, g5⟩ := h.grown hus hg.2 (by decide)
  have hs : Kept (· = p) w9 (w9.setCell ⟨p, 2, none⟩ v9) := Kept.set1 w9 p 2 v9
  refine ⟨by rw [cell_of_row _ _ _ _ _ _ g1]; rfl, frozen_of_row _ _ _ _ _ g1, ⟨by simp [World.setCell, Array.getElem?_modify, g1], (h.k.keptT g3 (fun k cs hS hc => by obtain ⟨cur, hc2⟩ := (g4 k hS).2; rw [hc] at hc2; injection hc2 with hc2; injection hc2 with _ h4 _; exact absurd h4 (by decide))).keptT hs (fun k cs e hc => by rw [show k = p from e, g1] at hc; injection hc with hc; injection hc with _ h4 _; exact absurd h4 (by decide)), ⟨us ++ [u], hg.1.keptT hs (fun k cs e hc => by rw [show k = p from e, g1] at hc; injection hc with hc; injection hc with _ h4 _; exact absurd h4 (by decide)), by simp [hul], fun k hk => ?_⟩, (h.i.keptT g3 (fun k cs hS hc => by obtain ⟨cur, hc2⟩ := (g4 k hS).2; rw [hc] at hc2; injection hc2 with hc2; injection hc2 with _ h4 _; exact absurd h4 (by decide))).keptT hs (fun k cs e hc => by rw [show k = p from e, g1] at hc; injection hc with hc; injection hc with _ h4 _; exact absurd h4 (by decide)), g2.trans hs, h.wl⟩, fun r l hr => ?_⟩
  · have hr : RowF B w (us ++ [u])[k] (atL (vs ++ [v]) k) := by
      by_cases hlt : k < us.length
      · rw [List.getElem_append_left hlt]
        have := hur k hlt
        unfold atL at this ⊢
        rw [List.getD_eq_getElem?_getD, List.getElem?_append_left (by omega), ← List.getD_eq_getElem?_getD]; exact this
      · have e : k = us.length := by simp at hk; omega
        subst e
        rw [List.getElem_append_right (Nat.le_refl _)]
        simp only [Nat.sub_self, List.getElem_cons_zero]
        unfold atL
        rw [List.getD_eq_getElem?_getD, hul, List.getElem?_append_right (Nat.le_refl _)]
        simpa using hu
    exact (hr.kept g3 (fun k cs fz hS hc => by obtain ⟨cur, hc2⟩ := (g4 k hS).2; rw [hc] at hc2; injection hc2 with hc2; injection hc2 with _ h4 _; exact absurd h4 (by decide))).kept hs (fun k cs fz e hc => by rw [show k = p from e, g1] at hc; injection hc with hc; injection hc with _ h4 _; exact absurd h4 (by decide))
  · obtain ⟨cs, hc⟩ := hr.blk
    have h9 := g5 D hD r cs l hc hr
    obtain ⟨cs', hc'⟩ := h9.blk
    exact h9.set (fun hd => (hD p hd).2 rfl) g1 hc' v9
theorem PaL.put3 {B p : Nat} {w1 : World} {lf : Bool} {ks vs : List (List UInt8)} {is : List Int} {x1 x2 x3 v9 : Value} {w w9 : World} (h : PaL B p w1 lf ks vs is x1 x2 x3 w) {k : Int} (hg : OwnVs w9 B 3 v9 (ints is ++ [intV k]) ∧ w.grownBy w9 x3.ownBlock) {D : Nat → Prop} (hD : ∀ k, D k → k < B ∧ k ≠ p) :
    w9.cell? ⟨p, 3, none⟩ = some x3 ∧ w9.frozen? ⟨p, 3, none⟩ = false ∧ PaL B p w1 lf ks vs (is ++ [k]) x1 x2 v9 (w9.setCell ⟨p, 3, none⟩ v9) ∧ ∀ r l, RdLB D w r l → RdLB D (w9.setCell ⟨p, 3, none⟩ v9) r l := by
  obtain ⟨g1, g2, g3, g4, g5⟩ := h.grown h.i hg.2 (by decide)
  have hs : Kept (· = p) w9 (w9.setCell ⟨p, 3, none⟩ v9) := Kept.set1 w9 p 3 v9
  refine ⟨by rw [cell_of_row _ _ _ _ _ _ g1]; rfl, frozen_of_row _ _ _ _ _ g1, ⟨by simp [World.setCell, Array.getElem?_modify, g1], (h.k.keptT g3 (fun k cs hS hc => by obtain ⟨cur, hc2⟩ := (g4 k hS).2; rw [hc] at hc2; injection hc2 with hc2; injection hc2 with _ h4 _; exact absurd h4 (by decide))).keptT hs (fun k cs e hc => by rw [show k = p from e, g1] at hc; injection hc with hc; injection hc with _ h4 _; exact absurd h4 (by decide)), (h.v.kept g3 (fun k cs hS hc => by obtain ⟨cur, hc2⟩ := (g4 k hS).2; rw [hc] at hc2; injection hc2 with hc2; injection hc2 with _ h4 _; exact absurd h4 (by decide)) (fun k cs fz hS hc => by obtain ⟨cur, hc2⟩ := (g4 k hS).2; rw [hc] at hc2; injection hc2 with hc2; injection hc2 with _ h4 _; exact absurd h4 (by decide))).kept hs (fun k cs e hc => by rw [show k = p from e, g1] at hc; injection hc with hc; injection hc with _ h4 _; exact absurd h4 (by decide)) (fun k cs fz e hc => by rw [show k = p from e, g1] at hc; injection hc with hc; injection hc with _ h4 _; exact absurd h4 (by decide)), by rw [ints_snoc]; exact hg.1.keptT hs (fun k cs e hc => by rw [show k = p from e, g1] at hc; injection hc with hc; injection hc with _ h4 _; exact absurd h4 (by decide)), g2.trans hs, h.wl⟩, fun r l hr => ?_⟩
  · obtain ⟨cs, hc⟩ := hr.blk
    have h9 := g5 D hD r cs l hc hr
    obtain ⟨cs', hc'⟩ := h9.blk
    exact h9.set (fun hd => (hD p hd).2 rfl) g1 hc' v9
end Go.Proofs.YtibmlgkakeakcaaDoor
/- Regions that draw their order and whose last operation writes what an earlier one reads, by hand. -/
set_option linter.unusedSimpArgs false
set_option linter.unusedVariables false
namespace Go.Proofs.YtibmlgkakeakcaaDoor
open Go.RowKit
section
variable {P : Program} {ops : Array Oper} {Q : Exit → Act → World → Prop} {md : Region.Mode} {S : World → Prop}
/-- Whatever order is picked from here on, and S holds behind every operation but number m. -/
def wpAnyM (P : Program) (md : Region.Mode) (ops : Array Oper) (Q : Exit → Act → World → Prop) (S : World → Prop) (m : Nat) : Nat → Array Bool → Act → World → Prop
  | 0, listed, a, w => Region.ready md ops listed = [] ∧ Q .normal a w
  | fuel + 1, listed, a, w =>
    (Region.ready md ops listed = [] → Q .normal a w) ∧
    ∀ i ∈ Region.ready md ops listed, wpOp P ops Q i (fun a' w' => (i = m ∨ S w') ∧ wpAnyM P md ops Q S m fuel (listed.setIfInBounds i true) a' w') a w
theorem wpAny_of_M {m : Nat} : ∀ (fuel : Nat) (listed : Array Bool) (a : Act) (w : World), wpAnyM P md ops Q S m fuel listed a w → wpAny P md ops Q fuel listed a w
  | 0, _, _, _, h => h
  | fuel + 1, _, _, _, h => ⟨h.1, fun i hi => wpOp_mono (fun a' w' h' => wpAny_of_M fuel _ a' w' h'.2) (h.2 i hi)⟩
/-- Operations that wait for i: the list is closed. -/
def waitB (md : Region.Mode) (ops : Array Oper) (i : Nat) (D : List Nat) : Bool :=
  D.all fun j => j == i || match ops[j]? with
    | some oj => oj.after.any fun e => Region.binds md e && D.contains e.on
    | none => false
def unlB (listed : Array Bool) (D : List Nat) : Bool := D.all fun j => !listed.getD j true
theorem unlB_spec {listed : Array Bool} {D : List Nat} (h : unlB listed D = true) (j : Nat) (hj : j ∈ D) : listed.getD j true = false := by
  unfold unlB at h
  rw [List.all_eq_true] at h
  simpa using h j hj
theorem wait_not_ready {listed : Array Bool} {i j : Nat} {D : List Nat} (hD : waitB md ops i D = true) (hu : unlB listed D = true) (hj : j ∈ D) (hji : j ≠ i) : j ∉ Region.ready md ops listed := by
  intro hr
  obtain ⟨_, oj, hoj, hall⟩ := mem_ready.1 hr
  unfold waitB at hD
  rw [List.all_eq_true] at hD
  have h := hD j hj
  simp only [hoj, Bool.or_eq_true, beq_iff_eq, hji, false_or] at h
  obtain ⟨e, he, hb⟩ := Array.any_eq_true'.1 h
  simp only [Bool.and_eq_true, List.contains_iff_mem] at hb
  have h1 := hall e he hb.1
  have h2 := unlB_spec hu e.on hb.2
  rcases Nat.lt_or_ge e.on listed.size with h' | h'
  · simp [h'] at h1 h2; rw [h2] at h1; cases h1
  · simp [Array.getElem?_eq_none h'] at h1
theorem unlB_set {listed : Array Bool} {D : List Nat} {j : Nat} (hu : unlB listed D = true) (hj : j ∉ D) : unlB (listed.setIfInBounds j true) D = true := by
  unfold unlB
  rw [List.all_eq_true]
  intro k hk
  have hkj : j ≠ k := fun h => hj (h ▸ hk)
  rw [getD_set_ne true hkj, unlB_spec hu k hk]
  rfl
theorem wpAnyM_first {m i : Nat} {oi : Oper} {v : Value} (D : List Nat) (hD : waitB md ops i D = true) (hmD : m ∈ D) (hiD : i ∈ D) (hmi : m ≠ i) (hi : ops[i]? = some oi) (hsel : ∀ (j : Nat) (o : Oper) cs b, ops[j]? = some o → o.op ≠ .select cs b)
    (hQ : ∀ c a w, Q (.panic c) (a.put oi.dst v) w → Q (.panic c) a w) :
    ∀ (fuel : Nat) (listed : Array Bool) (a : Act) (w : World), unlB listed D = true →
      (∀ j oj, ops[j]? = some oj → j ≠ i → listed.getD j true = false → (∀ e ∈ oj.after, Region.binds md e = true → e.on ≠ i) → oi.apart ops oj = true) →
      i ∈ Region.ready md ops listed → YieldsIf P ops S oi v a → S w →
      wpAnyM P md ops Q S m fuel (listed.setIfInBounds i true) (a.put oi.dst v) w → wpAnyM P md ops Q S m (fuel + 1) listed a w := by
  intro fuel
  induction fuel with
  | zero =>
    intro listed a w _ _ hr hy hS H
    refine ⟨fun h => (by rw [h] at hr; cases hr), fun j hj => ?_⟩
    by_cases hji : j = i
    · subst hji; exact hy.wpOp hi hS ⟨.inr hS, H⟩
    · have := ready_mono hj hji
      rw [H.1] at this
      cases this
  | succ fuel ih =>
    intro listed a w hu hfree hr hy hS H
    refine ⟨fun h => (by rw [h] at hr; cases hr), fun j hj => ?_⟩
    by_cases hji : j = i
    · subst hji; exact hy.wpOp hi hS ⟨.inr hS, H⟩
    · have hjD : j ∉ D := fun h => wait_not_ready hD hu h hji hj
      have hjm : j ≠ m := fun h => hjD (h ▸ hmD)
      have h1 := H.2 j (ready_mono hj hji)
      obtain ⟨hjun, oj, hoj, hall⟩ := mem_ready.1 hj
      have hnot : ∀ e ∈ oj.after, Region.binds md e = true → e.on ≠ i := fun e he hb heq => by
        have h1 := hall e he hb
        have h0 := (mem_ready.1 hr).1
        rw [heq] at h1
        rcases Nat.lt_or_ge i listed.size with h' | h'
        · simp [h'] at h0 h1; rw [h0] at h1; cases h1
        · simp [Array.getElem?_eq_none h'] at h1
      have h2 := wpOp_putIf hoj (hfree j oj hoj hji hjun hnot) (fun cs b => hsel i oi cs b hi) (fun cs b => hsel j oj cs b hoj) hQ hy h1
      have hfree' : ∀ k ok, ops[k]? = some ok → k ≠ i → (listed.setIfInBounds j true).getD k true = false →
          (∀ e ∈ ok.after, Region.binds md e = true → e.on ≠ i) → oi.apart ops ok = true := fun k ok hk hki hun hno => by
        refine hfree k ok hk hki ?_ hno
        by_cases hjk : j = k
        · subst hjk; exact hjun
        · rw [getD_set_ne true hjk] at hun; exact hun
      refine wpOp_mono (fun a' w' h3 => ?_) h2
      have hS' : S w' := by rcases h3.2.1 with h | h; exact absurd h hjm; exact h
      refine ⟨.inr hS', ih (listed.setIfInBounds j true) a' w' (unlB_set hu hjD) hfree' (ready_mono hr (Ne.symm hji)) h3.1 hS' ?_⟩
      rw [Array.setIfInBounds_comm _ _ hji]
      exact h3.2.2
variable {a : Act} {w : World} {o : Oper}
/-- Number i is taken first, that all of D wait for, number m among them. -/
theorem mTake {m i : Nat} {oi : Oper} {v : Value} {fuel : Nat} {listed : Array Bool} (dst : Option Tmp) (D : List Nat) (hD : waitB md ops i D = true) (hm : D.contains m = true) (hiD : D.contains i = true) (hmi : m ≠ i) (hu : unlB listed D = true) (hi : ops[i]? = some oi) (hd : oi.dst = dst)
    (hs : Region.noSelect ops = true) (hf : Region.free md ops listed i = true) (hr : (Region.ready md ops listed).contains i = true)
    (hQ : ∀ c a w, Q (.panic c) (a.put dst v) w → Q (.panic c) a w) (hy : YieldsIf P ops S oi v a) (hS : S w)
    (h : wpAnyM P md ops Q S m fuel (listed.setIfInBounds i true) (a.put dst v) w) : wpAnyM P md ops Q S m (fuel + 1) listed a w := by
  subst hd
  exact wpAnyM_first D hD (by simpa using hm) (by simpa using hiD) hmi hi (Region.noSelect_spec hs) hQ fuel listed a w hu (Region.free_spec hi hf) (by simpa using hr) hy hS h
/-- What yields in whatever world is taken first, whoever waits for it. -/
theorem mAnyTake {m i : Nat} {oi : Oper} {v : Value} {fuel : Nat} {listed : Array Bool} (dst : Option Tmp) (D : List Nat) (hD : waitB md ops i D = true) (hm : D.contains m = true) (hiD : D.contains i = true) (hmi : m ≠ i) (hu : unlB listed D = true) (hi : ops[i]? = some oi) (hd : oi.dst = dst)
    (hs : Region.noSelect ops = true) (hf : Region.free md ops listed i = true) (hr : (Region.ready md ops listed).contains i = true)
    (hQ : ∀ c a w, Q (.panic c) (a.put dst v) w → Q (.panic c) a w) (hy : Yields P ops oi v a) (hS : S w)
    (h : wpAnyM P md ops Q S m fuel (listed.setIfInBounds i true) (a.put dst v) w) : wpAnyM P md ops Q S m (fuel + 1) listed a w :=
  mTake dst D hD hm hiD hmi hu hi hd hs hf hr hQ hy.yieldsIf hS h
theorem mOne {m i : Nat} {fuel : Nat} {listed : Array Bool} (hr : Region.ready md ops listed = [i]) (ho : ops[i]? = some o)
    (h : ∀ K' : Act → World → Prop, (∀ a w, (i = m ∨ S w) → wpAnyM P md ops Q S m fuel (listed.setIfInBounds i true) a w → K' a w) → if Region.wanted o (yielded ops a.tmps) = true then Oper.wp P o a w K' Q else K' (a.put o.dst undef) w) : wpAnyM P md ops Q S m (fuel + 1) listed a w := by
  refine ⟨fun h0 => absurd (hr ▸ h0) (by simp), hr ▸ ?_⟩
  intro j hj
  simp only [List.mem_singleton] at hj
  subst hj
  exact wpOp_step ho (fun K' hK => h K' (fun a w hS hW => hK a w ⟨hS, hW⟩))
theorem mDone {m : Nat} {listed : Array Bool} (hr : Region.ready md ops listed = []) (h : Q .normal a w) : ∀ fuel, wpAnyM P md ops Q S m fuel listed a w
  | 0 => ⟨hr, h⟩
  | _ + 1 => ⟨fun _ => h, by rw [hr]; simp⟩
theorem wp_region_M {id : Nat} (S : World → Prop) (m : Nat) (hm : P.follows .mixedOrders = true)
    (h : wpAnyM P .any ops Q S m ops.size (Array.replicate ops.size false) a w.drew) : (Code.region id ops true).wp P Q a w :=
  wp_region_any hm (wpAny_of_M _ _ _ _ h)
end
end Go.Proofs.YtibmlgkakeakcaaDoor
/- For the rows: how the arguments of a law read: bytes; the listed table of crc. -/
namespace Go.Proofs.YtibmlgkakeakcaaDoor
open Go.RowKit Go.ChangeShapes Go.WideShapes

theorem open_bytes {H : Type} {enc : TypeId × Value → H} {P : Program} {W : World} {base : Nat} {spare : Nat → Bool} {held : Bool} {t e : TypeId} {a : Option Addr} {len cap : Nat} {d : DataW H} {ps : List MemPlace} {ts : List TypeId} {ds : List (DataW H)} {j : Nat}
    (hsz : (DataW.weightsEach P ts ds).all (· ≤ reachBytes) = true) (ht : ts[j]? = some t) (hd : ds[j]? = some d) (hu : P.underlying t = some (.slice e)) (he : P.underlying e = some (.int .u8)) (hc : P.cellsOf e = 1) (hB : P.bytesOf e = 1)
    (h : DataW.Trod enc P W base spare held t (.slice a len cap) d ps) :
    ∃ l : List UInt8, len = l.length ∧ Bytes W a l ∧ (a = none → cap = 0) ∧ l.length ≤ cap ∧ l.length ≤ 140737488351232 := by
  obtain ⟨fuel, hf⟩ := h
  rcases open_ints hu he hc hf with ⟨hcs, _⟩ | ⟨x, l, c, zs, hcs, _, hl, _, hz, hx, hcell, hwz⟩
  · simp [Value.cells] at hcs
    obtain ⟨rfl, rfl, rfl⟩ := hcs
    exact ⟨[], rfl, Bytes.nil _ _, fun _ => rfl, Nat.le_refl _, by simp⟩
  · simp [Value.cells] at hcs
    obtain ⟨rfl, rfl, rfl⟩ := hcs
    obtain ⟨hx, _⟩ := Prod.mk.inj hx
    subst hx
    have z := sized_slice hsz ht hd hu
    rw [hB] at z
    have hl2 : len ≤ zs.length := by
      rw [hz]
      split
      · exact hl
      · exact Nat.le_refl _
    have h1 : (lits (H := H) .u8 (zs.take len)).length + (lits (H := H) .u8 (zs.drop len)).length = zs.length := by
      simp [lits]
      omega
    rw [h1] at z
    have hlen : ((zs.take len).map fun n => UInt8.ofNat n.toNat).length = len := by simp; omega
    refine ⟨(zs.take len).map fun n => UInt8.ofNat n.toNat, hlen.symm, ?_, (fun h => by cases h), (by rw [hlen]; exact hl), ?_⟩
    · intro i hi
      rw [hlen] at hi
      refine ⟨x, rfl, ?_⟩
      rw [hcell i (by omega)]
      have hi2 : i < zs.length := by omega
      have hw := hwz (zs[i]) (List.getElem_mem hi2)
      have hb : 0 ≤ zs[i] ∧ zs[i] < 256 := by
        simp [Lit.wf, IntKind.min, IntKind.max, IntKind.signed, IntKind.bits] at hw
        omega
      have e2 : at8 ((zs.take len).map fun n => UInt8.ofNat n.toNat) i = UInt8.ofNat (zs[i]).toNat := by
        rw [at8_eq _ _ (by rw [hlen]; exact hi)]
        simp
      rw [e2, List.getD_eq_getElem?_getD, List.getElem?_eq_getElem hi2]
      simp only [Option.getD_some, UInt8.toNat_ofNat']
      congr 3
      omega
    · rw [hlen]
      have : reachBytes = 140737488351232 := by decide
      omega

end Go.Proofs.YtibmlgkakeakcaaDoor
/- For the rows: how an argument of ints reads. -/
namespace Go.Proofs.YtibmlgkakeakcaaDoor
open Go.RowKit Go.ChangeShapes Go.WideShapes
end Go.Proofs.YtibmlgkakeakcaaDoor
/- For the rows: how an argument of slices of bytes reads. -/
set_option linter.unusedSimpArgs false
set_option linter.unusedVariables false
namespace Go.Proofs.YtibmlgkakeakcaaDoor
open Go.RowKit Go.Proofs.YtibmlgkakeakcaaDoor.Crc
open Go.ChangeShapes Go.WideShapes
theorem open_rows {H : Type} {enc : TypeId × Value → H} {P : Program} {W : World} {base : Nat} {held : Bool} {t e q : TypeId} {a : Option Addr} {len cap : Nat} {d : DataW H} {ps : List MemPlace}
    (hu : P.underlying t = some (.slice e)) (he : P.underlying e = some (.slice q)) (hq : P.underlying q = some (.int .u8)) (ce : P.cellsOf e = 1) (cq : P.cellsOf q = 1)
    (h : DataW.Trod enc P W base (fun _ => true) held t (.slice a len cap) d ps) :
    ∃ ls : List (List UInt8), len = ls.length ∧ RowsB W a ls ∧ (a = none → cap = 0) ∧ ls.length ≤ cap ∧ ls.length ≤ 9223372036854775807 := by
  obtain ⟨fuel, hf⟩ := h
  rcases Deep.open_int_rows hu he hq ce cq hf with ⟨hcs, _⟩ | ⟨x, l, c, A, L, C, Z, hcs, _, hl, hm, _, hrow⟩
  · simp [Value.cells] at hcs
    obtain ⟨rfl, rfl, rfl⟩ := hcs
    exact ⟨[], rfl, fun i hi => absurd hi (by simp), fun _ => rfl, Nat.le_refl _, by simp⟩
  · simp [Value.cells] at hcs
    obtain ⟨rfl, rfl, rfl⟩ := hcs
    unfold maxLen at hm
    refine ⟨(List.range len).map fun r => ((Z r).take (L r)).map fun n => UInt8.ofNat n.toNat, by simp, ?_, (fun h => by cases h), by simpa using hl, by simp; omega⟩
    intro i hi
    have hi2 : i < len := by simpa using hi
    obtain ⟨hc, hLC, hCm, hZ, hw, hnil, hcell⟩ := hrow i (by omega)
    unfold maxLen at hCm
    have hlen : (((Z i).take (L i)).map fun n => UInt8.ofNat n.toNat).length = L i := by simp; omega
    refine ⟨x, A i, C i, rfl, ?_, ?_⟩
    · simp only [List.getElem_map, List.getElem_range]
      rw [hlen]; exact hc
    · simp only [List.getElem_map, List.getElem_range]
      rw [hlen]
      refine ⟨hlen.symm, ?_, hLC, by omega, hnil⟩
      intro j hj
      rw [hlen] at hj
      cases hA : A i with
      | none => have := hnil hA; omega
      | some ad =>
        refine ⟨ad, rfl, ?_⟩
        have hx := (hcell ad hA).2 j (by omega)
        rw [hx]
        have hj2 : j < (Z i).length := by omega
        have hwf := hw (Z i)[j] (List.getElem_mem hj2)
        have hb : 0 ≤ (Z i)[j] ∧ (Z i)[j] < 256 := by
          simp [Lit.wf, IntKind.min, IntKind.max, IntKind.signed, IntKind.bits] at hwf
          omega
        have e2 : at8 (((Z i).take (L i)).map fun n => UInt8.ofNat n.toNat) j = UInt8.ofNat ((Z i)[j]).toNat := by
          rw [at8_eq _ _ (by rw [hlen]; exact hj)]
          simp
        rw [e2, List.getD_eq_getElem?_getD, List.getElem?_eq_getElem hj2]
        simp only [Option.getD_some, UInt8.toNat_ofNat']
        congr 3
        omega
end Go.Proofs.YtibmlgkakeakcaaDoor
