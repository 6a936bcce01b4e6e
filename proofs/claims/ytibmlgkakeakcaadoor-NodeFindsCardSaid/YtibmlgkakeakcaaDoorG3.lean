/- The walk of node.Right. -/
import Derived.Test.YtibmlgkakeakcaaDoorG2
import Derived.Deep.RegionHeld3
import Derived.Test.YtibmlgkakeakcaaDoorG1
import Derived.Great.Walk
set_option linter.unusedSimpArgs false
set_option linter.unusedVariables false
namespace Go.Proofs.YtibmlgkakeakcaaDoor
open Go.RowKit Go.Proofs.YtibmlgkakeakcaaDoor.Crc
/-- What a node is boxed as. -/
theorem node_box (w : World) (a b c d : Value) (T : TypeId) : Below w.heap.size w (w.alloc (.cells #[a, b, c, d] T)) ∧ (w.alloc (.cells #[a, b, c, d] T)).heap[w.heap.size]? = some (.cells #[a, b, c, d] T (0, 0)) :=
  ⟨(Below.refl _ _).alloc (Nat.le_refl _) _, heap_alloc_new w _⟩
theorem box_cells {w : World} {r : Nat} {a b c d : Value} {T : TypeId} (h : w.heap[r]? = some (.cells #[a, b, c, d] T (0, 0))) : ∀ w', Below w.heap.size w w' → w'.cell? ⟨r, 0, none⟩ = some a ∧ w'.cell? ⟨r, 1, none⟩ = some b ∧ w'.cell? ⟨r, 2, none⟩ = some c ∧ w'.cell? ⟨r, 3, none⟩ = some d := fun w' hb => by
  have e := (hb.block _ (Array.getElem?_eq_some_iff.1 h).1).trans h
  exact ⟨by rw [cell_of_row _ _ _ _ _ _ e]; rfl, by rw [cell_of_row _ _ _ _ _ _ e]; rfl, by rw [cell_of_row _ _ _ _ _ _ e]; rfl, by rw [cell_of_row _ _ _ _ _ _ e]; rfl⟩
set_option maxRecDepth 10000 in
set_option maxHeartbeats 1000000 in
theorem Right_calls {w : World} {n : NodeM} {kA : Option Addr} {kc : Nat} {vA : Option Addr} {vc : Nat} {iA : Option Addr} {ic : Nat} (h : NodeAt w n kA kc vA vc iA ic) :
    Calls Tryd.prog 14 #[.agg #[.bool n.leaf, .slice kA n.keys.length kc, .slice vA n.vals.length vc, .slice iA n.kids.length ic]] w fun e w' => e = .returned (.bool (rightB n)) ∧ Below w.heap.size w w' := by
  obtain ⟨lf, ks, vs, is⟩ := n
  obtain ⟨hb1, hr1⟩ := node_box w (.bool lf) (.slice kA ks.length kc) (.slice vA vs.length vc) (.slice iA is.length ic) 28
  obtain ⟨w1, hw1⟩ : ∃ w1, w.alloc (.cells #[.bool lf, .slice kA ks.length kc, .slice vA vs.length vc, .slice iA is.length ic] 28) = w1 := ⟨_, rfl⟩
  obtain ⟨r, hr⟩ : ∃ r, w.heap.size = r := ⟨_, rfl⟩
  rw [hw1] at hb1 hr1
  rw [hr] at hr1
  have hx := box_cells hr1
  have H := Lib.hid (h.below hb1)
  rw [hr] at hb1
  have HB := Lib.hid hb1
  obtain ⟨x0, x1, x2, x3⟩ := hx w1 (Below.refl _ _)
  have HX := Lib.hid hx
  clear hb1 hr1 hx h
  obtain ⟨nk, hnk⟩ : ∃ k, ks.length = k := ⟨_, rfl⟩
  have HK := Lib.hid hnk
  obtain ⟨nv, hnv⟩ : ∃ k, vs.length = k := ⟨_, rfl⟩
  have HV := Lib.hid hnv
  obtain ⟨ni, hni⟩ : ∃ k, is.length = k := ⟨_, rfl⟩
  have HI := Lib.hid hni
  have hkm : nk ≤ 9223372036854775807 := by rw [← hnk]; exact Nat.le_trans H.out.kn.2.1 H.out.kn.2.2
  simp only at hw1 ⊢
  rw [hnk, hnv, hni] at hw1 ⊢
  rw [hnk] at x1
  rw [hnv] at x2
  rw [hni] at x3
  clear hnk hnv hni
  go_enter Tryd.func14, Tryd.ntmps14
  go_wp2_with fail
  clear hw1
  go_loop [8] (fun i => ∃ t : Nat, t ≤ nk ∧ i = .int .i64 (t : Int) ∧ Hid (riseK ks t)) (fun i => nk - (intOf i).toNat)
  case atStart => exact ⟨0, Nat.zero_le _, rfl, riseK.zero _⟩
  case round =>
    obtain ⟨t, ht, rfl, HR⟩ := hrel
    by_cases hlt : t < nk
    · have hlt' : t < ks.length := by rw [HK.out]; exact hlt
      obtain ⟨b, o, hA, _⟩ := H.out.k.spot (by rw [strs_length]; exact Nat.lt_of_le_of_lt (Nat.zero_le _) hlt')
      subst hA
      have hc := H.out.k.strAt t hlt'
      simp only at hc
      obtain ⟨s, hs⟩ : ∃ s, bstr (atL ks t) = s := ⟨_, rfl⟩
      unfold strV at hc
      rw [hs] at hc
      have hsz : s.size = (atL ks t).length := by rw [← hs, bstr_size]
      have hst : s.toList = atL ks t := by rw [← hs, bstr_toList]
      have HSz := Lib.hid hsz
      have HSt := Lib.hid hst
      clear hs hsz hst
      by_cases h40 : 40 < s.size
      · have HF : Hid (¬ RightM ⟨lf, ks, vs, is⟩) := fun hr => by
          have := (hr.1 t hlt').1
          rw [← HSz.out] at this; omega
        have d40 : (40 : Int) < (s.size : Int) := by omega
        clear h40 hlt'
        go_wp2_with fail
        go_ret
        exact ⟨by rw [rightB_false HF.out]; rfl, by first | exact HB.out | (rw [hr]; exact HB.out)⟩
      · have d40 : (s.size : Int) ≤ 40 := by omega
        have HL40 : Hid ((atL ks t).length ≤ 40) := by rw [← HSz.out]; show s.size ≤ 40; omega
        clear h40
        by_cases h0 : t = 0
        · subst h0
          rw [Nat.add_zero] at hc
          have HN : Hid (riseK ks 1) := HR.out.succ HL40.out (fun h => absurd h (Nat.lt_irrefl _))
          clear HR hlt' HSz HSt
          go_wp2_with fail
          go_round
          case rel => exact ⟨1, Nat.succ_le_of_lt hlt, by go_num, HN.out⟩
          case measure => simp [intOf]; omega
        · obtain ⟨u, rfl⟩ : ∃ u, t = u + 1 := ⟨t - 1, by omega⟩
          have hc' := H.out.k.strAt u (by simp only; omega)
          obtain ⟨p, hp⟩ : ∃ s, bstr (atL ks u) = s := ⟨_, rfl⟩
          unfold strV at hc'
          simp only at hc'
          rw [hp] at hc'
          have HPt : Hid (p.toList = atL ks u) := by rw [← hp]; exact bstr_toList _
          clear hp h0
          cases hl : ltB (atL ks u) (atL ks (u + 1))
          · have HF : Hid (¬ RightM ⟨lf, ks, vs, is⟩) := fun hr => by
              have := (hr.1 (u + 1) hlt').2 (Nat.succ_pos _)
              simp only [Nat.add_sub_cancel] at this
              rw [hl] at this; cases this
            have hle := leB_not (atL ks (u + 1)) (atL ks u)
            rw [hl, ← HSt.out, ← HPt.out] at hle
            cases f1 : Op.bytesLess s.toList p.toList
            · have f2 : (s.toList == p.toList) = true := by
                unfold ltB at hle
                rw [f1] at hle
                simpa using hle
              clear hle hl hlt' HR HSz HSt HPt HL40
              go_wp2_with fail
              go_ret
              exact ⟨by rw [rightB_false HF.out]; rfl, by first | exact HB.out | (rw [hr]; exact HB.out)⟩
            · clear hle hl hlt' HR HSz HSt HPt HL40
              go_wp2_with fail
              go_ret
              exact ⟨by rw [rightB_false HF.out]; rfl, by first | exact HB.out | (rw [hr]; exact HB.out)⟩
          · have HN : Hid (riseK ks (u + 1 + 1)) := HR.out.succ HL40.out (fun _ => by simpa using hl)
            have hle := leB_not (atL ks (u + 1)) (atL ks u)
            rw [hl, ← HSt.out, ← HPt.out] at hle
            simp only [Bool.not_true, Bool.or_eq_false_iff] at hle
            obtain ⟨f1, f2⟩ := hle
            unfold ltB at f1
            clear hl hlt' HR HSz HSt HPt HL40
            go_wp2_with fail
            go_round
            case rel => exact ⟨u + 1 + 1, Nat.succ_le_of_lt hlt, by go_num, HN.out⟩
            case measure => simp [intOf]; omega
    · obtain rfl : nk = t := by omega
      have HRs : Hid (riseK ks ks.length) := by rw [HK.out]; exact HR.out
      clear HR hlt
      cases lf
      · -- an inner one
        by_cases e1 : ni = nk
        · subst e1
          by_cases e2 : ni = 0
          · subst e2
            have HE : Hid (rightB ⟨false, ks, vs, is⟩ = false) := rightB_false fun hr => by
              have := hr.2.2.1
              rw [show (NodeM.kids ⟨false, ks, vs, is⟩).length = 0 from HI.out] at this
              exact absurd this (Nat.lt_irrefl _)
            rw [show ((0 : Nat) : Int) = (0 : Int) from rfl]
            go_wp2_with fail
            go_ret
            exact ⟨by rw [HE.out]; rfl, by first | exact HB.out | (rw [hr]; exact HB.out)⟩
          · have f2 : ((ni : Int) == 0) = false := by simp; omega
            have hpos : 0 < ni := Nat.pos_of_ne_zero e2
            have hposI : (0 : Int) < (ni : Int) := by omega
            clear e2
            by_cases e3 : nv = 0
            · subst e3
              have hk0 : 0 < ks.length := by rw [HK.out]; exact hpos
              obtain ⟨b, o, hA, _⟩ := H.out.k.spot (by rw [strs_length]; exact hk0)
              subst hA
              have hc := H.out.k.strAt 0 hk0
              simp only [Nat.add_zero] at hc
              obtain ⟨s, hs⟩ : ∃ s, bstr (atL ks 0) = s := ⟨_, rfl⟩
              unfold strV at hc
              rw [hs] at hc
              have HSt : Hid (s.toList = atL ks 0) := by rw [← hs]; exact bstr_toList _
              clear hs hk0
              by_cases e4 : atL ks 0 = []
              · have f4 : (s.toList == []) = true := by rw [HSt.out, e4]; rfl
                have f4' : s.toList = [] := by rw [HSt.out, e4]
                have HE4 := Lib.hid e4
                have HCo := Lib.hid (ContainsK_calls iA ni ic is w1 HI.out.symm H.out.i hkm)
                clear e4 HSt
                go_wp2_with (go_at_call 38; (with_reducible refine HCo.out.mono ?_); rintro e w' ⟨b2, rfl, hb2, rfl⟩; refine park ?_; intro q hq)
                refine hq.out ?_
                clear hq HCo
                have HE : Hid (rightB ⟨false, ks, vs, is⟩ = !b2) := by
                  cases b2
                  · refine rightB_true ⟨HRs.out, ?_⟩
                    show _ ∧ _ ∧ _ ∧ _ ∧ _
                    refine ⟨by show is.length = ks.length; rw [HI.out, HK.out], by show 0 < is.length; rw [HI.out]; exact hpos, HV.out, HE4.out, fun v hv => ?_⟩
                    have hno : ¬ (v < 0 ∨ 2147483647 < v) := fun h => absurd (hb2.out.2 ⟨v, hv, h⟩) (by decide)
                    omega
                  · refine rightB_false fun hr => ?_
                    obtain ⟨v, hv, hlt⟩ := hb2.out.1 rfl
                    have := hr.2.2.2.2.2 v hv
                    omega
                clear hb2
                go_wp2_with fail
                go_ret
                exact ⟨by rw [HE.out]; rfl, by first | exact HB.out | (rw [hr]; exact HB.out)⟩
              · have HE : Hid (rightB ⟨false, ks, vs, is⟩ = false) := rightB_false fun hr => e4 hr.2.2.2.2.1
                have f4 : (s.toList == []) = false := by rw [beq_eq_false_iff_ne, HSt.out]; exact e4
                clear e4 HSt
                go_wp2_with fail
                go_ret
                exact ⟨by rw [HE.out]; rfl, by first | exact HB.out | (rw [hr]; exact HB.out)⟩
            · have HE : Hid (rightB ⟨false, ks, vs, is⟩ = false) := rightB_false fun hr => e3 (by rw [← HV.out]; exact hr.2.2.2.1)
              have f3 : (0 : Int) < (nv : Int) := by omega
              clear e3
              go_wp2_with fail
              go_ret
              exact ⟨by rw [HE.out]; rfl, by first | exact HB.out | (rw [hr]; exact HB.out)⟩
        · have HE : Hid (rightB ⟨false, ks, vs, is⟩ = false) := rightB_false fun hr => e1 (by rw [← HI.out, ← HK.out]; exact hr.2.1)
          have f1 : ((ni : Int) != (nk : Int)) = true := by simp; omega
          clear e1
          go_wp2_with fail
          go_ret
          exact ⟨by rw [HE.out]; rfl, by first | exact HB.out | (rw [hr]; exact HB.out)⟩
      · -- a leaf
        by_cases e1 : nv = nk
        · subst e1
          by_cases e2 : ni = 0
          · subst e2
            have HCo := Lib.hid (ContainsV_calls vA nv vc vs w1 HV.out.symm H.out.v (by rw [← HV.out]; exact Nat.le_trans H.out.vn.2.1 H.out.vn.2.2))
            go_wp2_with (go_at_call 36; (with_reducible refine HCo.out.mono ?_); rintro e w' ⟨b2, rfl, hb2, rfl⟩; refine park ?_; intro q hq)
            refine hq.out ?_
            clear hq HCo
            have HE : Hid (rightB ⟨true, ks, vs, is⟩ = !b2) := by
              cases b2
              · refine rightB_true ⟨HRs.out, ?_⟩
                show _ ∧ _ ∧ _
                refine ⟨by show vs.length = ks.length; rw [HV.out, HK.out], HI.out, fun v hv => Nat.not_lt.1 fun hlt => ?_⟩
                exact absurd (hb2.out.2 ⟨v, hv, hlt⟩) (by decide)
              · refine rightB_false fun hr => ?_
                obtain ⟨v, hv, hlt⟩ := hb2.out.1 rfl
                have := hr.2.2.2 v hv
                omega
            clear hb2
            go_wp2_with fail
            go_ret
            exact ⟨by rw [HE.out]; rfl, by first | exact HB.out | (rw [hr]; exact HB.out)⟩
          · have HE : Hid (rightB ⟨true, ks, vs, is⟩ = false) := rightB_false fun hr => e2 (by rw [← HI.out]; exact hr.2.2.1)
            have f2 : ((ni : Int) == 0) = false := by simp; omega
            clear e2
            go_wp2_with fail
            go_ret
            exact ⟨by rw [HE.out]; rfl, by first | exact HB.out | (rw [hr]; exact HB.out)⟩
        · have HE : Hid (rightB ⟨true, ks, vs, is⟩ = false) := rightB_false fun hr => e1 (by rw [← HV.out, ← HK.out]; exact hr.2.1)
          have f1 : ((nv : Int) == (nk : Int)) = false := by simp; omega
          clear e1
          go_wp2_with fail
          go_ret
          exact ⟨by rw [HE.out]; rfl, by first | exact HB.out | (rw [hr]; exact HB.out)⟩
end Go.Proofs.YtibmlgkakeakcaaDoor
/- The walks of node.cell and sizes. -/
set_option linter.unusedSimpArgs false
set_option linter.unusedVariables false
namespace Go.Proofs.YtibmlgkakeakcaaDoor
open Go.RowKit Go.Proofs.YtibmlgkakeakcaaDoor.Crc
theorem RightM.key {n : NodeM} (h : RightM n) (i : Nat) (hi : i < n.keys.length) : (atL n.keys i).length ≤ 40 := (h.1 i hi).1
theorem RightM.val {n : NodeM} (h : RightM n) (hl : n.leaf = true) (i : Nat) (hi : i < n.keys.length) : i < n.vals.length ∧ (atL n.vals i).length ≤ 49 := by
  have h2 := h.2
  rw [if_pos hl] at h2
  have hi' : i < n.vals.length := by rw [h2.1]; exact hi
  exact ⟨hi', by rw [atL_eq _ _ hi']; exact h2.2.2 _ (List.getElem_mem hi')⟩
theorem RightM.kid {n : NodeM} (h : RightM n) (hl : n.leaf = false) (i : Nat) (hi : i < n.keys.length) : i < n.kids.length ∧ 0 ≤ atI n.kids i ∧ atI n.kids i ≤ 2147483647 := by
  have h2 := h.2
  rw [if_neg (by rw [hl]; decide)] at h2
  have hi' : i < n.kids.length := by rw [h2.1]; exact hi
  exact ⟨hi', by rw [atI_eq _ _ hi']; exact h2.2.2.2.2 _ (List.getElem_mem hi')⟩
theorem cellB_len {n : NodeM} (h : RightM n) (i : Nat) (hi : i < n.keys.length) : (cellB n i).length ≤ 110 := by
  unfold cellB
  have h1 := textB_len (atL n.keys i) (by have := h.key i hi; omega)
  have h2 := h.key i hi
  rw [List.length_append]
  cases hl : n.leaf
  · simp only [Bool.false_eq_true, if_false, fixB_length]; omega
  · have h3 := (h.val hl i hi).2
    have h4 := textB_len (atL n.vals i) (by omega)
    simp only [if_true]; omega
theorem OwnB.slice' {w : World} {base : Nat} {v : Value} {l : List UInt8} (h : OwnB w base v l) : ∃ A c, v = .slice A l.length c := by
  rcases h.form with ⟨rfl, rfl⟩ | ⟨g, c, rfl, _⟩
  · exact ⟨none, 0, rfl⟩
  · exact ⟨_, c, rfl⟩
set_option maxRecDepth 10000 in
set_option maxHeartbeats 1000000 in
theorem ncell_calls {w : World} {n : NodeM} {kA : Option Addr} {kc : Nat} {vA : Option Addr} {vc : Nat} {iA : Option Addr} {ic : Nat} (h : NodeAt w n kA kc vA vc iA ic) (hr : RightM n) (i : Nat) (hi : i < n.keys.length) :
    Calls Tryd.prog 31 #[.agg #[.bool n.leaf, .slice kA n.keys.length kc, .slice vA n.vals.length vc, .slice iA n.kids.length ic], .int .i64 (i : Int)] w fun e w' => ∃ A c, e = .returned (.slice A (cellB n i).length c) ∧ OwnB w' w.heap.size (.slice A (cellB n i).length c) (cellB n i) ∧ Below w.heap.size w w' := by
  obtain ⟨lf, ks, vs, is⟩ := n
  obtain ⟨hb1, hr1⟩ := node_box w (.bool lf) (.slice kA ks.length kc) (.slice vA vs.length vc) (.slice iA is.length ic) 28
  obtain ⟨w1, hw1⟩ : ∃ w1, w.alloc (.cells #[.bool lf, .slice kA ks.length kc, .slice vA vs.length vc, .slice iA is.length ic] 28) = w1 := ⟨_, rfl⟩
  obtain ⟨r, hr0⟩ : ∃ r, w.heap.size = r := ⟨_, rfl⟩
  rw [hw1] at hb1 hr1
  rw [hr0] at hr1
  have hx := box_cells hr1
  have H := Lib.hid (h.below hb1)
  rw [hr0] at hb1
  have HB := Lib.hid hb1
  obtain ⟨x0, x1, x2, x3⟩ := hx w1 (Below.refl _ _)
  have HX := Lib.hid hx
  have HR := Lib.hid hr
  have hrw : r ≤ w1.heap.size := by have := hb1.size; omega
  have hi' : i < ks.length := hi
  obtain ⟨b, o, hA, _⟩ := H.out.k.spot (by rw [strs_length]; exact Nat.lt_of_le_of_lt (Nat.zero_le _) hi)
  subst hA
  have hc := H.out.k.strAt i hi
  simp only at hc
  have hP := PutText_calls w1.heap.size (.slice none 0 0) [] (atL ks i) w1 (World.ownsRow_nil _ _ _ _) (Nat.le_refl _) (by simp) (by have := hr.key i hi; simp only at this; omega)
  unfold strV at hc
  obtain ⟨s, hs⟩ : ∃ s, bstr (atL ks i) = s := ⟨_, rfl⟩
  rw [hs] at hc hP
  have HP := Lib.hid hP
  have HI := Lib.hid hi
  have hiI : (i : Int) < (ks.length : Int) := by omega
  clear hb1 hr1 hx h hP hs hi hr
  obtain ⟨nk, hnk⟩ : ∃ k, ks.length = k := ⟨_, rfl⟩
  simp only at hw1 ⊢
  rw [hnk] at hw1 hiI hi' x1 ⊢
  have HNk := Lib.hid hnk
  clear hnk
  cases lf
  · -- inner
    obtain ⟨q1, q2, q3⟩ := HR.out.kid rfl i HI.out
    simp only at q1 q2 q3
    obtain ⟨bi, oi, hAi, _⟩ := H.out.i.spot (by rw [ints_length]; exact Nat.lt_of_le_of_lt (Nat.zero_le _) q1)
    subst hAi
    have hci : ∀ w', Below w1.heap.size w1 w' → w'.cell? ⟨bi, oi + i, none⟩ = some (.int .i64 (atI is i)) := fun w' hb => (H.out.below hb).i.intAt i q1
    obtain ⟨kid, hkid⟩ := Int.eq_ofNat_of_zero_le q2
    rw [hkid] at q3
    have hw : IntKind.u64.wrap (kid : Int) = (kid : Int) := by simp only [IntKind.wrap, IntKind.bits, IntKind.signed]; simp; omega
    have hiK : (i : Int) < (is.length : Int) := by omega
    obtain ⟨nv, hnv⟩ : ∃ k, is.length = k := ⟨_, rfl⟩
    rw [hnv] at hw1 hiK x3 ⊢
    have HNv := Lib.hid hnv
    clear hnv
    have HKid : Hid ((atI is i).toNat = kid ∧ kid ≤ 2147483647) := ⟨by rw [hkid]; rfl, by omega⟩
    simp only [hkid] at hci
    have HCi := Lib.hid hci
    clear hkid q1 q2 q3 hci
    go_enter Tryd.func31, Tryd.ntmps31
    go_wp2_with (go_at_call 62; (with_reducible refine HP.out.mono ?_); rintro e w2 ⟨v2, rfl, ho2, hb2⟩; refine park ?_; intro q hq)
    refine hq.out ?_
    clear hq HP hc hw1
    rw [List.nil_append] at ho2
    obtain ⟨y0, y1, y2, y3⟩ := HX.out w2 hb2
    have hci := HCi.out w2 hb2
    have hPf := PutFixed_onto w1.heap.size v2 (textB (atL ks i)) kid (by have := HKid.out.2; omega) 4 (by decide) w2 ho2 hb2.size (by have := textB_len (atL ks i) (by have := HR.out.key i HI.out; simp only at this; omega); have := HR.out.key i HI.out; simp only at this; omega)
    rw [show ((4 : Nat) : Int) = 4 from rfl] at hPf
    have HPf := Lib.hid hPf
    have HB2 := Lib.hid hb2
    clear hPf ho2 hb2
    rw [HNv.out] at y3
    rw [HNk.out] at y1
    go_wp2_with (go_at_call 63; (with_reducible refine HPf.out.mono ?_); rintro e w3 ⟨v3, rfl, ho3, hb3⟩; refine park ?_; intro q hq)
    refine hq.out ?_
    clear hq HPf
    have hce : textB (atL ks i) ++ fixB kid 4 = cellB ⟨false, ks, vs, is⟩ i := by
      unfold cellB
      simp only [Bool.false_eq_true, if_false]
      rw [HKid.out.1]
    rw [hce] at ho3
    have HN : Hid (OwnB w3 r v3 (cellB ⟨false, ks, vs, is⟩ i) ∧ Below r w w3) := ⟨ho3.base hrw, HB.out.trans ((HB2.out.trans hb3).mono hrw)⟩
    clear hce ho3 hb3 HB2
    go_wp2_with fail
    go_ret
    obtain ⟨A, c, rfl⟩ := HN.out.1.slice'
    exact ⟨A, c, rfl, by rw [hr0]; exact HN.out.1, by rw [hr0]; exact HN.out.2⟩
  · -- a leaf
    obtain ⟨q1, q2⟩ := HR.out.val rfl i HI.out
    simp only at q1 q2
    obtain ⟨bi, oi, hAi⟩ := H.out.v.spot (Nat.lt_of_le_of_lt (Nat.zero_le _) q1)
    subst hAi
    obtain ⟨Ai, ci, hcv, hsv⟩ := H.out.v.at i q1
    try simp only at hcv hsv
    rw [← atL_eq vs i q1] at hcv hsv
    have hci : ∀ w', Below w1.heap.size w1 w' → w'.cell? ⟨bi, oi + i, none⟩ = some (.slice Ai (atL vs i).length ci) ∧ SlB w' Ai (atL vs i).length ci (atL vs i) := fun w' hb => ⟨(hb.cell (World.block_lt_of_cell? w1 _ hcv)).trans hcv, hsv.below hb⟩
    have hiK : (i : Int) < (vs.length : Int) := by omega
    obtain ⟨nv, hnv⟩ : ∃ k, vs.length = k := ⟨_, rfl⟩
    rw [hnv] at hw1 hiK x2 ⊢
    have HNv := Lib.hid hnv
    have HQ2 := Lib.hid q2
    have HCi := Lib.hid hci
    clear hnv q1 q2 hci hcv hsv
    go_enter Tryd.func31, Tryd.ntmps31
    go_wp2_with (go_at_call 62; (with_reducible refine HP.out.mono ?_); rintro e w2 ⟨v2, rfl, ho2, hb2⟩; refine park ?_; intro q hq)
    refine hq.out ?_
    clear hq HP hc hw1
    rw [List.nil_append] at ho2
    obtain ⟨y0, y1, y2, y3⟩ := HX.out w2 hb2
    obtain ⟨hci, hsv⟩ := HCi.out w2 hb2
    have hrun := run_str (w := w2) (c := ci) hsv.1 hsv.2.1
    have hPt := PutText_calls w1.heap.size v2 (textB (atL ks i)) (atL vs i) w2 ho2 hb2.size (by have := textB_len (atL ks i) (by have := HR.out.key i HI.out; simp only at this; omega); have := HR.out.key i HI.out; simp only at this; omega) (by have := HQ2.out; omega)
    obtain ⟨s2, hs2⟩ : ∃ s, bstr (atL vs i) = s := ⟨_, rfl⟩
    obtain ⟨m2, hm2⟩ : ∃ m, (atL vs i).length = m := ⟨_, rfl⟩
    rw [hm2] at hci
    rw [hm2, hs2] at hrun
    rw [hs2] at hPt
    have HPt := Lib.hid hPt
    have HB2 := Lib.hid hb2
    rw [HNv.out] at y2
    rw [HNk.out] at y1
    clear hPt ho2 hb2 hs2 hm2 hsv
    go_wp2_with (go_at_call 62; (with_reducible refine HPt.out.mono ?_); rintro e w3 ⟨v3, rfl, ho3, hb3⟩; refine park ?_; intro q hq)
    refine hq.out ?_
    clear hq HPt hrun
    have hce : textB (atL ks i) ++ textB (atL vs i) = cellB ⟨true, ks, vs, is⟩ i := by
      unfold cellB
      simp only [if_true]
    rw [hce] at ho3
    have HN : Hid (OwnB w3 r v3 (cellB ⟨true, ks, vs, is⟩ i) ∧ Below r w w3) := ⟨ho3.base hrw, HB.out.trans ((HB2.out.trans hb3).mono hrw)⟩
    clear hce ho3 hb3 HB2
    go_wp2_with fail
    go_ret
    obtain ⟨A, c, rfl⟩ := HN.out.1.slice'
    exact ⟨A, c, rfl, by rw [hr0]; exact HN.out.1, by rw [hr0]; exact HN.out.2⟩
end Go.Proofs.YtibmlgkakeakcaaDoor
/- The walk of node.sizes. -/
set_option linter.unusedSimpArgs false
set_option linter.unusedVariables false
namespace Go.Proofs.YtibmlgkakeakcaaDoor
open Go.RowKit Go.Proofs.YtibmlgkakeakcaaDoor.Crc
def sizesN (n : NodeM) (t : Nat) : List Int := (List.range (t + 1)).map fun j => (sizeN n j : Int)
theorem sizesN_length (n : NodeM) (t : Nat) : (sizesN n t).length = t + 1 := by unfold sizesN; simp
theorem sizesN_at (n : NodeM) (t i : Nat) (h : i ≤ t) : atI (sizesN n t) i = (sizeN n i : Int) := by
  rw [atI_eq _ _ (by rw [sizesN_length]; omega)]
  unfold sizesN
  simp
theorem sizesN_succ (n : NodeM) (t : Nat) : sizesN n (t + 1) = sizesN n t ++ [(sizeN n (t + 1) : Int)] := by
  unfold sizesN
  rw [List.range_succ (n := t + 1), List.map_append]; rfl
theorem ints_append (a b : List Int) : ints (a ++ b) = ints a ++ ints b := by unfold ints; simp
theorem sizeN_le {n : NodeM} (h : RightM n) (t : Nat) (ht : t ≤ n.keys.length) : sizeN n t ≤ 112 * t := by
  induction t with
  | zero => exact Nat.le_refl _
  | succ t ih =>
    rw [sizeN_succ n t (by omega)]
    have := cellB_len h t (by omega)
    have := ih (by omega)
    omega
/-- What stands while the sizes are made. -/
def SizI (w1 : World) (base : Nat) (n : NodeM) (t g c : Nat) (wr : World) : Prop :=
  OwnVs wr base 3 (.slice (some ⟨g, 0, none⟩) (t + 1) c) (ints (sizesN n t)) ∧ Below w1.heap.size w1 wr ∧ w1.heap.size ≤ base
set_option maxRecDepth 10000 in
set_option maxHeartbeats 1000000 in
theorem sizes_calls {w : World} {n : NodeM} {kA : Option Addr} {kc : Nat} {vA : Option Addr} {vc : Nat} {iA : Option Addr} {ic : Nat} (h : NodeAt w n kA kc vA vc iA ic) (hr : RightM n) (hn : n.keys.length ≤ 1000) :
    Calls Tryd.prog 40 #[.agg #[.bool n.leaf, .slice kA n.keys.length kc, .slice vA n.vals.length vc, .slice iA n.kids.length ic]] w fun e w' => ∃ g c, e = .returned (.slice (some ⟨g, 0, none⟩) (n.keys.length + 1) c) ∧ OwnVs w' w.heap.size 3 (.slice (some ⟨g, 0, none⟩) (n.keys.length + 1) c) (ints (sizesN n n.keys.length)) ∧ Below w.heap.size w w' := by
  obtain ⟨hb1, hr1⟩ := node_box w (.bool n.leaf) (.slice kA n.keys.length kc) (.slice vA n.vals.length vc) (.slice iA n.kids.length ic) 28
  obtain ⟨w1, hw1⟩ : ∃ w1, w.alloc (.cells #[.bool n.leaf, .slice kA n.keys.length kc, .slice vA n.vals.length vc, .slice iA n.kids.length ic] 28) = w1 := ⟨_, rfl⟩
  obtain ⟨r, hr0⟩ : ∃ r, w.heap.size = r := ⟨_, rfl⟩
  rw [hw1] at hb1 hr1
  rw [hr0] at hr1
  have hx := box_cells hr1
  have H := Lib.hid (h.below hb1)
  rw [hr0] at hb1
  have HB := Lib.hid hb1
  have HX := Lib.hid hx
  have HR := Lib.hid hr
  have hrw : r ≤ w1.heap.size := by have := hb1.size; omega
  have HCe : Hid (∀ w' i, Below w1.heap.size w1 w' → i < n.keys.length → Calls Tryd.prog 31 #[.agg #[.bool n.leaf, .slice kA n.keys.length kc, .slice vA n.vals.length vc, .slice iA n.kids.length ic], .int .i64 (i : Int)] w' fun e w'' => ∃ A c, e = .returned (.slice A (cellB n i).length c) ∧ Hid (Below w'.heap.size w' w'')) := fun w' i hb hi =>
    (ncell_calls (H.out.below hb) hr i hi).mono fun e w'' ⟨A, c, h1, _, h2⟩ => ⟨A, c, h1, h2⟩
  have HNk := Lib.hid hn
  clear hb1 hr1 hx h hr hn
  obtain ⟨nk, hnk⟩ : ∃ k, n.keys.length = k := ⟨_, rfl⟩
  have HK := Lib.hid hnk
  obtain ⟨x0, x1, x2, x3⟩ := HX.out w1 (Below.refl _ _)
  rw [hnk] at hw1 x1 HCe HNk ⊢
  simp only [hnk] at HX
  clear hnk
  have hkm : nk ≤ 9223372036854775807 := Nat.le_trans HNk.out (by decide)
  have hl0 := OwnVs.lit (t := 3) w1 w1.heap.size (Nat.le_refl _) (ints (sizesN n 0)) (by rw [ints_length, sizesN_length]; decide)
  have hI : SizI w1 w1.heap.size n 0 w1.heap.size 1 (w1.alloc (.cells #[.int .i64 0] 3)) := ⟨hl0, (Below.refl _ _).alloc (Nat.le_refl _) _, Nat.le_refl _⟩
  obtain ⟨w2, hw2⟩ : ∃ w2, w1.alloc (.cells #[.int .i64 0] 3) = w2 := ⟨_, rfl⟩
  obtain ⟨g0, hg0⟩ : ∃ g, w1.heap.size = g := ⟨_, rfl⟩
  rw [hw2] at hI
  obtain ⟨y0, y1, y2, y3⟩ := HX.out w2 hI.2.1
  have HI : Hid (SizI w1 w1.heap.size n 0 g0 1 w2) := by rw [hg0] at hI ⊢; exact hI
  clear hl0 x0 x1 x2 x3 hI
  go_enter Tryd.func40, Tryd.ntmps40
  go_wp2_with fail
  clear hw1 hw2 y0 y1 y2 y3
  go_loopw [3, 9] (fun v i wr => ∃ (t g c : Nat), t ≤ nk ∧ v = .slice (some ⟨g, 0, none⟩) (t + 1) c ∧ i = .int .i64 (t : Int) ∧ Hid (SizI w1 w1.heap.size n t g c wr)) (fun _ i _ => nk - (intOf i).toNat)
  case atStart => exact ⟨0, g0, 1, Nat.zero_le _, rfl, rfl, HI⟩
  case round =>
    obtain ⟨t, g, c, ht, rfl, rfl, HV⟩ := hrel
    clear HI
    by_cases hlt : t < nk
    · have hz : ∀ w', Below wr.heap.size wr w' → w'.cell? ⟨g, t, none⟩ = some (.int .i64 (sizeN n t : Int)) := fun w' hb => by
        obtain ⟨g', hg', _, hc⟩ := (HV.out.1.below hb).fr t (by rw [ints_length, sizesN_length]; exact Nat.lt_succ_self _)
        cases hg'
        rw [hc, ints_get, sizesN_at n t t (Nat.le_refl _)]; rfl
      have HZ := Lib.hid hz
      obtain ⟨m, hm⟩ : ∃ m, (cellB n t).length = m := ⟨_, rfl⟩
      have hm110 := cellB_len HR.out t (by rw [HK.out]; exact hlt)
      rw [hm] at hm110
      have hsz := sizeN_le HR.out t (by rw [HK.out]; exact ht)
      have hsu := sizeN_succ n t (by rw [HK.out]; exact hlt)
      rw [hm] at hsu
      have hss := sizesN_succ n t
      obtain ⟨S, hS⟩ : ∃ S, sizeN n t = S := ⟨_, rfl⟩
      rw [hS] at hsz hsu
      rw [hsu] at hss
      have HSs := Lib.hid hss
      simp only [hS] at HZ
      have hnk := HNk.out
      have ktt : (t : Int) < (t : Int) + 1 := by omega
      have k1 : IntKind.i64.wrap ((S : Int) + 2) = (S : Int) + 2 := IntWalk.i64_in _ (by omega)
      have k2 : IntKind.i64.wrap ((S : Int) + 2 + (m : Int)) = (S : Int) + 2 + (m : Int) := IntWalk.i64_in _ (by omega)
      have HCt := Lib.hid (fun (w' : World) (hb : Below w1.heap.size w1 w') => HCe.out w' t hb hlt)
      simp only [hm] at HCt
      have hbd : Hid (Below wr.heap.size wr wr.drew) := (Below.refl _ _).drew
      have HF : Hid (∀ w', Hid (Below wr.heap.size wr w') → w'.cell? ⟨g, t, none⟩ = some (.int .i64 (S : Int)) ∧ w'.cell? ⟨r, 0, none⟩ = some (.bool n.leaf) ∧ w'.cell? ⟨r, 1, none⟩ = some (.slice kA nk kc) ∧ w'.cell? ⟨r, 2, none⟩ = some (.slice vA n.vals.length vc) ∧ w'.cell? ⟨r, 3, none⟩ = some (.slice iA n.kids.length ic)) := fun w' hb =>
        ⟨HZ.out w' hb.out, HX.out w' (HV.out.2.1.trans (hb.out.mono HV.out.2.1.size))⟩
      obtain ⟨z0, y0, y1, y2, y3⟩ := HF.out _ hbd
      have HCd := Lib.hid (HCt.out wr.drew (HV.out.2.1.trans (hbd.out.mono HV.out.2.1.size)))
      clear hz hm hm110 hsz hsu hss hS hnk HZ
      go_wp2_with fail
      go_region_law (first | (go_simp; go_at_call 31; (with_reducible refine HCd.out.mono ?_); rintro e w5 ⟨A5, c5, rfl, h5⟩; have hb5 : Hid (Below wr.heap.size wr w5) := hbd.out.trans (h5.out.mono hbd.out.size); obtain ⟨z5, _⟩ := HF.out _ hb5) | (refine step_append_val1 elInt (by rfl) _ _ (by rfl) w1.heap.size _ (ints (sizesN n t)) (by rfl) ((HV.out.1.below hb5.out).below ((Below.refl _ _).alloc (Nat.le_refl _) _)) ⟨w5.heap.size, 0, none⟩ 1 (.int .i64 ((S : Int) + 2 + (m : Int))) (by rfl) (by rw [Addr.add_lit, cell_of_row _ _ _ _ _ _ (heap_alloc_new w5 _)]; rfl) rfl (by rw [ints_length, sizesN_length]; have := HNk.out; omega) (by have := HV.out.2.1.size; have := hb5.out.size; simp; omega) ?_; intro v9 w9 H9))
      all_goals
        have HN : Hid (∃ g' c', v9 = .slice (some ⟨g', 0, none⟩) (t + 1 + 1) c' ∧ SizI w1 w1.heap.size n (t + 1) g' c' w9) := by
          have h1 := H9.out.1
          have e : ints (sizesN n t) ++ [.int .i64 ((S : Int) + 2 + (m : Int))] = ints (sizesN n (t + 1)) := by
            rw [HSs.out, ints_append]
            simp [ints, intV]
          rw [e] at h1
          have hl : (ints (sizesN n (t + 1))).length = t + 1 + 1 := by rw [ints_length, sizesN_length]
          have hB5 := (HV.out.2.1.trans (hb5.out.mono HV.out.2.1.size)).alloc (Nat.le_trans HV.out.2.1.size hb5.out.size) (.cells #[.int .i64 ((S : Int) + 2 + (m : Int))] 3)
          have hB : Below w1.heap.size w1 w9 := hB5.grown H9.out.2 hB5.size (fun k hk => ((HV.out.1.lt k hk).1))
          rcases h1.form with ⟨_, h3⟩ | ⟨g', c', h3, _⟩
          · rw [h3] at hl; cases hl
          · rw [hl] at h3
            exact ⟨g', c', h3, by rw [← h3]; exact h1, hB, Nat.le_refl _⟩
        obtain ⟨g', c', rfl, hN9⟩ := HN.out
        clear HN
        have HN := Lib.hid hN9
        clear hN9
        clear H9 HF HCt HCd hb5 h5 z5 HV HSs z0 y0 y1 y2 y3 hbd k1 k2
        go_wp2_with fail
        go_roundw
        case rel => exact ⟨t + 1, g', c', Nat.succ_le_of_lt hlt, rfl, congrArg (Value.int .i64) (Int.natCast_succ t).symm, HN.out⟩
        case measure =>
          clear HN
          simp [intOf]; omega
    · obtain rfl : nk = t := by omega
      go_wp2_with fail
      go_ret
      refine ⟨g, c, rfl, ?_, ?_⟩
      · rw [hr0]; exact HV.out.1.base' hrw
      · rw [hr0]; exact HB.out.trans (HV.out.2.1.mono hrw)
end Go.Proofs.YtibmlgkakeakcaaDoor
/- The walks of node.Taken, Fits, Bytes. -/
set_option linter.unusedSimpArgs false
set_option linter.unusedVariables false
namespace Go.Proofs.YtibmlgkakeakcaaDoor
open Go.RowKit Go.Proofs.YtibmlgkakeakcaaDoor.Crc
noncomputable def takenB (n : NodeM) : Nat := if rightB n then takenN n else 0
set_option maxRecDepth 10000 in
set_option maxHeartbeats 1000000 in
theorem Taken_calls {w : World} {n : NodeM} {kA : Option Addr} {kc : Nat} {vA : Option Addr} {vc : Nat} {iA : Option Addr} {ic : Nat} (h : NodeAt w n kA kc vA vc iA ic) (hn : n.keys.length ≤ 1000) :
    Calls Tryd.prog 16 #[.agg #[.bool n.leaf, .slice kA n.keys.length kc, .slice vA n.vals.length vc, .slice iA n.kids.length ic]] w fun e w' => e = .returned (.int .i64 (takenB n : Int)) ∧ Below w.heap.size w w' := by
  obtain ⟨hb1, hr1⟩ := node_box w (.bool n.leaf) (.slice kA n.keys.length kc) (.slice vA n.vals.length vc) (.slice iA n.kids.length ic) 28
  obtain ⟨w1, hw1⟩ : ∃ w1, w.alloc (.cells #[.bool n.leaf, .slice kA n.keys.length kc, .slice vA n.vals.length vc, .slice iA n.kids.length ic] 28) = w1 := ⟨_, rfl⟩
  obtain ⟨r, hr0⟩ : ∃ r, w.heap.size = r := ⟨_, rfl⟩
  rw [hw1] at hb1 hr1
  rw [hr0] at hr1
  have hx := box_cells hr1
  have H := Lib.hid (h.below hb1)
  rw [hr0] at hb1
  have HB := Lib.hid hb1
  have HX := Lib.hid hx
  have hrw : r ≤ w1.heap.size := by have := hb1.size; omega
  have HRt := Lib.hid (Right_calls H.out)
  have HSz : Hid (RightM n → ∀ w', Below w1.heap.size w1 w' → Calls Tryd.prog 40 #[.agg #[.bool n.leaf, .slice kA n.keys.length kc, .slice vA n.vals.length vc, .slice iA n.kids.length ic]] w' fun e w'' => ∃ g c, e = .returned (.slice (some ⟨g, 0, none⟩) (n.keys.length + 1) c) ∧ w''.cell? ⟨g, n.keys.length, none⟩ = some (.int .i64 (takenN n : Int)) ∧ Hid (Below w1.heap.size w1 w'')) := fun hr w' hb => by
    refine (sizes_calls (H.out.below hb) hr hn).mono ?_
    rintro e w'' ⟨g, c, h1, h2, h3⟩
    refine ⟨g, c, h1, ?_, hb.trans (h3.mono hb.size)⟩
    obtain ⟨g', hg', _, hc⟩ := h2.fr n.keys.length (by rw [ints_length, sizesN_length]; exact Nat.lt_succ_self _)
    cases hg'
    rw [hc, ints_get, sizesN_at n _ _ (Nat.le_refl _)]; rfl
  have hkm : n.keys.length ≤ 9223372036854775807 := Nat.le_trans hn (by decide)
  clear hb1 hr1 hx h hn
  obtain ⟨nk, hnk⟩ : ∃ k, n.keys.length = k := ⟨_, rfl⟩
  obtain ⟨x0, x1, x2, x3⟩ := HX.out w1 (Below.refl _ _)
  rw [hnk] at hw1 x1 hkm HRt HSz ⊢
  simp only [hnk] at HX
  clear hnk
  by_cases hR : RightM n
  · have hT : takenB n = takenN n := by unfold takenB; rw [rightB_true hR]; rfl
    have HS := Lib.hid (HSz.out hR)
    rw [hT]
    rw [rightB_true hR] at HRt
    clear hT hR HSz
    go_enter Tryd.func16, Tryd.ntmps16
    go_wp2_with (go_at_call 14; (with_reducible refine HRt.out.mono ?_); rintro e w2 ⟨rfl, hb2⟩; refine park ?_; intro q hq)
    refine hq.out ?_
    clear hq HRt hw1 x0 x1 x2 x3
    have hbd : Hid (Below w1.heap.size w1 w2.drew) := hb2.drew
    obtain ⟨x0, x1, x2, x3⟩ := HX.out _ hbd.out
    have HSd := Lib.hid (HS.out _ hbd.out)
    have ktt : (nk : Int) < (nk : Int) + 1 := by omega
    go_wp2_with fail
    go_region_law (first | (go_simp; go_at_call 40; (with_reducible refine HSd.out.mono ?_); rintro e w5 ⟨g5, c5, rfl, z5, hb5⟩; obtain ⟨y0, y1, y2, y3⟩ := HX.out _ hb5.out))
    all_goals
      go_wp2_with fail
      go_ret
      exact ⟨rfl, by rw [hr0]; exact HB.out.trans (hb5.out.mono hrw)⟩
  · have hT : takenB n = 0 := by unfold takenB; rw [rightB_false hR]; rfl
    rw [hT]
    rw [rightB_false hR] at HRt
    clear hT hR HSz
    go_enter Tryd.func16, Tryd.ntmps16
    go_wp2_with (go_at_call 14; (with_reducible refine HRt.out.mono ?_); rintro e w2 ⟨rfl, hb2⟩; have hb2 := Lib.hid hb2)
    go_ret
    exact ⟨rfl, by rw [hr0]; exact HB.out.trans (hb2.out.mono hrw)⟩
noncomputable def fitsB (n : NodeM) : Bool := rightB n && decide (takenB n ≤ 244)
set_option maxRecDepth 10000 in
set_option maxHeartbeats 1000000 in
theorem Fits_calls {w : World} {n : NodeM} {kA : Option Addr} {kc : Nat} {vA : Option Addr} {vc : Nat} {iA : Option Addr} {ic : Nat} (h : NodeAt w n kA kc vA vc iA ic) (hn : n.keys.length ≤ 1000) :
    Calls Tryd.prog 18 #[.agg #[.bool n.leaf, .slice kA n.keys.length kc, .slice vA n.vals.length vc, .slice iA n.kids.length ic]] w fun e w' => e = .returned (.bool (fitsB n)) ∧ Below w.heap.size w w' := by
  obtain ⟨hb1, hr1⟩ := node_box w (.bool n.leaf) (.slice kA n.keys.length kc) (.slice vA n.vals.length vc) (.slice iA n.kids.length ic) 28
  obtain ⟨w1, hw1⟩ : ∃ w1, w.alloc (.cells #[.bool n.leaf, .slice kA n.keys.length kc, .slice vA n.vals.length vc, .slice iA n.kids.length ic] 28) = w1 := ⟨_, rfl⟩
  obtain ⟨r, hr0⟩ : ∃ r, w.heap.size = r := ⟨_, rfl⟩
  rw [hw1] at hb1 hr1
  rw [hr0] at hr1
  have hx := box_cells hr1
  have H := Lib.hid (h.below hb1)
  rw [hr0] at hb1
  have HB := Lib.hid hb1
  have HX := Lib.hid hx
  have hrw : r ≤ w1.heap.size := by have := hb1.size; omega
  have HRt := Lib.hid (Right_calls H.out)
  have HTk : Hid (∀ w', Below w1.heap.size w1 w' → Calls Tryd.prog 16 #[.agg #[.bool n.leaf, .slice kA n.keys.length kc, .slice vA n.vals.length vc, .slice iA n.kids.length ic]] w' fun e w'' => e = .returned (.int .i64 (takenB n : Int)) ∧ Below w'.heap.size w' w'') := fun w' hb => Taken_calls (H.out.below hb) hn
  clear hb1 hr1 hx h hn
  obtain ⟨x0, x1, x2, x3⟩ := HX.out w1 (Below.refl _ _)
  cases hR : rightB n
  · have HE : Hid (fitsB n = false) := by show fitsB n = false; unfold fitsB; rw [hR]; rfl
    rw [hR] at HRt
    clear hR HTk
    go_enter Tryd.func18, Tryd.ntmps18
    go_wp2_with (go_at_call 14; (with_reducible refine HRt.out.mono ?_); rintro e w2 ⟨rfl, hb2⟩; have hb2 := Lib.hid hb2)
    go_ret
    exact ⟨by rw [HE.out]; rfl, by rw [hr0]; exact HB.out.trans (hb2.out.mono hrw)⟩
  · have HE : Hid (fitsB n = decide (takenB n ≤ 244)) := by show fitsB n = _; unfold fitsB; rw [hR]; rfl
    rw [hR] at HRt
    clear hR
    go_enter Tryd.func18, Tryd.ntmps18
    go_wp2_with (go_at_call 14; (with_reducible refine HRt.out.mono ?_); rintro e w2 ⟨rfl, hb2⟩; refine park ?_; intro q hq)
    refine hq.out ?_
    clear hq HRt hw1 x0 x1 x2 x3
    have HB2 := Lib.hid hb2
    obtain ⟨x0, x1, x2, x3⟩ := HX.out _ hb2
    have HTd := Lib.hid (HTk.out _ hb2)
    obtain ⟨T, hT⟩ : ∃ T, takenB n = T := ⟨_, rfl⟩
    rw [hT] at HTd HE
    obtain ⟨bT, hbT⟩ : ∃ bT, decide (T ≤ 244) = bT := ⟨_, rfl⟩
    rw [hbT] at HE
    have dT : decide ((T : Int) ≤ 244) = bT := by rw [← hbT]; simp; omega
    clear hT hb2 HTk hbT
    go_wp2_with (go_at_call 16; (with_reducible refine HTd.out.mono ?_); rintro e w3 ⟨rfl, hb3⟩; have hb3 := Lib.hid hb3)
    go_ret
    exact ⟨by rw [HE.out]; rfl, by rw [hr0]; exact HB.out.trans ((HB2.out.trans (hb3.out.mono HB2.out.size)).mono hrw)⟩
noncomputable def bytesN (no : Int) (n : NodeM) : List UInt8 × Int := if rightB n then (if fitsB n then fillP no (if n.leaf then 5 else 6) (cellsB n) else ([], 32)) else ([], 22)
set_option maxRecDepth 10000 in
set_option maxHeartbeats 2000000 in
theorem Bytes_calls {w : World} {n : NodeM} {kA : Option Addr} {kc : Nat} {vA : Option Addr} {vc : Nat} {iA : Option Addr} {ic : Nat} (no : Int) (h : NodeAt w n kA kc vA vc iA ic) (hn : n.keys.length ≤ 1000) :
    Calls Tryd.prog 10 #[.int .i64 no, .agg #[.bool n.leaf, .slice kA n.keys.length kc, .slice vA n.vals.length vc, .slice iA n.kids.length ic]] w (RetBN w (bytesN no n).1 (bytesN no n).2) := by
  obtain ⟨hb1, hr1⟩ := node_box w (.bool n.leaf) (.slice kA n.keys.length kc) (.slice vA n.vals.length vc) (.slice iA n.kids.length ic) 28
  obtain ⟨w1, hw1⟩ : ∃ w1, w.alloc (.cells #[.bool n.leaf, .slice kA n.keys.length kc, .slice vA n.vals.length vc, .slice iA n.kids.length ic] 28) = w1 := ⟨_, rfl⟩
  obtain ⟨r, hr0⟩ : ∃ r, w.heap.size = r := ⟨_, rfl⟩
  rw [hw1] at hb1 hr1
  rw [hr0] at hr1
  have hx := box_cells hr1
  have H := Lib.hid (h.below hb1)
  rw [hr0] at hb1
  have HB := Lib.hid hb1
  have HX := Lib.hid hx
  have hrw : r ≤ w1.heap.size := by have := hb1.size; omega
  have HRw : Hid (w.heap.size ≤ w1.heap.size) := by rw [hr0]; exact hrw
  have HB0 : Hid (Below w.heap.size w w1) := by rw [hr0]; exact hb1
  have HRt := Lib.hid (Right_calls H.out)
  have HFt : Hid (∀ w', Below w1.heap.size w1 w' → Calls Tryd.prog 18 #[.agg #[.bool n.leaf, .slice kA n.keys.length kc, .slice vA n.vals.length vc, .slice iA n.kids.length ic]] w' fun e w'' => e = .returned (.bool (fitsB n)) ∧ Below w'.heap.size w' w'') := fun w' hb => Fits_calls (H.out.below hb) hn
  have HCe : Hid (RightM n → ∀ w' i, Below w1.heap.size w1 w' → i < n.keys.length → Calls Tryd.prog 31 #[.agg #[.bool n.leaf, .slice kA n.keys.length kc, .slice vA n.vals.length vc, .slice iA n.kids.length ic], .int .i64 (i : Int)] w' fun e w'' => ∃ A c, e = .returned (.slice A (cellB n i).length c) ∧ Hid (OwnB w'' w'.heap.size (.slice A (cellB n i).length c) (cellB n i) ∧ Below w'.heap.size w' w'')) := fun hr w' i hb hi =>
    (ncell_calls (H.out.below hb) hr i hi).mono fun e w'' ⟨A, c, h1, h3, h2⟩ => ⟨A, c, h1, h3, h2⟩
  have hkm : n.keys.length ≤ 9223372036854775807 := Nat.le_trans hn (by decide)
  have HNk := Lib.hid hn
  clear hb1 hr1 hx h hn
  obtain ⟨nk, hnk⟩ : ∃ k, n.keys.length = k := ⟨_, rfl⟩
  have HK := Lib.hid hnk
  obtain ⟨x0, x1, x2, x3⟩ := HX.out w1 (Below.refl _ _)
  rw [hnk] at hw1 x1 hkm HRt HFt HCe HNk ⊢
  simp only [hnk] at HX
  clear hnk
  cases hR : rightB n
  · have HE : Hid (bytesN no n = ([], 22)) := by show bytesN no n = _; unfold bytesN; rw [hR]; rfl
    rw [hR] at HRt
    clear hR HCe HFt
    go_enter Tryd.func10, Tryd.ntmps10
    go_wp2_with (go_at_call 14; (with_reducible refine HRt.out.mono ?_); rintro e w2 ⟨rfl, hb2⟩; have hb2 := Lib.hid hb2)
    go_ret2
    rw [HE.out]
    exact RetBN.mk (World.ownsRow_nil _ _ _ _) (HB0.out.trans (hb2.out.mono HRw.out))
  · have HRM := Lib.hid (rightB_iff.1 hR)
    rw [hR] at HRt
    have HCf := Lib.hid (HCe.out HRM.out)
    clear HCe
    cases hF : fitsB n
    · have HE : Hid (bytesN no n = ([], 32)) := by show bytesN no n = _; unfold bytesN; rw [hR, hF]; rfl
      rw [hF] at HFt
      clear hR hF
      go_enter Tryd.func10, Tryd.ntmps10
      go_wp2_with (go_at_call 14; (with_reducible refine HRt.out.mono ?_); rintro e w2 ⟨rfl, hb2⟩; refine park ?_; intro q hq)
      refine hq.out ?_
      clear hq HRt hw1 x0 x1 x2 x3
      have HB2 := Lib.hid hb2
      obtain ⟨x0, x1, x2, x3⟩ := HX.out _ hb2
      have HFd := Lib.hid (HFt.out _ hb2)
      clear hb2 HFt
      go_wp2_with (go_at_call 18; (with_reducible refine HFd.out.mono ?_); rintro e w3 ⟨rfl, hb3⟩; have hb3 := Lib.hid hb3)
      go_ret2
      rw [HE.out]
      exact RetBN.mk (World.ownsRow_nil _ _ _ _) (HB0.out.trans ((HB2.out.trans (hb3.out.mono HB2.out.size)).mono HRw.out))
    · have HE : Hid (bytesN no n = fillP no (if n.leaf then 5 else 6) (cellsB n)) := by show bytesN no n = _; unfold bytesN; rw [hR, hF]; rfl
      rw [hF] at HFt
      clear hR hF
      go_enter Tryd.func10, Tryd.ntmps10
      go_wp2_with (go_at_call 14; (with_reducible refine HRt.out.mono ?_); rintro e w2 ⟨rfl, hb2⟩; refine park ?_; intro q hq)
      refine hq.out ?_
      clear hq HRt hw1 x0 x1 x2 x3
      have HB2 := Lib.hid hb2
      obtain ⟨x0, x1, x2, x3⟩ := HX.out _ hb2
      have HFd := Lib.hid (HFt.out _ hb2)
      clear hb2 HFt
      go_wp2_with (go_at_call 18; (with_reducible refine HFd.out.mono ?_); rintro e w3 ⟨rfl, hb3⟩; refine park ?_; intro q hq)
      refine hq.out ?_
      clear hq HFd x0 x1 x2 x3
      have HB3 := Lib.hid (HB2.out.trans (hb3.mono HB2.out.size))
      obtain ⟨x0, x1, x2, x3⟩ := HX.out _ HB3.out
      clear hb3 HB2
      go_wp2_with fail
      go_loopw [6, 20] (fun v i wr => ∃ (t : Nat), t ≤ nk ∧ i = .int .i64 (t : Int) ∧ Hid (OwnRL wr w1.heap.size v ((cellsB n).take t) ∧ Below w1.heap.size w1 wr)) (fun _ i _ => nk - (intOf i).toNat)
      case atStart => exact ⟨0, Nat.zero_le _, rfl, OwnRL.nil _ _, HB3.out⟩
      case round =>
        obtain ⟨t, ht, rfl, HV⟩ := hrel
        clear x0 x1 x2 x3
        by_cases hlt : t < nk
        · obtain ⟨x0, x1, x2, x3⟩ := HX.out _ HV.out.2
          have HCd := Lib.hid (HCf.out _ t HV.out.2 hlt)
          obtain ⟨m, hm⟩ : ∃ m, (cellB n t).length = m := ⟨_, rfl⟩
          rw [hm] at HCd
          have HM := Lib.hid hm
          clear hm
          go_wp2_with (first | (go_at_call 31; (with_reducible refine HCd.out.mono ?_); rintro e w5 ⟨A5, c5, rfl, h5⟩) | (with_reducible refine park_append ?_; intro q hq))
          refine hq.out ?_
          clear hq HCd
          have hB5 : Below w1.heap.size w1 w5 := HV.out.2.trans (h5.out.2.mono HV.out.2.size)
          have hba : Below w5.heap.size w5 (w5.alloc (.cells #[.slice A5 m c5] 30)) := (Below.refl _ _).alloc (Nat.le_refl _) _
          refine wpList_append_row rfl _ _ rfl w1.heap.size u6 ((cellsB n).take t) rfl ((HV.out.1.below h5.out.2).below hba) ⟨w5.heap.size, 0, none⟩ 1 A5 m c5 (cellB n t) rfl (by rw [Addr.add_lit, cell_of_row _ _ _ _ _ _ (heap_alloc_new w5 _)]; rfl) ((h5.out.1.base HV.out.2.size).below hba) (by rw [List.length_take, cellsB_length, HK.out]; have := HNk.out; omega) (by have := hB5.size; simp; omega) ?_
          intro v9 w9 H9
          have hlt9 : ∀ k, u6.ownBlock = some k → w1.heap.size ≤ k := fun k hk => by
            obtain ⟨vs, hv1, _⟩ := HV.out.1
            exact (World.ownsRow.lt hv1 k hk).1
          have HN : Hid (OwnRL w9 w1.heap.size v9 ((cellsB n).take (t + 1)) ∧ Below w1.heap.size w1 w9) :=
            ⟨by rw [cellsB_take n t (by rw [HK.out]; exact hlt)]; exact H9.out.1, (hB5.alloc hB5.size _).grown H9.out.2 (by have := hB5.size; simp; omega) hlt9⟩
          clear H9 hlt9 hba hB5 h5 HV x0 x1 x2 x3
          go_wp2_with fail
          go_roundw
          case rel => exact ⟨t + 1, Nat.succ_le_of_lt hlt, congrArg (Value.int .i64) (Int.natCast_succ t).symm, HN⟩
          case measure =>
            clear HN
            simp [intOf]; omega
        · obtain rfl : nk = t := by omega
          have hV := HV.out.1
          rw [List.take_of_length_le (by rw [cellsB_length, HK.out]; exact Nat.le_refl _)] at hV
          obtain ⟨A6, c6, hv6, hrows, _, _, _⟩ := hV.slice
          rw [cellsB_length, HK.out] at hv6
          subst hv6
          obtain ⟨x0, x1, x2, x3⟩ := HX.out _ HV.out.2
          have HFl : Hid (∀ k : UInt8, Calls Tryd.prog 32 #[.int .i64 no, .int .u8 (k.toNat : Int), .slice A6 nk c6] wr (RetBN wr (fillP no k (cellsB n)).1 (fillP no k (cellsB n)).2)) := fun k => Fill_calls no k A6 nk c6 (cellsB n) wr (by rw [cellsB_length, HK.out]) hrows hkm
          have HVb := Lib.hid HV.out.2
          clear hV hrows HV hlt
          cases hlf : n.leaf
          · rw [hlf] at x0
            have hE := HE.out
            rw [hlf] at hE
            simp only [Bool.false_eq_true, if_false] at hE
            have HE' := Lib.hid hE
            clear hE
            have HF6 := Lib.hid (HFl.out 6)
            rw [show (((6 : UInt8).toNat : Nat) : Int) = 6 from rfl] at HF6
            clear hlf
            go_wp2_with (go_at_call 32; (with_reducible refine HF6.out.mono ?_); rintro e w7 ⟨A7, c7, rfl, h7, hb7⟩; have h7 := Lib.hid (And.intro h7 hb7); clear hb7)
            go_ret2
            rw [HE'.out]
            exact RetBN.mk (h7.out.1.base (Nat.le_trans HRw.out HVb.out.size)) (HB0.out.trans ((HVb.out.trans (h7.out.2.mono HVb.out.size)).mono HRw.out))
          · rw [hlf] at x0
            have hE := HE.out
            rw [hlf] at hE
            simp only [if_true] at hE
            have HE' := Lib.hid hE
            clear hE
            have HF5 := Lib.hid (HFl.out 5)
            rw [show (((5 : UInt8).toNat : Nat) : Int) = 5 from rfl] at HF5
            clear hlf
            go_wp2_with (go_at_call 32; (with_reducible refine HF5.out.mono ?_); rintro e w7 ⟨A7, c7, rfl, h7, hb7⟩; have h7 := Lib.hid (And.intro h7 hb7); clear hb7)
            go_ret2
            rw [HE'.out]
            exact RetBN.mk (h7.out.1.base (Nat.le_trans HRw.out HVb.out.size)) (HB0.out.trans ((HVb.out.trans (h7.out.2.mono HVb.out.size)).mono HRw.out))
end Go.Proofs.YtibmlgkakeakcaaDoor
/- The walk of node.Find. -/
set_option linter.unusedSimpArgs false
set_option linter.unusedVariables false
namespace Go.Proofs.YtibmlgkakeakcaaDoor
open Go.RowKit Go.Proofs.YtibmlgkakeakcaaDoor.Crc
theorem riseK.lt {ks : List (List UInt8)} {n : Nat} (h : riseK ks n) (i j : Nat) (hij : i < j) (hj : j < n) : ltB (atL ks i) (atL ks j) = true := by
  induction j with
  | zero => exact absurd hij (Nat.not_lt_zero _)
  | succ j ih =>
    have h1 := (h (j + 1) hj).2 (Nat.succ_pos _)
    rw [Nat.add_sub_cancel] at h1
    by_cases he : i = j
    · rw [he]; exact h1
    · exact ltB_trans _ _ _ (ih (by omega) (by omega)) h1
theorem rise_low {ks : List (List UInt8)} {n : Nat} {key : List UInt8} (h : riseK ks n) (m : Nat) (hm : m < n) (hl : ltB (atL ks m) key = true) (k : Nat) (hk : k ≤ m) : ltB (atL ks k) key = true := by
  by_cases he : k = m
  · rw [he]; exact hl
  · exact ltB_trans _ _ _ (h.lt k m (by omega) hm) hl
theorem rise_high {ks : List (List UInt8)} {n : Nat} {key : List UInt8} (h : riseK ks n) (m : Nat) (hl : ltB (atL ks m) key = false) (k : Nat) (hk : m ≤ k) (hn : k < n) : ltB (atL ks k) key = false := by
  by_cases he : k = m
  · rw [he]; exact hl
  · cases hc : ltB (atL ks k) key
    · rfl
    · have := ltB_trans _ _ _ (h.lt m k (by omega) hn) hc
      rw [hl] at this; cases this
set_option maxRecDepth 10000 in
set_option maxHeartbeats 400000 in
theorem SearchS1_calls (A : Option Addr) (n c : Nat) (ks : List (List UInt8)) (key : List UInt8) (y : ByteArray) (hy : y = bstr key) (a b : Nat) (m : Nat) (w : World) (hn : n = ks.length) (hk : ValsAt w A (strs ks)) (hm : m < n)
    (ha : w.cell? ⟨a, 0, none⟩ = some (.slice A n c)) (hb : w.cell? ⟨b, 0, none⟩ = some (.string y)) :
    Calls Tryd.prog 70 #[.int .i64 (m : Int), .pointer (some ⟨a, 0, none⟩), .pointer (some ⟨b, 0, none⟩)] w fun e w' => e = .returned (.bool (!ltB (atL ks m) key)) ∧ Hid (Below w.heap.size w w') := by
  have hmk : m < ks.length := by rw [← hn]; exact hm
  obtain ⟨bb, o, hA, _⟩ := hk.spot (by rw [strs_length]; exact Nat.lt_of_le_of_lt (Nat.zero_le _) hmk)
  subst hA
  have hc := hk.strAt m hmk
  unfold strV at hc
  obtain ⟨s, hs⟩ : ∃ s, bstr (atL ks m) = s := ⟨_, rfl⟩
  rw [hs] at hc
  obtain ⟨bt, hbt⟩ : ∃ bt, ltB (atL ks m) key = bt := ⟨_, rfl⟩
  have hlt : Op.bytesLess s.toList y.toList = bt := by
    rw [← hbt, ← hs, hy, bstr_toList, bstr_toList]; rfl
  rw [hbt]
  have hmI : (m : Int) < (n : Int) := by omega
  clear hs hbt hk hn hmk hy hm
  go_enter Tryd.func70, Tryd.ntmps70
  go_wp2_with fail
  cases bt
  all_goals
    go_region
    go_wp2_with fail
    go_ret
    exact ⟨rfl, (Below.refl _ _).drew⟩
set_option maxRecDepth 10000 in
set_option maxHeartbeats 1000000 in
theorem Search_calls (A : Option Addr) (n c : Nat) (ks : List (List UInt8)) (key : List UInt8) (y : ByteArray) (hy : y = bstr key) (a b : Nat) (w : World) (hn : n = ks.length) (hk : ValsAt w A (strs ks)) (hr : riseK ks n) (hm : n ≤ 4611686018427387903)
    (ha : w.cell? ⟨a, 0, none⟩ = some (.slice A n c)) (hb : w.cell? ⟨b, 0, none⟩ = some (.string y)) :
    Calls Tryd.prog 69 #[.int .i64 (n : Int), .func (Fn.func 70) #[] #[.pointer (some ⟨a, 0, none⟩), .pointer (some ⟨b, 0, none⟩)]] w fun e w' => e = .returned (.int .i64 (placeN ks key : Int)) ∧ Hid (Below w.heap.size w w') := by
  have HN := Lib.hid hn
  have HR := Lib.hid hr
  have HM := Lib.hid hm
  have HS : Hid (∀ w' m, Hid (Below w.heap.size w w') → m < n → Calls Tryd.prog 70 #[.int .i64 (m : Int), .pointer (some ⟨a, 0, none⟩), .pointer (some ⟨b, 0, none⟩)] w' fun e w'' => e = .returned (.bool (!ltB (atL ks m) key)) ∧ Hid (Below w'.heap.size w' w'')) := fun w' m hbw hm' =>
    SearchS1_calls A n c ks key y hy a b m w' hn (hk.below hbw.out) hm' ((hbw.out.cell (World.block_lt_of_cell? w _ ha)).trans ha) ((hbw.out.cell (World.block_lt_of_cell? w _ hb)).trans hb)
  clear hn hk hr hm ha hb hy
  go_enter Tryd.func69, Tryd.ntmps69
  go_wp2_with fail
  go_loopw [5, 6] (fun i j wr => ∃ (s e : Nat), s ≤ e ∧ e ≤ n ∧ i = .int .i64 (s : Int) ∧ j = .int .i64 (e : Int) ∧ Hid (Below w.heap.size w wr) ∧ Hid ((∀ k, k < s → ltB (atL ks k) key = true) ∧ (∀ k, e ≤ k → k < n → ltB (atL ks k) key = false))) (fun i j _ => (intOf j).toNat - (intOf i).toNat)
  case atStart => exact ⟨0, n, Nat.zero_le _, Nat.le_refl _, rfl, rfl, Below.refl _ _, fun k hk => absurd hk (Nat.not_lt_zero _), fun k h1 h2 => absurd h2 (Nat.not_lt.2 h1)⟩
  case round =>
    obtain ⟨s, e, hse, hen, rfl, rfl, HB, HV⟩ := hrel
    by_cases hlt : s < e
    · have hmid : s ≤ (s + e) / 2 ∧ (s + e) / 2 < e := by omega
      have hh : wrap64 (IntKind.u64.wrap (wrap64 ((s : Int) + (e : Int))) / 2) = (((s + e) / 2 : Nat) : Int) := by
        have := HM.out
        have e1 : wrap64 ((s : Int) + (e : Int)) = (s : Int) + (e : Int) := by unfold wrap64; omega
        rw [e1]
        have e2 : IntKind.u64.wrap ((s : Int) + (e : Int)) = (s : Int) + (e : Int) := by simp only [IntKind.wrap, IntKind.bits, IntKind.signed]; simp; omega
        rw [e2]
        unfold wrap64; omega
      obtain ⟨m, hm⟩ : ∃ m, (s + e) / 2 = m := ⟨_, rfl⟩
      rw [hm] at hh hmid
      obtain ⟨h1, h2⟩ := hmid
      have HSd := Lib.hid (HS.out wr m HB (Nat.lt_of_lt_of_le h2 hen))
      cases hlm : ltB (atL ks m) key
      · have HN2 : Hid ((∀ k, k < s → ltB (atL ks k) key = true) ∧ (∀ k, m ≤ k → k < n → ltB (atL ks k) key = false)) := ⟨HV.out.1, fun k hk1 hk2 => rise_high HR.out m hlm k hk1 hk2⟩
        rw [hlm] at HSd
        clear hlm hm
        go_wp2_with fail
        simp only [hh]
        clear hh
        go_wp2_with (go_at_call 70; (with_reducible refine HSd.out.mono ?_); rintro e' w3 ⟨rfl, hb3⟩; refine park ?_; intro q hq)
        refine hq.out ?_
        clear hq HSd HV
        have HB3 : Hid (Below w.heap.size w w3) := HB.out.trans (hb3.out.mono HB.out.size)
        clear hb3
        go_wp2_with fail
        go_roundw
        case rel => exact ⟨s, m, h1, Nat.le_trans (Nat.le_of_lt h2) hen, rfl, rfl, HB3, HN2⟩
        case measure => simp [intOf]; omega
      · have HN2 : Hid ((∀ k, k < m + 1 → ltB (atL ks k) key = true) ∧ (∀ k, e ≤ k → k < n → ltB (atL ks k) key = false)) := ⟨fun k hk => rise_low HR.out m (Nat.lt_of_lt_of_le h2 hen) hlm k (Nat.le_of_lt_succ hk), HV.out.2⟩
        rw [hlm] at HSd
        have hh2 : ((s : Int) + (e : Int)) / 2 = (m : Int) := by omega
        clear hlm hm
        have hM := HM.out
        go_wp2_with fail
        clear hh hh2
        go_wp2_with (go_at_call 70; (with_reducible refine HSd.out.mono ?_); rintro e' w3 ⟨rfl, hb3⟩; refine park ?_; intro q hq)
        refine hq.out ?_
        clear hq HSd HV
        have HB3 : Hid (Below w.heap.size w w3) := HB.out.trans (hb3.out.mono HB.out.size)
        clear hb3
        go_wp2_with fail
        go_roundw
        case rel => exact ⟨m + 1, e, h2, hen, congrArg (Value.int .i64) (Int.natCast_succ m).symm, rfl, HB3, HN2⟩
        case measure => simp [intOf]; omega
    · obtain rfl : e = s := by omega
      have HP : Hid (placeN ks key = e) := placeN_eq ks key e (by rw [← HN.out]; exact hen) HV.out.1 (fun h => HV.out.2 e (Nat.le_refl _) (by rw [HN.out]; exact h))
      clear HV HS
      go_wp2_with fail
      go_ret
      exact ⟨by rw [HP.out]; rfl, HB⟩
set_option maxRecDepth 10000 in
set_option maxHeartbeats 400000 in
theorem SearchStrings_calls (A : Option Addr) (n c : Nat) (ks : List (List UInt8)) (key : List UInt8) (w : World) (hn : n = ks.length) (hk : ValsAt w A (strs ks)) (hr : riseK ks n) (hm : n ≤ 4611686018427387903) :
    Calls Tryd.prog 35 #[.slice A n c, .string (bstr key)] w fun e w' => e = .returned (.int .i64 (placeN ks key : Int)) ∧ Hid (Below w.heap.size w w') := by
  obtain ⟨y, hy⟩ : ∃ y, bstr key = y := ⟨_, rfl⟩
  rw [hy]
  obtain ⟨w1, hw1⟩ : ∃ w1, w.alloc (.cells #[.slice A n c] 22) = w1 := ⟨_, rfl⟩
  obtain ⟨w2, hw2⟩ : ∃ w2, w1.alloc (.cells #[.string y] 9) = w2 := ⟨_, rfl⟩
  obtain ⟨a, ha⟩ : ∃ a, w.heap.size = a := ⟨_, rfl⟩
  obtain ⟨b, hb⟩ : ∃ b, w1.heap.size = b := ⟨_, rfl⟩
  have h1 : w1.heap[a]? = some (.cells #[.slice A n c] 22 (0, 0)) := by rw [← hw1, ← ha]; exact heap_alloc_new w _
  have h2 : w2.heap[b]? = some (.cells #[.string y] 9 (0, 0)) := by rw [← hw2, ← hb]; exact heap_alloc_new w1 _
  have b1 : Below w.heap.size w w1 := by rw [← hw1]; exact (Below.refl _ _).alloc (Nat.le_refl _) _
  have b2 : Below w1.heap.size w1 w2 := by rw [← hw2]; exact (Below.refl _ _).alloc (Nat.le_refl _) _
  have h12 : w2.heap[a]? = some (.cells #[.slice A n c] 22 (0, 0)) := (b2.block a (Array.getElem?_eq_some_iff.1 h1).1).trans h1
  have ca : w2.cell? ⟨a, 0, none⟩ = some (.slice A n c) := by rw [cell_of_row _ _ _ _ _ _ h12]; rfl
  have cb : w2.cell? ⟨b, 0, none⟩ = some (.string y) := by rw [cell_of_row _ _ _ _ _ _ h2]; rfl
  have hB : Below w.heap.size w w2 := b1.trans (b2.mono b1.size)
  have HS := Lib.hid (Search_calls A n c ks key y hy.symm a b w2 hn (hk.below hB) hr hm ca cb)
  rw [ha] at hB
  have HB := Lib.hid hB
  clear h1 h2 b1 b2 h12 cb hB hn hk hr hm hy
  go_enter Tryd.func35, Tryd.ntmps35
  go_wp2_with (go_at_call 69; (with_reducible refine HS.out.mono ?_); rintro e' w3 ⟨rfl, hb3⟩)
  go_ret
  have hsz := HB.out.size
  exact ⟨rfl, by rw [ha]; exact HB.out.trans (hb3.out.mono (by omega))⟩
end Go.Proofs.YtibmlgkakeakcaaDoor
/- The walk of node.Find. -/
set_option linter.unusedSimpArgs false
set_option linter.unusedVariables false
namespace Go.Proofs.YtibmlgkakeakcaaDoor
open Go.RowKit Go.Proofs.YtibmlgkakeakcaaDoor.Crc
set_option maxRecDepth 10000 in
set_option maxHeartbeats 1000000 in
theorem Find_calls {w : World} {n : NodeM} {kA : Option Addr} {kc : Nat} {vA : Option Addr} {vc : Nat} {iA : Option Addr} {ic : Nat} (key : List UInt8) (h : NodeAt w n kA kc vA vc iA ic) (hn : n.keys.length ≤ 1000) :
    Calls Tryd.prog 12 #[.agg #[.bool n.leaf, .slice kA n.keys.length kc, .slice vA n.vals.length vc, .slice iA n.kids.length ic], .string (bstr key)] w fun e w' => e = .returned (.tuple #[.int .i64 (findN n key).1, .bool (findN n key).2]) ∧ Hid (Below w.heap.size w w') := by
  obtain ⟨hb1, hr1⟩ := node_box w (.bool n.leaf) (.slice kA n.keys.length kc) (.slice vA n.vals.length vc) (.slice iA n.kids.length ic) 28
  obtain ⟨w1, hw1⟩ : ∃ w1, w.alloc (.cells #[.bool n.leaf, .slice kA n.keys.length kc, .slice vA n.vals.length vc, .slice iA n.kids.length ic] 28) = w1 := ⟨_, rfl⟩
  obtain ⟨r, hr0⟩ : ∃ r, w.heap.size = r := ⟨_, rfl⟩
  rw [hw1] at hb1 hr1
  rw [hr0] at hr1
  have hx := box_cells hr1
  have H := Lib.hid (h.below hb1)
  rw [hr0] at hb1
  have HB := Lib.hid hb1
  have HX := Lib.hid hx
  have hrw : r ≤ w1.heap.size := by have := hb1.size; omega
  have HRt := Lib.hid (Right_calls H.out)
  have HSS : Hid (RightM n → ∀ w', Below w1.heap.size w1 w' → Calls Tryd.prog 35 #[.slice kA n.keys.length kc, .string (bstr key)] w' fun e w'' => e = .returned (.int .i64 (placeN n.keys key : Int)) ∧ Hid (Below w'.heap.size w' w'')) := fun hr w' hb =>
    SearchStrings_calls kA n.keys.length kc n.keys key w' rfl (H.out.below hb).k hr.1 (by omega)
  obtain ⟨y, hy⟩ : ∃ y, bstr key = y := ⟨_, rfl⟩
  have HY : Hid (y.toList = key) := by rw [← hy]; exact bstr_toList _
  rw [hy] at HSS ⊢
  have HNk := Lib.hid hn
  clear hb1 hr1 hx h hn hy
  obtain ⟨nk, hnk⟩ : ∃ k, n.keys.length = k := ⟨_, rfl⟩
  have HK := Lib.hid hnk
  obtain ⟨x0, x1, x2, x3⟩ := HX.out w1 (Below.refl _ _)
  rw [hnk] at hw1 x1 HRt HSS HNk ⊢
  simp only [hnk] at HX
  clear hnk
  cases hR : rightB n
  · have HE : Hid (findN n key = (0, false)) := by show findN n key = _; unfold findN; rw [hR]; rfl
    rw [hR] at HRt
    clear hR HSS
    go_enter Tryd.func12, Tryd.ntmps12
    go_wp2_with (go_at_call 14; (with_reducible refine HRt.out.mono ?_); rintro e w2 ⟨rfl, hb2⟩; have hb2 := Lib.hid hb2)
    go_ret2
    exact ⟨by rw [HE.out]; rfl, by rw [hr0]; exact HB.out.trans (hb2.out.mono hrw)⟩
  · have HRM := Lib.hid (rightB_iff.1 hR)
    have HSr := Lib.hid (HSS.out HRM.out)
    obtain ⟨p, hp⟩ : ∃ p, placeN n.keys key = p := ⟨_, rfl⟩
    have hpl : p ≤ nk := by rw [← hp, ← HK.out]; exact placeN_le _ _
    have HE : Hid (findN n key = (if n.leaf || (decide (p < nk) && (atL n.keys p == key)) then (p : Int) else (p : Int) - 1, decide (p < nk) && (atL n.keys p == key))) := by
      show findN n key = _
      unfold findN
      rw [hR, if_pos rfl, hp, HK.out]
    rw [hp] at HSr
    rw [hR] at HRt
    clear hR HSS hp
    go_enter Tryd.func12, Tryd.ntmps12
    go_wp2_with (go_at_call 14; (with_reducible refine HRt.out.mono ?_); rintro e w2 ⟨rfl, hb2⟩; refine park ?_; intro q hq)
    refine hq.out ?_
    clear hq HRt hw1 x0 x1 x2 x3
    have HB2 := Lib.hid hb2
    obtain ⟨x0, x1, x2, x3⟩ := HX.out _ hb2
    have HSd := Lib.hid (HSr.out _ hb2)
    clear hb2 HSr
    go_wp2_with (go_at_call 35; (with_reducible refine HSd.out.mono ?_); rintro e w3 ⟨rfl, hb3⟩; refine park ?_; intro q hq)
    refine hq.out ?_
    clear hq HSd x0 x1 x2 x3
    have HB3 := Lib.hid (HB2.out.trans (hb3.out.mono HB2.out.size))
    obtain ⟨x0, x1, x2, x3⟩ := HX.out _ HB3.out
    have HBw : Hid (Below w.heap.size w w3) := by show Below _ _ _; rw [hr0]; exact HB.out.trans (HB3.out.mono hrw)
    have hp1000 : (p : Int) ≤ 1000 := by have := HNk.out; omega
    have HP1 : Hid (wrap64 ((p : Int) - 1) = (p : Int) - 1) := by show wrap64 _ = _; unfold wrap64; omega
    clear hb3 hp1000
    by_cases hlt : p < nk
    · obtain ⟨b, o, hA, _⟩ := H.out.k.spot (by rw [strs_length, HK.out]; exact Nat.lt_of_le_of_lt (Nat.zero_le _) hlt)
      subst hA
      have hc := (H.out.below HB3.out).k.strAt p (by rw [HK.out]; exact hlt)
      unfold strV at hc
      obtain ⟨s, hs⟩ : ∃ s, bstr (atL n.keys p) = s := ⟨_, rfl⟩
      rw [hs] at hc
      obtain ⟨be, hbe⟩ : ∃ be, (atL n.keys p == key) = be := ⟨_, rfl⟩
      have f1 : (s.toList == y.toList) = be := by rw [← hs, bstr_toList, HY.out]; exact hbe
      have hE := HE.out
      rw [decide_eq_true hlt, hbe, Bool.true_and] at hE
      have HE2 := Lib.hid hE
      have hltI : (p : Int) < (nk : Int) := by omega
      have hltN : decide (p < nk) = true := decide_eq_true hlt
      clear hE hbe hs HE
      cases hlf : n.leaf
      · rw [hlf] at x0
        have hE := HE2.out
        rw [hlf] at hE
        have HE3 := Lib.hid hE
        clear hE HE2 hlf
        cases be
        · go_wp2_with fail
          simp only [HP1.out]
          go_ret2
          exact ⟨by rw [HE3.out]; rfl, HBw⟩
        · go_wp2_with fail
          go_ret2
          exact ⟨by rw [HE3.out]; rfl, HBw⟩
      · rw [hlf] at x0
        have hE := HE2.out
        rw [hlf] at hE
        have HE3 := Lib.hid hE
        clear hE HE2 hlf
        cases be
        · go_wp2_with fail
          go_ret2
          exact ⟨by rw [HE3.out]; rfl, HBw⟩
        · go_wp2_with fail
          go_ret2
          exact ⟨by rw [HE3.out]; rfl, HBw⟩
    · have hE := HE.out
      rw [decide_eq_false hlt, Bool.false_and] at hE
      have hltN : decide (p < nk) = false := decide_eq_false hlt
      cases hlf : n.leaf
      · rw [hlf] at x0 hE
        have HE3 := Lib.hid hE
        clear hE hlf hlt
        go_wp2_with fail
        simp only [HP1.out]
        go_ret2
        exact ⟨by rw [HE3.out]; rfl, HBw⟩
      · rw [hlf] at x0 hE
        have HE3 := Lib.hid hE
        clear hE hlf hlt
        go_wp2_with fail
        go_ret2
        exact ⟨by rw [HE3.out]; rfl, HBw⟩
end Go.Proofs.YtibmlgkakeakcaaDoor
/- The walk of the document's Right. -/
set_option linter.unusedSimpArgs false
set_option linter.unusedVariables false
namespace Go.Proofs.YtibmlgkakeakcaaDoor
open Go.RowKit Go.Proofs.YtibmlgkakeakcaaDoor.Crc
set_option maxRecDepth 10000 in
set_option maxHeartbeats 2000000 in
theorem refRight_calls {w : World} {n : NodeM} {kA : Option Addr} {kc : Nat} {vA : Option Addr} {vc : Nat} {iA : Option Addr} {ic : Nat} (h : NodeAt w n kA kc vA vc iA ic) :
    Calls Tryd.prog 15 #[.agg #[.bool n.leaf, .slice kA n.keys.length kc, .slice vA n.vals.length vc, .slice iA n.kids.length ic]] w fun e w' => e = .returned (.bool (rightB n)) ∧ Below w.heap.size w w' := by
  obtain ⟨lf, ks, vs, is⟩ := n
  obtain ⟨hb1, hr1⟩ := node_box w (.bool lf) (.slice kA ks.length kc) (.slice vA vs.length vc) (.slice iA is.length ic) 26
  obtain ⟨w1, hw1⟩ : ∃ w1, w.alloc (.cells #[.bool lf, .slice kA ks.length kc, .slice vA vs.length vc, .slice iA is.length ic] 26) = w1 := ⟨_, rfl⟩
  obtain ⟨r, hr⟩ : ∃ r, w.heap.size = r := ⟨_, rfl⟩
  rw [hw1] at hb1 hr1
  rw [hr] at hr1
  have hx := box_cells hr1
  have H := Lib.hid (h.below hb1)
  have HB0 : Hid (Below w.heap.size w w1) := hb1
  have HX := Lib.hid hx
  have hkm0 : ks.length ≤ 9223372036854775807 := Nat.le_trans h.kn.2.1 h.kn.2.2
  have hvm0 : vs.length ≤ 9223372036854775807 := Nat.le_trans h.vn.2.1 h.vn.2.2
  have him0 : is.length ≤ 9223372036854775807 := Nat.le_trans h.inn.2.1 h.inn.2.2
  clear hb1 hr1 hx h
  obtain ⟨x0, x1, x2, x3⟩ := HX.out w1 (Below.refl _ _)
  obtain ⟨nk, hnk⟩ : ∃ k, ks.length = k := ⟨_, rfl⟩
  have HK := Lib.hid hnk
  obtain ⟨nv, hnv⟩ : ∃ k, vs.length = k := ⟨_, rfl⟩
  have HV := Lib.hid hnv
  obtain ⟨ni, hni⟩ : ∃ k, is.length = k := ⟨_, rfl⟩
  have HI := Lib.hid hni
  simp only at hw1 ⊢
  rw [hnk, hnv, hni] at hw1 ⊢
  simp only [hnk, hnv, hni] at HX x1 x2 x3 hkm0 hvm0 him0
  have hkm := hkm0
  clear hnk hnv hni
  have hsz : Hid (w.heap.size ≤ w1.heap.size) := HB0.out.size
  go_enter Tryd.func15, Tryd.ntmps15
  go_wp2_with fail
  clear hw1 x0 x1 x2 x3
  go_loopw [3] (fun i wr => ∃ t : Nat, t ≤ nk ∧ i = .int .i64 (t : Int) ∧ Hid (riseK ks t) ∧ Hid (Below w1.heap.size w1 wr)) (fun i _ => nk - (intOf i).toNat)
  case atStart => exact ⟨0, Nat.zero_le _, rfl, riseK.zero _, Below.refl _ _⟩
  case round =>
    obtain ⟨t, ht, rfl, HR, HB⟩ := hrel
    obtain ⟨x0, x1, x2, x3⟩ := HX.out wr HB.out
    by_cases hlt : t < nk
    · have hlt' : t < ks.length := by rw [HK.out]; exact hlt
      obtain ⟨b, o, hA, _⟩ := H.out.k.spot (by rw [strs_length]; exact Nat.lt_of_le_of_lt (Nat.zero_le _) hlt')
      subst hA
      have hc := (H.out.below HB.out).k.strAt t hlt'
      simp only at hc
      obtain ⟨s, hs⟩ : ∃ s, bstr (atL ks t) = s := ⟨_, rfl⟩
      unfold strV at hc
      rw [hs] at hc
      have HSz : Hid (s.size = (atL ks t).length) := by rw [← hs]; exact bstr_size _
      have HSt : Hid (s.toList = atL ks t) := by rw [← hs]; exact bstr_toList _
      clear hs
      by_cases h40 : 40 < s.size
      · have HF : Hid (¬ RightM ⟨lf, ks, vs, is⟩) := fun hr => by
          have := (hr.1 t hlt').1
          rw [← HSz.out] at this; omega
        have d40 : (40 : Int) < (s.size : Int) := by omega
        clear h40 hlt'
        go_wp2_with fail
        go_region
        go_wp2_with fail
        go_ret
        exact ⟨by rw [rightB_false HF.out]; rfl, (HB0.out.trans (HB.out.mono hsz.out)).drew⟩
      · have d40 : (s.size : Int) ≤ 40 := by omega
        have d40b : decide ((s.size : Int) > 40) = false := by simp; omega
        have d40c : decide (40 < s.size) = false := by simp; omega
        have HL40 : Hid ((atL ks t).length ≤ 40) := by rw [← HSz.out]; show s.size ≤ 40; omega
        clear h40
        by_cases h0 : t = 0
        · subst h0
          rw [Nat.add_zero] at hc
          have HN : Hid (riseK ks 1) := HR.out.succ HL40.out (fun h => absurd h (Nat.lt_irrefl _))
          clear HR hlt' HSz HSt
          go_wp2_with fail
          go_region
          go_wp2_with fail
          go_roundw
          case rel => exact ⟨1, Nat.succ_le_of_lt hlt, by go_num, HN, HB.out.drew⟩
          case measure => simp [intOf]; omega
        · obtain ⟨u, rfl⟩ : ∃ u, t = u + 1 := ⟨t - 1, by omega⟩
          have hc' := (H.out.below HB.out).k.strAt u (by simp only; omega)
          obtain ⟨p, hp⟩ : ∃ s, bstr (atL ks u) = s := ⟨_, rfl⟩
          unfold strV at hc'
          simp only at hc'
          rw [hp] at hc'
          have HPt : Hid (p.toList = atL ks u) := by rw [← hp]; exact bstr_toList _
          have kw : IntKind.i64.wrap ((u : Int) + 1 - 1) = (u : Int) := by rw [Int.add_sub_cancel]; exact IntWalk.i64_in _ (by omega)
          clear hp h0
          cases hl : ltB (atL ks u) (atL ks (u + 1))
          · have HF : Hid (¬ RightM ⟨lf, ks, vs, is⟩) := fun hr => by
              have := (hr.1 (u + 1) hlt').2 (Nat.succ_pos _)
              simp only [Nat.add_sub_cancel] at this
              rw [hl] at this; cases this
            have f1 : Op.bytesLess p.toList s.toList = false := by rw [HSt.out, HPt.out]; exact hl
            clear hl hlt' HR HSz HSt HPt HL40
            go_wp2_with fail
            go_region
            go_wp2_with fail
            go_ret
            exact ⟨by rw [rightB_false HF.out]; rfl, (HB0.out.trans (HB.out.mono hsz.out)).drew⟩
          · have HN : Hid (riseK ks (u + 1 + 1)) := HR.out.succ HL40.out (fun _ => by simpa using hl)
            have f1 : Op.bytesLess p.toList s.toList = true := by rw [HSt.out, HPt.out]; exact hl
            clear hl hlt' HR HSz HSt HPt HL40
            go_wp2_with fail
            go_region
            go_wp2_with fail
            go_roundw
            case rel => exact ⟨u + 1 + 1, Nat.succ_le_of_lt hlt, by go_num, HN, HB.out.drew⟩
            case measure => simp [intOf]; omega
    · obtain rfl : nk = t := by omega
      have HRs : Hid (riseK ks ks.length) := by rw [HK.out]; exact HR.out
      clear HR hlt
      have HBw : Hid (∀ w', Hid (Below w1.heap.size w1 w') → Below w.heap.size w w') := fun w' hb => HB0.out.trans (hb.out.mono hsz.out)
      cases lf
      · -- an inner one
        go_wp2_with fail
        clear x0 x1 x2 x3
        go_loopw [5] (fun i wx => ∃ t : Nat, t ≤ ni ∧ i = .int .i64 (t : Int) ∧ Hid (∀ k, k < t → 0 ≤ atI is k ∧ atI is k ≤ 2147483647) ∧ Hid (Below w1.heap.size w1 wx)) (fun i _ => ni - (intOf i).toNat)
        case atStart => exact ⟨0, Nat.zero_le _, rfl, fun k hk => absurd hk (Nat.not_lt_zero _), HB⟩
        case round =>
          obtain ⟨t, ht, rfl, HE, HB⟩ := hrel
          obtain ⟨x0, x1, x2, x3⟩ := HX.out wr HB.out
          by_cases hlt : t < ni
          · have hlt' : t < is.length := by rw [HI.out]; exact hlt
            obtain ⟨b, o, hA, _⟩ := H.out.i.spot (by rw [ints_length]; exact Nat.lt_of_le_of_lt (Nat.zero_le _) hlt')
            subst hA
            have hc := (H.out.below HB.out).i.intAt t hlt'
            simp only at hc
            obtain ⟨z, hz⟩ : ∃ z, atI is t = z := ⟨_, rfl⟩
            rw [hz] at hc
            have HZ := Lib.hid hz
            have HZm : Hid (z ∈ is) := by rw [← hz, atI_eq is t hlt']; exact List.getElem_mem hlt'
            clear hz hlt'
            by_cases hneg : z < 0
            · have HF : Hid (¬ RightM ⟨false, ks, vs, is⟩) := fun hr => by
                have := hr.2.2.2.2.2 z HZm.out
                omega
              have d1 : decide (z < 0) = true := decide_eq_true hneg
              clear hneg
              go_wp2_with fail
              go_ret
              exact ⟨by rw [rightB_false HF.out]; rfl, HBw.out _ HB⟩
            · have d1 : decide (z < 0) = false := decide_eq_false hneg
              by_cases hbig : 2147483647 < z
              · have HF : Hid (¬ RightM ⟨false, ks, vs, is⟩) := fun hr => by
                  have := hr.2.2.2.2.2 z HZm.out
                  omega
                have d2 : decide (z > 2147483647) = true := decide_eq_true hbig
                have d3 : decide (2147483647 < z) = true := decide_eq_true hbig
                clear hneg hbig
                go_wp2_with fail
                go_ret
                exact ⟨by rw [rightB_false HF.out]; rfl, HBw.out _ HB⟩
              · have d2 : decide (z > 2147483647) = false := decide_eq_false hbig
                have d3 : decide (2147483647 < z) = false := decide_eq_false hbig
                have HN : Hid (∀ k, k < t + 1 → 0 ≤ atI is k ∧ atI is k ≤ 2147483647) := fun k hk => by
                  by_cases hkt : k < t
                  · exact HE.out k hkt
                  · obtain rfl : k = t := by omega
                    rw [HZ.out]; omega
                clear hneg hbig HE
                go_wp2_with fail
                go_roundw
                case rel => exact ⟨t + 1, Nat.succ_le_of_lt hlt, congrArg (Value.int .i64) (Int.natCast_succ t).symm, HN, HB⟩
                case measure => simp [intOf]; omega
          · obtain rfl : ni = t := by omega
            have HE2 : Hid (∀ v ∈ is, 0 ≤ v ∧ v ≤ 2147483647) := fun v hv => by
              obtain ⟨i, hi, rfl⟩ := List.getElem_of_mem hv
              have := HE.out i (by rw [← HI.out]; exact hi)
              rwa [atI_eq is i hi] at this
            clear HE hlt
            by_cases e1 : ni = nk
            · subst e1
              by_cases e3 : nv = 0
              · subst e3
                by_cases e2 : ni = 0
                · subst e2
                  have HE : Hid (rightB ⟨false, ks, vs, is⟩ = false) := rightB_false fun hr => by
                    have := hr.2.2.1
                    rw [show (NodeM.kids ⟨false, ks, vs, is⟩).length = 0 from HI.out] at this
                    exact absurd this (Nat.lt_irrefl _)
                  rw [show ((0 : Nat) : Int) = (0 : Int) from rfl]
                  go_wp2_with fail
                  go_ret
                  exact ⟨by rw [HE.out]; rfl, HBw.out _ HB⟩
                · have hpos : 0 < ni := Nat.pos_of_ne_zero e2
                  have hposI : (0 : Int) < (ni : Int) := by omega
                  have hk0 : 0 < ks.length := by rw [HK.out]; exact hpos
                  obtain ⟨b, o, hA, _⟩ := H.out.k.spot (by rw [strs_length]; exact hk0)
                  subst hA
                  have hc := (H.out.below HB.out).k.strAt 0 hk0
                  simp only [Nat.add_zero] at hc
                  obtain ⟨s, hs⟩ : ∃ s, bstr (atL ks 0) = s := ⟨_, rfl⟩
                  unfold strV at hc
                  rw [hs] at hc
                  have HSt : Hid (s.toList = atL ks 0) := by rw [← hs]; exact bstr_toList _
                  clear hs hk0 e2
                  by_cases e4 : atL ks 0 = []
                  · have f4' : s.toList = [] := by rw [HSt.out, e4]
                    have HE : Hid (rightB ⟨false, ks, vs, is⟩ = true) := by
                      refine rightB_true ⟨HRs.out, ?_⟩
                      show _ ∧ _ ∧ _ ∧ _ ∧ _
                      exact ⟨by show is.length = ks.length; rw [HI.out, HK.out], by show 0 < is.length; rw [HI.out]; exact hpos, HV.out, e4, HE2.out⟩
                    clear e4 HSt
                    go_wp2_with fail
                    go_ret
                    exact ⟨by rw [HE.out]; rfl, HBw.out _ HB⟩
                  · have HE : Hid (rightB ⟨false, ks, vs, is⟩ = false) := rightB_false fun hr => e4 hr.2.2.2.2.1
                    have f4 : (s.toList == []) = false := by rw [beq_eq_false_iff_ne, HSt.out]; exact e4
                    clear e4 HSt
                    go_wp2_with fail
                    go_ret
                    exact ⟨by rw [HE.out]; rfl, HBw.out _ HB⟩
              · have HE : Hid (rightB ⟨false, ks, vs, is⟩ = false) := rightB_false fun hr => e3 (by rw [← HV.out]; exact hr.2.2.2.1)
                have f3 : ((nv : Int) == 0) = false := by simp; omega
                clear e3
                go_wp2_with fail
                go_ret
                exact ⟨by rw [HE.out]; rfl, HBw.out _ HB⟩
            · have HE : Hid (rightB ⟨false, ks, vs, is⟩ = false) := rightB_false fun hr => e1 (by rw [← HI.out, ← HK.out]; exact hr.2.1)
              have f1 : ((ni : Int) == (nk : Int)) = false := by simp; omega
              clear e1
              go_wp2_with fail
              go_ret
              exact ⟨by rw [HE.out]; rfl, HBw.out _ HB⟩
      · -- a leaf
        go_wp2_with fail
        clear x0 x1 x2 x3
        go_loopw [4] (fun i wx => ∃ t : Nat, t ≤ nv ∧ i = .int .i64 (t : Int) ∧ Hid (∀ k, k < t → (atL vs k).length ≤ 49) ∧ Hid (Below w1.heap.size w1 wx)) (fun i _ => nv - (intOf i).toNat)
        case atStart => exact ⟨0, Nat.zero_le _, rfl, fun k hk => absurd hk (Nat.not_lt_zero _), HB⟩
        case round =>
          obtain ⟨t, ht, rfl, HE, HB⟩ := hrel
          obtain ⟨x0, x1, x2, x3⟩ := HX.out wr HB.out
          by_cases hlt : t < nv
          · have hlt' : t < vs.length := by rw [HV.out]; exact hlt
            obtain ⟨ad, Ai, ci, hA, hc, hs⟩ := (H.out.below HB.out).v t hlt'
            subst hA
            obtain ⟨m, hm⟩ : ∃ m, vs[t].length = m := ⟨_, rfl⟩
            simp only [hm] at hc
            have HM : Hid ((atL vs t).length = m ∧ ∃ v ∈ vs, v.length = m) := ⟨by rw [atL_eq vs t hlt']; exact hm, vs[t], List.getElem_mem _, hm⟩
            clear hs hm hlt'
            by_cases h49 : 49 < m
            · have HF : Hid (¬ RightM ⟨true, ks, vs, is⟩) := fun hr => by
                obtain ⟨v, hv, hvm⟩ := HM.out.2
                have := hr.2.2.2 v hv
                omega
              have d1 : (49 : Int) < (m : Int) := by omega
              clear h49
              go_wp2_with fail
              go_ret
              exact ⟨by rw [rightB_false HF.out]; rfl, HBw.out _ HB⟩
            · have HN : Hid (∀ k, k < t + 1 → (atL vs k).length ≤ 49) := fun k hk => by
                by_cases hkt : k < t
                · exact HE.out k hkt
                · obtain rfl : k = t := by omega
                  rw [HM.out.1]; omega
              have d1 : (m : Int) ≤ 49 := by omega
              clear h49 HE
              go_wp2_with fail
              go_roundw
              case rel => exact ⟨t + 1, Nat.succ_le_of_lt hlt, congrArg (Value.int .i64) (Int.natCast_succ t).symm, HN, HB⟩
              case measure => simp [intOf]; omega
          · obtain rfl : nv = t := by omega
            have HE2 : Hid (∀ v ∈ vs, v.length ≤ 49) := fun v hv => by
              obtain ⟨i, hi, rfl⟩ := List.getElem_of_mem hv
              have := HE.out i (by rw [← HV.out]; exact hi)
              rwa [atL_eq vs i hi] at this
            clear HE hlt
            by_cases e1 : nv = nk
            · subst e1
              by_cases e2 : ni = 0
              · subst e2
                have HE : Hid (rightB ⟨true, ks, vs, is⟩ = true) := by
                  refine rightB_true ⟨HRs.out, ?_⟩
                  show _ ∧ _ ∧ _
                  exact ⟨by show vs.length = ks.length; rw [HV.out, HK.out], HI.out, HE2.out⟩
                go_wp2_with fail
                go_ret
                exact ⟨by rw [HE.out]; rfl, HBw.out _ HB⟩
              · have HE : Hid (rightB ⟨true, ks, vs, is⟩ = false) := rightB_false fun hr => e2 (by rw [← HI.out]; exact hr.2.2.1)
                have f2 : ((ni : Int) == 0) = false := by simp; omega
                clear e2
                go_wp2_with fail
                go_ret
                exact ⟨by rw [HE.out]; rfl, HBw.out _ HB⟩
            · have HE : Hid (rightB ⟨true, ks, vs, is⟩ = false) := rightB_false fun hr => e1 (by rw [← HV.out, ← HK.out]; exact hr.2.1)
              have f1 : ((nv : Int) == (nk : Int)) = false := by simp; omega
              clear e1
              go_wp2_with fail
              go_ret
              exact ⟨by rw [HE.out]; rfl, HBw.out _ HB⟩
end Go.Proofs.YtibmlgkakeakcaaDoor
/- The document's Fixed, and its reader. -/
set_option linter.unusedSimpArgs false
set_option linter.unusedVariables false
namespace Go.Proofs.YtibmlgkakeakcaaDoor
open Go.RowKit Go.Proofs.YtibmlgkakeakcaaDoor.Crc
theorem u64_id (x : Int) (h0 : 0 ≤ x) (h1 : x ≤ 18446744073709551615) : IntKind.u64.wrap x = x := by
  simp only [IntKind.wrap, IntKind.bits, IntKind.signed]; simp; omega
theorem byte_mod (q : Nat) : ((q : Int) % 256) % 256 = ((UInt8.ofNat q).toNat : Int) := by simp
theorem byte_mod1 (q : Nat) : (q : Int) % 256 = ((UInt8.ofNat q).toNat : Int) := by simp
theorem OwnB.sl {w : World} {base : Nat} {v : Value} {l : List UInt8} (h : OwnB w base v l) : ∃ A c, v = .slice A l.length c ∧ (A = none → c = 0) ∧ l.length ≤ c ∧ c ≤ 9223372036854775807 := by
  rcases h.2 with ⟨h1, h2⟩ | ⟨g, cap, cur, h1, h2, h3, h4, h5, _⟩
  · exact ⟨none, 0, by rw [h1, h2], fun _ => rfl, by omega, by omega⟩
  · exact ⟨_, cap, h1, (fun h => by cases h), h4, by unfold maxLen at h5; omega⟩
set_option maxRecDepth 10000 in
set_option maxHeartbeats 1000000 in
theorem refFixed_calls (n : Nat) (hn : (n : Int) ≤ 18446744073709551615) (s : Nat) (hs : s ≤ 8) (w : World) :
    Calls Tryd.prog 68 #[.int .u64 (n : Int), .int .i64 (s : Int)] w (RetB w (fixB n s)) := by
  have d1 : decide ((s : Int) > 8) = false := by simp; omega
  have HN := Lib.hid hn
  clear hn
  go_enter Tryd.func68, Tryd.ntmps68
  go_wp2_with fail
  go_loopw [0, 5, 6] (fun x v i wr => ∃ (k q : Nat), k ≤ s ∧ q ≤ n ∧ i = .int .i64 (k : Int) ∧ x = .int .u64 (q : Int) ∧ Hid (q = n / 256 ^ k ∧ OwnB wr w.heap.size v (fixB n k) ∧ Below w.heap.size w wr)) (fun _ _ i _ => s - (intOf i).toNat)
  case atStart => exact ⟨0, n, by omega, Nat.le_refl _, rfl, rfl, by simp, World.ownsRow_nil _ _ _ _, Below.refl _ _⟩
  case round =>
    obtain ⟨k, q, hk, hqn, rfl, rfl, HR⟩ := hrel
    by_cases hlt : k < s
    · have hq2 : q / 256 ≤ n := by omega
      have HB8 := Lib.hid (byte_mod q)
      have HB1 := Lib.hid (byte_mod1 q)
      have WQ : Hid (IntKind.u64.wrap ((q : Int) / 256) = ((q / 256 : Nat) : Int)) := by
        show _ = _
        rw [u64_id _ (by omega) (by have : (n : Int) ≤ 18446744073709551615 := HN.out; omega)]
        omega
      go_wp2_with (with_reducible refine park_append ?_; intro q9 hq)
      refine hq.out ?_
      clear hq
      have hu : byteAt n k = UInt8.ofNat q := by unfold byteAt; rw [HR.out.1]
      obtain ⟨A5, c5, rfl, hn5, _, _⟩ := HR.out.2.1.sl
      rw [HB1.out]
      have hlen : (fixB n k).length = k := fixB_length n k
      have hcs := OwnB.lit wr w.heap.size HR.out.2.2.size [.int .u8 ((UInt8.ofNat q).toNat : Int)] [UInt8.ofNat q] rfl 1 rfl (by decide)
      refine wpList_append_bytes rfl _ _ rfl w.heap.size _ [UInt8.ofNat q] rfl hcs A5 (fixB n k).length c5 (fixB n k) rfl rfl hn5 (HR.out.2.1.bytes.alloc _) (by rw [hlen]; simp; omega) (by have := HR.out.2.2.size; simp; omega) ?_
      intro v2 w2 hown2 hg2 _
      have HN2 : Hid (q / 256 = n / 256 ^ (k + 1) ∧ OwnB w2 w.heap.size v2 (fixB n (k + 1)) ∧ Below w.heap.size w w2) :=
        ⟨by rw [HR.out.1, Nat.pow_succ, Nat.div_div_eq_div_mul], by rw [fixB, hu]; exact hown2, (HR.out.2.2.alloc HR.out.2.2.size _).grown hg2 (by have := HR.out.2.2.size; simp; omega) (fun j hj => by cases hj; exact HR.out.2.2.size)⟩
      clear hown2 hg2 HR hlen hcs hu
      go_wp2
      go_roundw
      case rel => exact ⟨k + 1, q / 256, by omega, hq2, by go_num, by rw [WQ.out], HN2⟩
      case measure => simp [intOf]; omega
    · obtain rfl : k = s := by omega
      go_wp2_with fail
      go_ret
      exact RetB.mk HR.out.2.1 HR.out.2.2
/-! ### the document's reader -/
theorem mul_add64 (x : Nat) (c : UInt8) (h : x < 72057594037927936) : IntKind.u64.wrap (IntKind.u64.wrap ((x : Int) * 256) + (c.toNat : Int)) = ((x * 256 + c.toNat : Nat) : Int) := by
  have hc := c.toNat_lt
  rw [u64_id ((x : Int) * 256) (by omega) (by omega), u64_id _ (by omega) (by omega)]
  omega
theorem mul64 (x : Nat) (h : x < 72057594037927936) : IntKind.u64.wrap ((x : Int) * 256) = (x : Int) * 256 := u64_id _ (by omega) (by omega)
end Go.Proofs.YtibmlgkakeakcaaDoor
/- append of bytes, as a run and as one step of a region. -/
set_option linter.unusedSimpArgs false
set_option linter.unusedVariables false
namespace Go.Proofs.YtibmlgkakeakcaaDoor
open Go.RowKit Go.Proofs.YtibmlgkakeakcaaDoor.Crc
theorem run_append_bytes (w : World) (base : Nat) (A : Option Addr) (m c : Nat) (l' : List UInt8) (hm : m = l'.length) (hnil : A = none → c = 0) (hb : Bytes w A l') (hbytes : l'.length ≤ 140737488355328) (hbase : base ≤ w.heap.size) :
    ∃ v' w', (Builtin.append_ #[30, 30] 30 #[.slice none 0 0, .slice A m c]).run Tryd.prog w = .ok v' w' ∧ OwnB w' base v' l' ∧ w.grownBy w' none := by
  obtain ⟨i, hi, hz0, hz1, hz2⟩ := info_parts info8
  subst hm
  have hown : w.ownsRow base 5 1 (.slice none 0 0) 0 [] := World.ownsRow_nil _ _ _ _
  cases A with
  | none =>
    have hl : l' = [] := hb.none
    subst hl
    have hc := hnil rfl
    subst hc
    exact ⟨_, _, run_append_owned_none (P := Tryd.prog) w base 30 30 5 i 1 Tryd.underlying30 hi (.slice none 0 0) 0 [] hown, hown, World.grownBy.refl _ _⟩
  | some ad =>
    obtain ⟨v', w', hr, h2, h3, _⟩ := run_append_own_at (P := Tryd.prog) w base 30 30 5 i (.int .u8 0) 1 1 Tryd.underlying30 hi hz0 hz1 hz2 rfl (by decide) (.slice none 0 0) 0 [] hown ad l'.length c (cells8 l') (by rw [cells8_length, Nat.mul_one]) (fun j u hj => by
      have hlt : j < l'.length := by have := (List.getElem?_eq_some_iff.1 hj).1; rwa [cells8_length] at this
      obtain ⟨ad', hA, hc⟩ := hb j hlt
      cases hA
      rw [cells8_get l' j hlt] at hj
      rw [hc, hj]) (cells8_one l') (by unfold maxLen; omega) (by omega) hbase
    refine ⟨v', w', hr, ?_, h3⟩
    unfold OwnB
    rw [Nat.zero_add, List.nil_append] at h2
    exact h2
theorem step_appendTo {P : Program} {ops : Array Oper} {o : Oper} {a : Act} {w : World} {K : Act → World → Prop} {Q : Exit → Act → World → Prop} {E : Prop} (hgd : o.guard = none) (t ty : TypeId) (s x : Operand)
    (ho : o.op = .call { callee := .builtin .append, args := #[s, x], argTypes := #[t, t] }) (hty : o.type = ty) (p q v : Value) (w' : World) (hs : a.eval s = p) (hx : a.eval x = q)
    (hrun : (Builtin.append_ #[t, t] ty #[p, q]).run P w = .ok v w') (hK : K (a.put o.dst v) w') : if Region.wanted o (yielded ops a.tmps) = true then Oper.wp P o a w K Q else E := by
  have hw : Region.wanted o (yielded ops a.tmps) = true := by simp [Region.wanted, hgd]
  rw [if_pos hw]
  unfold Oper.wp execOp
  simp only [ho, resolve, invoke, builtin, hty, Sem.run_bind, Sem.run_pure, Result.andThen_ok, List.map_toArray, List.map_cons, List.map_nil, hs, hx, hrun]
  exact hK
end Go.Proofs.YtibmlgkakeakcaaDoor
/- The document's pages: Taken; an append as one step of a region. -/
set_option linter.unusedSimpArgs false
set_option linter.unusedVariables false
namespace Go.Proofs.YtibmlgkakeakcaaDoor
open Go.RowKit Go.Proofs.YtibmlgkakeakcaaDoor.Crc
set_option maxHeartbeats 1000000 in
theorem refTaken_calls (A : Option Addr) (n c : Nat) (ls : List (List UInt8)) (w : World) (hn : n = ls.length) (hR : RowsB w A ls) (hs : 2 * ls.length + sizC ls ≤ 9223372036854775807) :
    Calls Tryd.prog 41 #[.slice A n c] w fun e w' => e = .returned (.int .i64 ((2 * ls.length + sizC ls : Nat) : Int)) ∧ w = w' := by
  have HR := Lib.hid hR
  have HN := Lib.hid hn
  have hn2 : n ≤ 4611686018427387903 := by omega
  obtain ⟨T, hT⟩ : ∃ T, 2 * ls.length + sizC ls = T := ⟨_, rfl⟩
  rw [hT] at hs ⊢
  have HT := Lib.hid hT
  clear hn hR hT
  go_enter Tryd.func41, Tryd.ntmps41
  go_wp2_with fail
  go_loop [3, 4] (fun t i => ∃ k S : Nat, k ≤ n ∧ S ≤ T ∧ i = .int .i64 (k : Int) ∧ t = .int .i64 (S : Int) ∧ Hid (S = 2 * k + sizC (ls.take k))) (fun _ i => n - (intOf i).toNat)
  case atStart => exact ⟨0, 0, Nat.zero_le _, Nat.zero_le _, rfl, rfl, rfl⟩
  case round =>
    obtain ⟨k, S, hk, hS, rfl, rfl, HS⟩ := hrel
    by_cases hlt : k < n
    · obtain ⟨b, o, rfl⟩ := HR.out.spot (by rw [← HN.out]; omega)
      obtain ⟨Ai, ci, hc, hs⟩ := HR.out.at k (by rw [← HN.out]; exact hlt)
      have hkl : k < ls.length := by rw [← HN.out]; exact hlt
      have hst : ls.take (k + 1) = ls.take k ++ [ls[k]] := List.take_succ_eq_append_getElem hkl
      have hle := sizC_take_all ls (k + 1)
      rw [hst, sizC_append, sizC_cons, sizC_nil, Nat.add_zero] at hle
      obtain ⟨m, hm⟩ : ∃ m, ls[k].length = m := ⟨_, rfl⟩
      rw [hm] at hc hle
      have hnext : S + 2 + m = 2 * (k + 1) + sizC (ls.take (k + 1)) := by rw [hst, sizC_append, sizC_cons, sizC_nil, hm, HS.out]; omega
      have hb1 : S + 2 + m ≤ T := by rw [hnext, ← HT.out, hst, sizC_append, sizC_cons, sizC_nil, hm]; omega
      have HNx := Lib.hid hnext
      clear hs hst hle hm hnext hkl
      go_wp2_with fail
      go_round
      case rel => exact ⟨k + 1, S + 2 + m, by omega, hb1, by go_num, by go_num, HNx⟩
      case measure => simp [intOf]; omega
    · obtain rfl : k = n := by omega
      have hST : S = T := by rw [HS.out, ← HT.out, List.take_of_length_le (by rw [HN.out]; exact Nat.le_refl _), HN.out]
      subst hST
      go_wp2_with fail
      go_ret
      exact ⟨rfl, rfl⟩
theorem fixB_two (n : Nat) : fixB n 2 = w2 n := by
  show [byteAt n 1, byteAt n 0] = _
  unfold byteAt w2
  simp
theorem u8_wrap (n : Nat) : IntKind.u8.wrap (n : Int) = ((UInt8.ofNat n).toNat : Int) := by simp only [IntKind.wrap, IntKind.bits, IntKind.signed]; simp
/-- append of bytes, as one step of a region. -/
theorem step_append_bytes {ops : Array Oper} {o : Oper} {a : Act} {w : World} {K : Act → World → Prop} {Q : Exit → Act → World → Prop} {E : Prop} (hgd : o.guard = none) (s x : Operand)
    (ho : o.op = .call { callee := .builtin .append, args := #[s, x], argTypes := #[30, 30] })
    (base : Nat) (v : Value) (l : List UInt8) (hs : a.eval s = v) (hown : OwnB w base v l)
    (ad : Addr) (m c : Nat) (l' : List UInt8) (hx : a.eval x = .slice (some ad) m c) (hm : m = l'.length) (hb : Bytes w (some ad) l')
    (hbytes : l.length + l'.length ≤ 140737488355328) (hbase : base ≤ w.heap.size)
    (h : ∀ v' w', Hid (OwnB w' base v' (l ++ l') ∧ w.grownBy w' v.ownBlock) → K (a.put o.dst v') w') : if Region.wanted o (yielded ops a.tmps) = true then Oper.wp Tryd.prog o a w K Q else E := by
  obtain ⟨i, hi, hz0, hz1, hz2⟩ := info_parts info8
  subst hm
  have hw : Region.wanted o (yielded ops a.tmps) = true := by simp [Region.wanted, hgd]
  rw [if_pos hw]
  refine wp_append_own w s x _ ho base 5 i (.int .u8 0) 1 1 Tryd.underlying30 hi hz0 hz1 hz2 rfl (by decide) v l.length (cells8 l) hs hown ad l'.length c (cells8 l') hx (by rw [cells8_length, Nat.mul_one]) ?_ (cells8_one l') (by unfold maxLen; omega) (by omega) hbase ?_
  · intro j u hj
    have hlt : j < l'.length := by have := (List.getElem?_eq_some_iff.1 hj).1; rwa [cells8_length] at this
    obtain ⟨ad', hA, hc⟩ := hb j hlt
    cases hA
    rw [cells8_get l' j hlt] at hj
    rw [hc, hj]
  · intro v' w' hown' hg hnn
    refine h v' w' ⟨?_, hg⟩
    unfold OwnB
    rw [List.length_append, cells8_append]
    exact hown'
end Go.Proofs.YtibmlgkakeakcaaDoor
/- The document's Bytes. -/
set_option linter.unusedSimpArgs false
set_option linter.unusedVariables false
namespace Go.Proofs.YtibmlgkakeakcaaDoor
open Go.RowKit Go.Proofs.YtibmlgkakeakcaaDoor.Crc
theorem Below.up {B : Nat} {w a b : World} (h : Below B w a) (k : Below a.heap.size a b) (hB : B ≤ w.heap.size) : Below B w b := h.trans (k.mono (Nat.le_trans hB h.size))
set_option maxRecDepth 100000 in
set_option maxHeartbeats 2000000 in
theorem refPBytes_calls (no : Nat) (k : UInt8) (A : Option Addr) (n c : Nat) (ls : List (List UInt8)) (w : World) (hno : no ≤ 2147483647) (hn : n = ls.length) (hR : RowsB w A ls) (hf : fitC ls) :
    Calls Tryd.prog 66 #[.agg #[.int .i64 (no : Int), .int .u8 (k.toNat : Int), .slice A n c]] w (RetB w (pageB no k ls)) := by
  have hf' : 2 * ls.length + sizC ls ≤ 244 := hf
  have hn122 : n ≤ 122 := by omega
  have HN := Lib.hid hn
  obtain ⟨S, hS⟩ : ∃ S, sizC ls = S := ⟨_, rfl⟩
  have HS := Lib.hid hS
  have hS244 : 2 * n + S ≤ 244 := by omega
  have HT0 := fun (w' : World) (h : RowsB w' A ls) => refTaken_calls A n c ls w' hn h (by omega)
  rw [hS, ← hn] at HT0
  have HT := Lib.hid HT0
  have HF := Lib.hid (fun (x : Nat) (hx : x ≤ 2147483647) (s : Nat) (hs : s ≤ 8) (w' : World) => refFixed_calls x (by omega) s hs w')
  have HNo := Lib.hid hno
  have HR := Lib.hid hR
  have HFi := Lib.hid hf
  clear hn hS HT0 hR hf hf'
  go_enter Tryd.func66, Tryd.ntmps66
  go_wp2_with fail
  obtain ⟨B, hB⟩ : ∃ B, w.heap.size = B := ⟨_, rfl⟩
  have hbox : (w.alloc (Obj.cells #[.int .i64 (no : Int), .int .u8 (k.toNat : Int), .slice A n c] 99)).heap[B]? = some (.cells #[.int .i64 (no : Int), .int .u8 (k.toNat : Int), .slice A n c] 99 (0, 0)) := by rw [← hB]; exact heap_alloc_new w _
  have hbw : Below w.heap.size w (w.alloc (Obj.cells #[.int .i64 (no : Int), .int .u8 (k.toNat : Int), .slice A n c] 99)) := (Below.refl _ _).alloc (Nat.le_refl _) _
  rw [hB]
  obtain ⟨w1, hw1⟩ : ∃ w1, w.alloc (Obj.cells #[.int .i64 (no : Int), .int .u8 (k.toNat : Int), .slice A n c] 99) = w1 := ⟨_, rfl⟩
  rw [hw1] at hbox hbw ⊢
  have hBlt : B < w1.heap.size := (Array.getElem?_eq_some_iff.1 hbox).1
  have HX : Hid (∀ wr : World, Below w1.heap.size w1 wr → wr.cell? ⟨B, 0, none⟩ = some (.int .i64 (no : Int)) ∧ wr.cell? ⟨B, 1, none⟩ = some (.int .u8 (k.toNat : Int)) ∧ wr.cell? ⟨B, 2, none⟩ = some (.slice A n c) ∧ RowsB wr A ls) := by
    intro wr hwr
    have hb := hwr.block B hBlt
    rw [hbox] at hb
    refine ⟨?_, ?_, ?_, (HR.out.below hbw).below hwr⟩
    all_goals (rw [cell_of_row _ _ _ _ _ _ hb]; rfl)
  have HB1 := Lib.hid hbw
  clear hbox hbw hw1 hB hBlt
  obtain ⟨x0, x1, x2, hR1⟩ := HX.out w1 (Below.refl _ _)
  have e1 : IntKind.i64.wrap (2 * (n : Int)) = 2 * (n : Int) := IntWalk.i64_in _ (by omega)
  have e2 : ((2 * n + S : Nat) : Int) - 2 * (n : Int) = (S : Int) := by omega
  have e3 : IntKind.i64.wrap (((2 * n + S : Nat) : Int) - 2 * (n : Int)) = (S : Int) := by rw [e2]; exact IntWalk.i64_in _ (by omega)
  have HTk := Lib.hid (fun m => HT.out (w1.drewN m) (hR1.below (kept_drewN w1 m)))
  clear e2 hR1
  go_quiet ((go_at_call 41; exact Calls.quiet_of_same ((HTk.out _).mono fun e w' h => ⟨h.1, h.2.symm⟩)))
  rw [show 2 * (n : Int) + (S : Int) - 2 * (n : Int) = (S : Int) by omega]
  clear e1 e3 HTk x0 x1 x2
  have HB2 : Hid (Below w1.heap.size w1 (w1.drewN nq)) := kept_drewN w1 nq
  obtain ⟨wb, hw2⟩ : ∃ wb, w1.drewN nq = wb := ⟨_, rfl⟩
  rw [hw2] at HB2 ⊢
  clear hw2
  go_wp2_with fail
  obtain ⟨x0, x1, x2, _⟩ := HX.out wb HB2.out
  have u1 : IntKind.u64.wrap (no : Int) = (no : Int) := u64_id _ (by omega) (by omega)
  have u2 := byte_mod1 n
  have u3 := u8_wrap n
  obtain ⟨cn, hcn⟩ : ∃ cn, UInt8.ofNat n = cn := ⟨_, rfl⟩
  rw [hcn] at u2 u3
  have HCn := Lib.hid hcn
  clear hcn
  have hF1 := HF.out no HNo.out 4 (by decide)
  rw [show ((4 : Nat) : Int) = 4 from rfl] at hF1
  have HF1 := Lib.hid hF1
  have HB2d : Hid (Below w1.heap.size w1 wb.drew) := HB2.out.drew
  have HL4 : Hid ((fixB no 4).length = 4) := fixB_length _ _
  clear hF1
  have HK : Hid (∀ wr : World, Hid (Below w1.heap.size w1 wr) → wr.cell? ⟨B, 0, none⟩ = some (.int .i64 (no : Int)) ∧ wr.cell? ⟨B, 1, none⟩ = some (.int .u8 (k.toNat : Int)) ∧ wr.cell? ⟨B, 2, none⟩ = some (.slice A n c) ∧ Hid (Below w1.heap.size w1 wr)) :=
    fun wr h => ⟨(HX.out wr h.out).1, (HX.out wr h.out).2.1, (HX.out wr h.out).2.2.1, h⟩
  have HAl : Hid (∀ (wr : World) (o : Obj), Hid (Below w1.heap.size w1 wr) → Hid (Below w1.heap.size w1 (wr.alloc o))) := fun wr o h => h.out.alloc h.out.size _
  clear x0 x1 x2
  go_cut [4] (fun v wr => Hid (OwnB wr w1.heap.size v (fixB no 4 ++ [k, cn]) ∧ Below w1.heap.size w1 wr))
  case first =>
    go_region_held3 (fun wr => wr.cell? ⟨B, 0, none⟩ = some (.int .i64 (no : Int)) ∧ wr.cell? ⟨B, 1, none⟩ = some (.int .u8 (k.toNat : Int)) ∧ wr.cell? ⟨B, 2, none⟩ = some (.slice A n c) ∧ Hid (Below w1.heap.size w1 wr)) (first | assumption | exact HK.out _ HB2d | exact HK.out _ (HAl.out _ _ HB2d) | exact HK.out _ (HAl.out _ _ (by assumption))) (first | (go_at_call 68; (with_reducible refine (HF1.out _).mono ?_); rintro e w4 ⟨A4, c4, rfl, hO4, hb4⟩; have hB4 : Hid (Below w1.heap.size w1 w4) := Below.up (show _ ∧ _ ∧ _ ∧ Hid (Below w1.heap.size w1 _) from by assumption).2.2.2.out hb4 (Nat.le_refl _); have hS4 := HK.out w4 hB4; have hO4b := hO4.base (show _ ∧ _ ∧ _ ∧ Hid (Below w1.heap.size w1 _) from by assumption).2.2.2.out.size) | (refine step_append_bytes (by rfl) _ _ (by rfl) w1.heap.size _ (fixB no 4) (by rfl) (hO4b.alloc _) ⟨w4.heap.size, 0, none⟩ 2 2 [k, cn] (by rfl) rfl (bytes_of_block (heap_alloc_new _ _) rfl) (by rw [HL4.out]; exact (by decide : 4 + 2 ≤ 140737488355328)) (HAl.out _ _ hB4).out.size ?_; intro v5 w5 H5; have hB5 : Hid (Below w1.heap.size w1 w5) := (HAl.out _ _ hB4).out.grown H5.out.2 (HAl.out _ _ hB4).out.size (fun j hj => (hO4b.lt j hj).1); have hS5 := HK.out w5 hB5) | (refine step_append_bytes (by rfl) _ _ (by rfl) w1.heap.size _ (fixB no 4) (by rfl) hO4b _ 2 2 [k, cn] (by rfl) rfl ((bytes_of_block (heap_alloc_new _ _) rfl).drew.below hb4) (by rw [HL4.out]; exact (by decide : 4 + 2 ≤ 140737488355328)) hB4.out.size ?_; intro v5 w5 H5; have hB5 : Hid (Below w1.heap.size w1 w5) := hB4.out.grown H5.out.2 hB4.out.size (fun j hj => (hO4b.lt j hj).1); have hS5 := HK.out w5 hB5))
    all_goals
      go_wp2_with fail
      go_meet
      case rel => exact ⟨H5.out.1, hB5.out⟩
  case rest =>
    clear u1 u2 u3 HK HF1 HB2d HB2
    have HL6 : Hid ((fixB no 4 ++ [k, cn]).length = 6) := by show _ = _; rw [List.length_append, fixB_length]; rfl
    have hF2 := HF.out S (by omega) 2 (by decide)
    rw [fixB_two, show ((2 : Nat) : Int) = 2 from rfl] at hF2
    have HF2 := Lib.hid hF2
    have u1 : IntKind.u64.wrap (S : Int) = (S : Int) := u64_id _ (by omega) (by omega)
    clear hF2
    have HO0 := Lib.hid hcut.out.1
    have HB0 := Lib.hid hcut.out.2
    clear hcut
    go_wp2_with (first | (go_at_call 68; (with_reducible refine (HF2.out _).mono ?_); rintro e w6 ⟨A6, c6, rfl, hO6, hb6⟩; refine park ?_; intro q hq))
    have HB6 : Hid (Below w1.heap.size w1 w6) := Below.up HB0.out hb6 (Nat.le_refl _)
    have HO6 := Lib.hid (hO6.base HB0.out.size)
    have HO06 := Lib.hid (HO0.out.below hb6)
    have HAp : Hid (∀ k, A6 = some ⟨k, 0, none⟩ → True) := fun _ _ => trivial
    have hcap6 := OwnB.caps hO6
    refine hq.out ?_
    clear hq
    go_wp2_with (with_reducible refine park_append ?_; intro q hq)
    refine hq.out ?_
    clear hq
    refine wpList_append_bytes rfl _ _ rfl w1.heap.size _ (fixB no 4 ++ [k, cn]) rfl HO06.out A6 (w2 S).length c6 (w2 S) rfl rfl hcap6.2.2.2 hO6.bytes (by rw [HL6.out, w2_length]; decide) HB6.out.size ?_
    intro v7 w7 hO7 hg7 _
    have HO7 : Hid (OwnB w7 w1.heap.size v7 (headPg no k n S)) := by
      have : fixB no 4 ++ [k, cn] ++ w2 S = headPg no k n S := by unfold headPg; rw [← HCn.out]; simp
      show OwnB _ _ _ _
      rw [← this]; exact hO7
    have HB7 : Hid (Below w1.heap.size w1 w7) := HB6.out.grown hg7 HB6.out.size (fun j hj => (HO06.out.lt j hj).1)
    clear hO7 hg7 hO6 hb6 hcap6 HO06 HO6 HAp HB6 HB0 HO0
    have HI1 : Hid (OwnB w7 w1.heap.size v7 (headPg no k n S ++ endsB 0 (ls.take 0)) ∧ Below w1.heap.size w1 w7 ∧ 0 = sizC (ls.take 0)) := ⟨by show OwnB _ _ _ _; rw [List.take_zero, endsB, List.append_nil]; exact HO7.out, HB7.out, rfl⟩
    clear HO7 HB7 u1 HF2 HL6 HL4
    go_wp2_with fail
    go_loopw [4, 5, 6] (fun b e i wr => ∃ (j E : Nat), j ≤ n ∧ E ≤ S ∧ i = .int .i64 (j : Int) ∧ e = .int .i64 (E : Int) ∧ Hid (OwnB wr w1.heap.size b (headPg no k n S ++ endsB 0 (ls.take j)) ∧ Below w1.heap.size w1 wr ∧ E = sizC (ls.take j))) (fun _ _ i _ => n - (intOf i).toNat)
    case atStart => exact ⟨0, 0, Nat.zero_le _, Nat.zero_le _, rfl, rfl, HI1⟩
    case round =>
      obtain ⟨j, E, hj, hE, rfl, rfl, HJ⟩ := hrel
      obtain ⟨_, _, x2, hRr⟩ := HX.out wr HJ.out.2.1
      by_cases hlt : j < n
      · obtain ⟨bb, oo, rfl⟩ := hRr.spot (by rw [← HN.out]; omega)
        obtain ⟨Aj, cj, hcj, hsj⟩ := hRr.at j (by rw [← HN.out]; exact hlt)
        have hjl : j < ls.length := by rw [← HN.out]; exact hlt
        have hst : ls.take (j + 1) = ls.take j ++ [ls[j]] := List.take_succ_eq_append_getElem hjl
        have hle := sizC_take_all ls (j + 1)
        rw [HS.out, hst, sizC_append, sizC_cons, sizC_nil, Nat.add_zero, ← HJ.out.2.2] at hle
        obtain ⟨m, hm⟩ : ∃ m, ls[j].length = m := ⟨_, rfl⟩
        rw [hm] at hcj hle
        have hE2 : E + m = sizC (ls.take (j + 1)) := by rw [hst, sizC_append, sizC_cons, sizC_nil, hm, ← HJ.out.2.2]; omega
        have hen : endsB 0 (ls.take (j + 1)) = endsB 0 (ls.take j) ++ w2 (E + m) := by rw [hst, endsB_append, endsB, endsB, hm, ← HJ.out.2.2]; simp
        have HE2 := Lib.hid hE2
        have HEn := Lib.hid hen
        have hF2 := HF.out (E + m) (by omega) 2 (by decide)
        rw [fixB_two, show ((2 : Nat) : Int) = 2 from rfl, show ((E + m : Nat) : Int) = (E : Int) + (m : Int) by omega] at hF2
        have HF2 := Lib.hid hF2
        have u1 : IntKind.u64.wrap ((E : Int) + (m : Int)) = (E : Int) + (m : Int) := u64_id _ (by omega) (by omega)
        have hlen : (headPg no k n S ++ endsB 0 (ls.take j)).length ≤ 256 := by rw [List.length_append, headPg_length, endsB_length, List.length_take]; omega
        have HLe := Lib.hid hlen
        clear hF2 hE2 hen hst hjl hm hsj hRr hlen
        go_wp2_with (first | (go_at_call 68; (with_reducible refine (HF2.out _).mono ?_); rintro e w6 ⟨A6, c6, rfl, hO6, hb6⟩; refine park ?_; intro q hq))
        have HB6 : Hid (Below w1.heap.size w1 w6) := Below.up HJ.out.2.1 hb6 (Nat.le_refl _)
        have HO06 := Lib.hid (HJ.out.1.below hb6)
        have hcap6 := OwnB.caps hO6
        refine hq.out ?_
        clear hq
        go_wp2_with (with_reducible refine park_append ?_; intro q hq)
        refine hq.out ?_
        clear hq
        refine wpList_append_bytes rfl _ _ rfl w1.heap.size _ _ rfl HO06.out A6 (w2 (E + m)).length c6 (w2 (E + m)) rfl rfl hcap6.2.2.2 hO6.bytes (by have := HLe.out; rw [w2_length]; omega) HB6.out.size ?_
        intro v7 w7 hO7 hg7 _
        have HF7 : Hid (OwnB w7 w1.heap.size v7 (headPg no k n S ++ endsB 0 (ls.take (j + 1))) ∧ Below w1.heap.size w1 w7 ∧ E + m = sizC (ls.take (j + 1))) :=
          ⟨by show OwnB _ _ _ _; rw [HEn.out, ← List.append_assoc]; exact hO7, HB6.out.grown hg7 HB6.out.size (fun j hj => (HO06.out.lt j hj).1), HE2.out⟩
        clear hO7 hg7 hO6 hb6 hcap6 HO06 HB6
        go_wp2_with fail
        go_roundw
        case rel => exact ⟨j + 1, E + m, by omega, by omega, by go_num, by go_num, HF7⟩
        case measure => simp [intOf]; omega
      · obtain rfl : j = n := by omega
        have HT2 : Hid (ls.take j = ls) := List.take_of_length_le (by rw [HN.out]; exact Nat.le_refl _)
        have HI2 : Hid (OwnB wr w1.heap.size u4 (headPg no k j S ++ endsB 0 ls ++ (ls.take 0).flatten) ∧ Below w1.heap.size w1 wr) := ⟨by show OwnB _ _ _ _; have := HJ.out.1; rw [HT2.out] at this; rw [List.take_zero, List.flatten_nil, List.append_nil]; exact this, HJ.out.2.1⟩
        clear hRr
        go_wp2_with fail
        clear x2
        go_loopw [4, 7] (fun b i wr => ∃ (t : Nat), t ≤ j ∧ i = .int .i64 (t : Int) ∧ Hid (OwnB wr w1.heap.size b (headPg no k j S ++ endsB 0 ls ++ (ls.take t).flatten) ∧ Below w1.heap.size w1 wr)) (fun _ i _ => j - (intOf i).toNat)
        case atStart => exact ⟨0, Nat.zero_le _, rfl, HI2⟩
        case round =>
          obtain ⟨t, ht, rfl, HJ2⟩ := hrel
          obtain ⟨_, _, x2, hRr⟩ := HX.out wr HJ2.out.2
          by_cases hlt2 : t < j
          · obtain ⟨bb, oo, rfl⟩ := hRr.spot (by rw [← HN.out]; omega)
            obtain ⟨Aj, cj, hcj, hsj⟩ := hRr.at t (by rw [← HN.out]; exact hlt2)
            have hjl : t < ls.length := by rw [← HN.out]; exact hlt2
            have hst : ls.take (t + 1) = ls.take t ++ [ls[t]] := List.take_succ_eq_append_getElem hjl
            have hle := sizC_take_all ls (t + 1)
            rw [HS.out, hst, sizC_append, sizC_cons, sizC_nil, Nat.add_zero] at hle
            have hfl : headPg no k j S ++ endsB 0 ls ++ (ls.take (t + 1)).flatten = headPg no k j S ++ endsB 0 ls ++ (ls.take t).flatten ++ ls[t] := by rw [hst, List.flatten_append, List.flatten_cons, List.flatten_nil, List.append_nil]; simp only [List.append_assoc]
            have hlen : (headPg no k j S ++ endsB 0 ls ++ (ls.take t).flatten).length + ls[t].length ≤ 1000 := by
              rw [List.length_append, List.length_append, headPg_length, endsB_length, sizC_flatten, ← HN.out]; omega
            obtain ⟨bt, hbt⟩ : ∃ bt, ls[t] = bt := ⟨_, rfl⟩
            rw [hbt] at hcj hsj hfl hlen
            have HFl := Lib.hid hfl
            have HLe := Lib.hid hlen
            have HSj := Lib.hid hsj
            obtain ⟨m, hm⟩ : ∃ m, bt.length = m := ⟨_, rfl⟩
            rw [hm] at hcj HSj
            clear hst hle hfl hlen hbt hsj hjl hRr hm
            go_wp2_with (with_reducible refine park_append ?_; intro q hq)
            refine hq.out ?_
            clear hq
            refine wpList_append_bytes rfl _ _ rfl w1.heap.size _ _ rfl HJ2.out.1 Aj m cj bt rfl HSj.out.1 HSj.out.2.2.2.2 HSj.out.2.1 (by have := HLe.out; omega) HJ2.out.2.size ?_
            intro v7 w7 hO7 hg7 _
            have HF7 : Hid (OwnB w7 w1.heap.size v7 (headPg no k j S ++ endsB 0 ls ++ (ls.take (t + 1)).flatten) ∧ Below w1.heap.size w1 w7) :=
              ⟨by show OwnB _ _ _ _; rw [HFl.out]; exact hO7, HJ2.out.2.grown hg7 HJ2.out.2.size (fun j hj => (HJ2.out.1.lt j hj).1)⟩
            clear hO7 hg7
            go_wp2_with fail
            go_roundw
            case rel => exact ⟨t + 1, by omega, by go_num, HF7⟩
            case measure => simp [intOf]; omega
          · obtain rfl : t = j := by omega
            have hl3 : (headPg no k t S ++ endsB 0 ls ++ ls.flatten).length = 8 + (2 * t + S) := by
              rw [List.length_append, List.length_append, headPg_length, endsB_length, sizC_flatten, ← HN.out, HS.out]; omega
            obtain ⟨L3, hL3⟩ : ∃ L3, headPg no k t S ++ endsB 0 ls ++ ls.flatten = L3 := ⟨_, rfl⟩
            have hO3 : OwnB wr w1.heap.size u4 L3 := by have := HJ2.out.1; rw [HT2.out, hL3] at this; exact this
            rw [hL3] at hl3
            have HL3 := Lib.hid hL3
            have Hl3 := Lib.hid hl3
            have HO3 := Lib.hid hO3
            have HB3 := Lib.hid HJ2.out.2
            clear hl3 hL3 hO3 hRr HJ2
            go_wp2_with fail
            clear x2
            go_loopw [4] (fun v wr => ∃ (A8 : Option Addr) (z m c8 : Nat), v = .slice A8 m c8 ∧ m = 8 + (2 * t + S) + z ∧ m ≤ 256 ∧ Hid (OwnB wr w1.heap.size v (L3 ++ List.replicate z 0) ∧ Below w1.heap.size w1 wr)) (fun v _ => 256 - sliceLen_ v)
            case atStart =>
              obtain ⟨A8, c8, rfl, _, _, _⟩ := HO3.out.sl
              exact ⟨A8, 0, _, c8, rfl, by rw [Hl3.out]; rfl, by rw [Hl3.out]; omega, by have := HO3.out; simpa using this, HB3.out⟩
            case round =>
              obtain ⟨A8, z, m, c8, rfl, hm, hm2, HR3⟩ := hrel
              by_cases hlt3 : m < 256
              · have hm' := Lib.hid hm
                clear hm
                go_wp2_with (with_reducible refine park_append ?_; intro q hq)
                refine hq.out ?_
                clear hq
                refine wpList_append_bytes rfl _ _ rfl w1.heap.size (.slice A8 m c8) (L3 ++ List.replicate z 0) rfl (HR3.out.1.alloc _) (some ⟨wr.heap.size, 0, none⟩) 1 1 [0] rfl rfl (fun h => by cases h) (bytes_of_block (heap_alloc_new wr _) rfl) (by rw [List.length_append, Hl3.out, List.length_replicate]; have := hm'.out; simp; omega) (by have := HR3.out.2.size; simp; omega) ?_
                intro v4 w4 hown4 hg4 _
                have HN4 : Hid (OwnB w4 w1.heap.size v4 (L3 ++ List.replicate (z + 1) 0) ∧ Below w1.heap.size w1 w4) :=
                  ⟨by rw [List.replicate_succ', ← List.append_assoc]; exact hown4, (HR3.out.2.alloc HR3.out.2.size _).grown hg4 (by have := HR3.out.2.size; simp; omega) (fun j hj => (HR3.out.1.lt j hj).1)⟩
                clear hown4 hg4 HR3
                obtain ⟨A4, c4, rfl, _, _, _⟩ := HN4.out.1.sl
                have hl4 : (L3 ++ List.replicate (z + 1) 0).length = m + 1 := by
                  rw [List.length_append, Hl3.out, List.length_replicate]; have h8 : m = 8 + (2 * t + S) + z := hm'.out; omega
                rw [hl4] at HN4 ⊢
                clear hl4
                go_wp2_with fail
                go_roundw
                case rel => exact ⟨A4, z + 1, m + 1, c4, rfl, by have h8 : m = 8 + (2 * t + S) + z := hm'.out; omega, by omega, HN4⟩
                case measure => simp [sliceLen_]; omega
              · have hz : z = 248 - (2 * t + S) := by omega
                have hfin : L3 ++ List.replicate z 0 = pageB no k ls := by
                  rw [← HL3.out, hz]
                  unfold pageB bodyB
                  rw [← HN.out, HS.out]
                  have e5 : List.replicate (248 - (2 * t + S)) (0 : UInt8) = List.replicate (244 - (2 * t + S)) 0 ++ [0, 0, 0, 0] := by
                    rw [show [(0 : UInt8), 0, 0, 0] = List.replicate 4 0 from rfl, List.replicate_append_replicate]
                    congr 1; omega
                  rw [e5]
                  simp only [List.append_assoc]
                have HFin := Lib.hid hfin
                clear hfin hz hm
                go_wp2_with fail
                go_ret
                have := HR3.out.1
                rw [HFin.out] at this
                exact RetB.mk (this.base HB1.out.size) (HB1.out.trans (HR3.out.2.mono HB1.out.size))
end Go.Proofs.YtibmlgkakeakcaaDoor
/- The document's Fill. -/
set_option linter.unusedSimpArgs false
set_option linter.unusedVariables false
namespace Go.Proofs.YtibmlgkakeakcaaDoor
open Go.RowKit Go.Proofs.YtibmlgkakeakcaaDoor.Crc
theorem fillP_bad (no : Int) (k : UInt8) (ls : List (List UInt8)) (h : no < 0 ∨ 2147483647 < no ∨ k = 0) : fillP no k ls = ([], 2) := by unfold fillP; rw [if_pos h]
set_option maxHeartbeats 1000000 in
theorem refPFill_calls (no : Int) (k : UInt8) (A : Option Addr) (n c : Nat) (ls : List (List UInt8)) (w : World) (hn : n = ls.length) (hR : RowsB w A ls) (hs : 2 * ls.length + sizC ls ≤ 9223372036854775807) :
    Calls Tryd.prog 33 #[.int .i64 no, .int .u8 (k.toNat : Int), .slice A n c] w (RetBN w (fillP no k ls).1 (fillP no k ls).2) := by
  obtain ⟨k1, k2⟩ := ltu8 k
  by_cases hb : no < 0 ∨ 2147483647 < no ∨ k = 0
  · rw [fillP_bad no k ls hb]
    clear hR hn hs
    by_cases h1 : no < 0
    · have d1 : decide (no < 0) = true := by simpa using h1
      clear hb h1
      go_enter Tryd.func33, Tryd.ntmps33
      go_wp2_with fail
      go_ret2
      exact RetBN.mk (World.ownsRow_nil _ _ _ _) (Below.refl _ _)
    · have d1 : decide (no < 0) = false := by simpa using h1
      by_cases h2 : 2147483647 < no
      · have d2 : decide (no > 2147483647) = true := by simpa using h2
        clear hb h1 h2
        go_enter Tryd.func33, Tryd.ntmps33
        go_wp2_with fail
        go_ret2
        exact RetBN.mk (World.ownsRow_nil _ _ _ _) (Below.refl _ _)
      · have d2 : decide (no > 2147483647) = false := by simpa using h2
        have h3 : k = 0 := by
          rcases hb with h | h | h
          · exact absurd h h1
          · exact absurd h h2
          · exact h
        subst h3
        clear hb h1 h2
        go_enter Tryd.func33, Tryd.ntmps33
        go_wp2_with fail
        go_ret2
        exact RetBN.mk (World.ownsRow_nil _ _ _ _) (Below.refl _ _)
  · have h1 : 0 ≤ no := by omega
    have h2 : no ≤ 2147483647 := by omega
    have h3 : ¬ k = 0 := fun h => hb (.inr (.inr h))
    have e : fillP no k ls = if 2 * ls.length + sizC ls ≤ 244 then (pageB no.toNat k ls, 0) else ([], 32) := by unfold fillP; rw [if_neg hb]
    obtain ⟨m, rfl⟩ := Int.eq_ofNat_of_zero_le h1
    rw [Int.toNat_natCast] at e
    have d1 : decide ((m : Int) < 0) = false := by simp
    have d2 : decide ((m : Int) > 2147483647) = false := by simp; omega
    have d3 : ((k.toNat : Int) == 0) = false := by
      rw [beq_eq_false_iff_ne]; intro h; exact h3 (UInt8.toNat_inj.1 (by simpa using h))
    have HT := refTaken_calls A n c ls w hn hR hs
    have HBy := fun (hf : fitC ls) => refPBytes_calls m k A n c ls w (by omega) hn hR hf
    have E := Lib.hid e
    have HR := Lib.hid hR
    by_cases hbig : 244 < n
    · have d4 : decide ((n : Int) > 244) = true := by simp; omega
      have e2 : fillP (m : Int) k ls = ([], 32) := by rw [e, if_neg (by omega)]
      have E2 := Lib.hid e2
      clear e e2 hb h1 h2 h3 hn hR hs HT HBy hbig
      go_enter Tryd.func33, Tryd.ntmps33
      go_wp2_with fail
      go_ret2
      rw [E2.out]
      exact RetBN.mk (World.ownsRow_nil _ _ _ _) (Below.refl _ _)
    · have d4 : decide ((n : Int) > 244) = false := by simp; omega
      obtain ⟨T, hT⟩ : ∃ T, 2 * ls.length + sizC ls = T := ⟨_, rfl⟩
      rw [hT] at HT e
      have HHT := Lib.hid HT
      by_cases hfit : T ≤ 244
      · have d5 : decide ((T : Int) > 244) = false := by simp; omega
        have E2 : Hid (fillP (m : Int) k ls = (pageB m k ls, 0)) := by show _ = _; rw [e, if_pos hfit]
        have HB2 := Lib.hid (HBy (by unfold fitC; omega))
        clear e hb h1 h2 h3 hn hR hs HT HBy hbig hT hfit
        go_enter Tryd.func33, Tryd.ntmps33
        go_wp2_with (first | (go_at_call 41; (with_reducible refine HHT.out.mono ?_); rintro e w' ⟨rfl, rfl⟩) | (go_at_call 66; (with_reducible refine HB2.out.mono ?_); rintro e w2 ⟨A2, c2, rfl, hO2, hb2⟩))
        go_ret2
        rw [E2.out]
        exact RetBN.mk hO2 hb2
      · have d5 : decide ((T : Int) > 244) = true := by simp; omega
        have E2 : Hid (fillP (m : Int) k ls = ([], 32)) := by show _ = _; rw [e, if_neg hfit]
        clear e hb h1 h2 h3 hn hR hs HT HBy hbig hT hfit
        go_enter Tryd.func33, Tryd.ntmps33
        go_wp2_with (first | (go_at_call 41; (with_reducible refine HHT.out.mono ?_); rintro e w' ⟨rfl, rfl⟩))
        go_ret2
        rw [E2.out]
        exact RetBN.mk (World.ownsRow_nil _ _ _ _) (Below.refl _ _)
end Go.Proofs.YtibmlgkakeakcaaDoor
/- The walks of the document's Uint and Text. -/
set_option linter.unusedSimpArgs false
set_option linter.unusedVariables false
namespace Go.Proofs.YtibmlgkakeakcaaDoor
open Go.RowKit Go.Proofs.YtibmlgkakeakcaaDoor.Crc
theorem lit_own (w : World) (c : UInt8) (v : Value) (hv : v = .int .u8 (c.toNat : Int)) : OwnB (w.alloc (.cells #[v] 5)) w.heap.size (.slice (some ⟨w.heap.size, 0, none⟩) 1 1) [c] := by
  subst hv
  exact OwnB.lit w w.heap.size (Nat.le_refl _) [.int .u8 (c.toNat : Int)] [c] rfl 1 rfl (by decide)
set_option maxRecDepth 10000 in
set_option maxHeartbeats 1000000 in
theorem refUint_calls : ∀ (k n : Nat), n < 128 ^ (k + 1) → n < 18446744073709551616 → ∀ w : World, Calls Tryd.prog 94 #[.int .u64 (n : Int)] w (RetB w (putU n)) := by
  intro k
  induction k with
  | zero =>
    intro n hn hn2 w
    have h128 : n < 128 := by simpa using hn
    have hb8 := Lib.hid (show (n : Int) = ((UInt8.ofNat n).toNat : Int) by simp; omega)
    have hpu := Lib.hid (putU_small n h128)
    have h256 : (n : Int) < 256 := by omega
    clear hn hn2
    go_enter Tryd.func94, Tryd.ntmps94
    go_wp2_with fail
    go_ret
    rw [hpu.out]
    exact RetB.mk (lit_own w _ _ (by rw [hb8.out])) ((Below.refl _ _).alloc (Nat.le_refl _) _)
  | succ k ih =>
    intro n hn hn2 w
    by_cases h128 : n < 128
    · have hb8 := Lib.hid (show (n : Int) = ((UInt8.ofNat n).toNat : Int) by simp; omega)
      have hpu := Lib.hid (putU_small n h128)
      have h256 : (n : Int) < 256 := by omega
      clear hn hn2 ih
      go_enter Tryd.func94, Tryd.ntmps94
      go_wp2_with fail
      go_ret
      rw [hpu.out]
      exact RetB.mk (lit_own w _ _ (by rw [hb8.out])) ((Below.refl _ _).alloc (Nat.le_refl _) _)
    · have hpu := Lib.hid (putU_big n h128)
      have hI := Lib.hid (fun w => ih (n / 128) (by rw [Nat.pow_succ] at hn; exact Nat.div_lt_of_lt_mul (by rw [Nat.mul_comm]; exact hn)) (by omega) w)
      have hdiv : ((n / 128 : Nat) : Int) = (n : Int) / 128 := by omega
      rw [hdiv] at hI
      have hH : Hid (((n : Int) % 128 + 128) = ((UInt8.ofNat (n % 128 + 128)).toNat : Int)) := by
        show _ = _
        simp; omega
      have hPl := Lib.hid (putU_len10 (n / 128) (by omega))
      clear hn hdiv ih
      go_enter Tryd.func94, Tryd.ntmps94
      go_wp2_with (first | (go_at_call 94; (with_reducible refine (hI.out _).mono ?_); rintro e w2 ⟨A2, c2, rfl, ho2, hb2⟩) | (with_reducible refine park_append ?_; intro q hq))
      refine hq.out ?_
      clear hq hI
      have HL : Hid (OwnB w2 w.heap.size (.slice (some ⟨w.heap.size, 0, none⟩) 1 1) [UInt8.ofNat (n % 128 + 128)] ∧ Below w.heap.size w w2) :=
        ⟨(lit_own w _ _ (by rw [hH.out])).below hb2, ((Below.refl _ _).alloc (Nat.le_refl _) _).trans (hb2.mono (by simp))⟩
      have HO2 := Lib.hid ho2
      clear ho2 hb2
      refine wpList_append_bytes rfl _ _ rfl w.heap.size (.slice (some ⟨w.heap.size, 0, none⟩) 1 1) [UInt8.ofNat (n % 128 + 128)] rfl HL.out.1 A2 _ c2 (putU (n / 128)) rfl rfl (fun h => by subst h; exact HO2.out.nilcap.2.1) HO2.out.bytes (by have := hPl.out; simp; omega) HL.out.2.size ?_
      intro v3 w3 hown3 hg3 _
      have HN : Hid (OwnB w3 w.heap.size v3 (putU n) ∧ Below w.heap.size w w3) := by
        refine ⟨by rw [hpu.out]; exact hown3, HL.out.2.grown hg3 HL.out.2.size (fun j hj => (HL.out.1.lt j hj).1)⟩
      clear hown3 hg3 HL HO2
      go_wp2_with fail
      go_ret
      exact RetB.mk HN.out.1 HN.out.2
/-- '[]byte(s)' of a string: bytes in a new row; nothing else has turned. -/
theorem bytesWorld_below (w : World) (s : ByteArray) : Below w.heap.size w (Lib.bytesWorld w 5 s) := by
  refine ⟨?_, ?_, ?_, ?_, ?_⟩
  · rfl
  · rfl
  · rfl
  · rw [Lib.bytesWorld_size]; omega
  · intro k hk; exact Lib.bytesWorld_at_old w _ s k hk
theorem bytesWorld_bytes (w : World) (l : List UInt8) : Bytes (Lib.bytesWorld w 5 (bstr l)) (some ⟨w.heap.size, 0, none⟩) l := by
  intro i hi
  refine ⟨_, rfl, ?_⟩
  rw [Addr.add_lit, Nat.zero_add, Lib.bytesWorld_cell w _ _ i (by rw [bstr_size]; exact hi)]
  unfold bstr at8
  rfl
theorem run_bytes_of (w : World) (y : ByteArray) : (convert 9 30 (.string y)).run Tryd.prog w = .ok (.slice (some ⟨w.heap.size, 0, none⟩) y.size (grownCap w y.size 0 5)) (Lib.bytesWorld w 5 y) :=
  Lib.run_convert_string_bytes w _ _ _ y Tryd.underlying9 Tryd.underlying30 Tryd.underlying5
/-- '[]byte(s)', as an operation. -/
theorem wpList_bytes_of {w : World} {ops : Array Oper} {rest : List Oper} {o : Oper} {a : Act} {Q : Exit → Act → World → Prop} (hgd : o.guard = none) (x : Operand) (ho : o.op = .convert 9 30 x)
    (l : List UInt8) (y : ByteArray) (hy : y = bstr l) (hx : a.eval x = .string y) (m : Nat) (hm : m = l.length)
    (h : ∀ g c w', Hid (Bytes w' (some ⟨g, 0, none⟩) l ∧ Below w.heap.size w w' ∧ w.heap.size ≤ g) → wpList Tryd.prog ops Q rest (a.put o.dst (.slice (some ⟨g, 0, none⟩) m c)) w') : wpList Tryd.prog ops Q (o :: rest) a w := by
  subst hm
  subst hy
  refine Great.wpList_runTo hgd _ rfl _ _ ?_ (h w.heap.size (grownCap w l.length 0 5) _ ⟨bytesWorld_bytes w l, bytesWorld_below w _, Nat.le_refl _⟩)
  unfold execOp
  simp only [ho, hx, run_bytes_of w (bstr l), bstr_size, Sem.run_bind, Result.andThen_ok, Sem.run_pure]
set_option maxRecDepth 10000 in
set_option maxHeartbeats 1000000 in
theorem refText_calls (s : List UInt8) (hs : s.length ≤ 400000) (w : World) : Calls Tryd.prog 67 #[.string (bstr s)] w (RetB w (textB s)) := by
  obtain ⟨y, hy⟩ : ∃ y, bstr s = y := ⟨_, rfl⟩
  have hsz : y.size = s.length := by rw [← hy, bstr_size]
  have hU := refUint_calls 9 s.length (by rw [show (128 : Nat) ^ (9 + 1) = 1180591620717411303424 from by decide]; omega) (by omega) w
  rw [← hsz] at hU
  have HU := Lib.hid hU
  have HY := Lib.hid hy
  have HSz := Lib.hid hsz
  have HS := Lib.hid hs
  have hw : IntKind.u64.wrap (y.size : Int) = (y.size : Int) := by simp only [IntKind.wrap, IntKind.bits, IntKind.signed]; simp; omega
  rw [hy]
  clear hU hy hsz hs
  go_enter Tryd.func67, Tryd.ntmps67
  go_wp2_with (first | (go_at_call 94; (with_reducible refine HU.out.mono ?_); rintro e w2 ⟨A2, c2, rfl, ho2, hb2⟩) | (with_reducible refine park_at (.convert 9 30 _) ?_; intro q hq))
  refine hq.out ?_
  clear hq HU
  have HO2 := Lib.hid (And.intro ho2 hb2)
  clear ho2 hb2
  refine wpList_bytes_of rfl _ rfl s y HY.out.symm rfl s.length rfl ?_
  intro g3 c3 w3 H3
  go_wp2_with (with_reducible refine park_append ?_; intro q hq)
  refine hq.out ?_
  clear hq
  have hB3 : Below w.heap.size w w3 := HO2.out.2.trans (H3.out.2.1.mono HO2.out.2.size)
  refine wpList_append_bytes rfl _ _ rfl w.heap.size (.slice A2 (putU y.size).length c2) (putU y.size) rfl (HO2.out.1.below H3.out.2.1) (some ⟨g3, 0, none⟩) s.length c3 s rfl rfl (fun h => by cases h) H3.out.1 (by have := putU_len10 y.size (by rw [HSz.out]; have := HS.out; omega); have := HS.out; omega) hB3.size ?_
  intro v4 w4 hown4 hg4 _
  have HN : Hid (OwnB w4 w.heap.size v4 (textB s) ∧ Below w.heap.size w w4) := by
    refine ⟨?_, hB3.grown hg4 hB3.size (fun j hj => (HO2.out.1.lt j hj).1)⟩
    rw [HSz.out] at hown4
    exact hown4
  clear hown4 hg4 HO2 H3 hB3
  go_wp2_with fail
  go_ret
  exact RetB.mk HN.out.1 HN.out.2
end Go.Proofs.YtibmlgkakeakcaaDoor
/- The walks of the document's Cells, Taken, Bytes, Find. -/
set_option linter.unusedSimpArgs false
set_option linter.unusedVariables false
namespace Go.Proofs.YtibmlgkakeakcaaDoor
open Go.RowKit Go.Proofs.YtibmlgkakeakcaaDoor.Crc
theorem OwnRL.fr {w : World} {base : Nat} {v : Value} {ls : List (List UInt8)} (h : OwnRL w base v ls) : ∀ k, v.ownBlock = some k → base ≤ k := fun k hk => by
  obtain ⟨vs, h1, _⟩ := h
  exact (World.ownsRow.lt h1 k hk).1
theorem OwnRL.basele {w : World} {base base' : Nat} {v : Value} {ls : List (List UInt8)} (h : OwnRL w base v ls) (hb : base' ≤ base) : OwnRL w base' v ls := by
  obtain ⟨vs, h1, h2⟩ := h
  refine ⟨vs, ⟨h1.1, ?_⟩, fun i hi => ?_⟩
  · rcases h1.2 with h | ⟨g, cap, cur, a1, a2, r⟩
    · exact .inl h
    · exact .inr ⟨g, cap, cur, a1, by omega, r⟩
  · obtain ⟨A, c, h3, h4⟩ := h2 i hi
    exact ⟨A, c, h3, h4.base hb⟩
set_option maxRecDepth 10000 in
set_option maxHeartbeats 2000000 in
theorem refCells_calls {w : World} {n : NodeM} {kA : Option Addr} {kc : Nat} {vA : Option Addr} {vc : Nat} {iA : Option Addr} {ic : Nat} (h : NodeAt w n kA kc vA vc iA ic) (hr : RightM n) (hn : n.keys.length ≤ 1000) :
    Calls Tryd.prog 34 #[.agg #[.bool n.leaf, .slice kA n.keys.length kc, .slice vA n.vals.length vc, .slice iA n.kids.length ic]] w fun e w' => ∃ A c, e = .returned (.slice A n.keys.length c) ∧ Hid (OwnRL w' w.heap.size (.slice A n.keys.length c) (cellsB n) ∧ Below w.heap.size w w') := by
  obtain ⟨lf, ks, vs, is⟩ := n
  obtain ⟨hb1, hr1⟩ := node_box w (.bool lf) (.slice kA ks.length kc) (.slice vA vs.length vc) (.slice iA is.length ic) 26
  obtain ⟨w1, hw1⟩ : ∃ w1, w.alloc (.cells #[.bool lf, .slice kA ks.length kc, .slice vA vs.length vc, .slice iA is.length ic] 26) = w1 := ⟨_, rfl⟩
  obtain ⟨r, hr0⟩ : ∃ r, w.heap.size = r := ⟨_, rfl⟩
  rw [hw1] at hb1 hr1
  rw [hr0] at hr1
  have hx := box_cells hr1
  have H := Lib.hid (h.below hb1)
  have HB0 : Hid (Below w.heap.size w w1) := hb1
  have hsz : Hid (w.heap.size ≤ w1.heap.size) := hb1.size
  have HX := Lib.hid hx
  have HR := Lib.hid hr
  have HNk : Hid (ks.length ≤ 1000) := hn
  clear hb1 hr1 hx h hr hn
  obtain ⟨x0, x1, x2, x3⟩ := HX.out w1 (Below.refl _ _)
  obtain ⟨nk, hnk⟩ : ∃ k, ks.length = k := ⟨_, rfl⟩
  have HK := Lib.hid hnk
  obtain ⟨nv, hnv⟩ : ∃ k, vs.length = k := ⟨_, rfl⟩
  obtain ⟨ni, hni⟩ : ∃ k, is.length = k := ⟨_, rfl⟩
  have HV := Lib.hid hnv
  have HI := Lib.hid hni
  simp only at hw1 ⊢
  rw [hnk, hnv, hni] at hw1
  rw [hnk, hnv, hni]
  simp only [hnk, hnv, hni] at HX x1 x2 x3 HNk
  have hkm : nk ≤ 9223372036854775807 := Nat.le_trans HNk.out (by decide)
  clear hnk hnv hni
  go_enter Tryd.func34, Tryd.ntmps34
  go_wp2_with fail
  clear hw1 x0 x1 x2 x3
  go_loopw [3, 4] (fun v i wr => ∃ t : Nat, t ≤ nk ∧ i = .int .i64 (t : Int) ∧ Hid (OwnRL wr w1.heap.size v ((cellsB ⟨lf, ks, vs, is⟩).take t) ∧ Below w1.heap.size w1 wr)) (fun _ i _ => nk - (intOf i).toNat)
  case atStart => exact ⟨0, Nat.zero_le _, rfl, OwnRL.nil _ _, Below.refl _ _⟩
  case round =>
    obtain ⟨t, ht, rfl, HQ⟩ := hrel
    obtain ⟨x0, x1, x2, x3⟩ := HX.out _ HQ.out.2
    by_cases hlt : t < nk
    · have hlt' : t < ks.length := by rw [HK.out]; exact hlt
      have HLt := Lib.hid hlt'
      obtain ⟨b, o, hA, _⟩ := H.out.k.spot (by rw [strs_length]; exact Nat.lt_of_le_of_lt (Nat.zero_le _) hlt')
      subst hA
      have hc := (H.out.below HQ.out.2).k.strAt t hlt'
      simp only at hc
      unfold strV at hc
      have hT := refText_calls (atL ks t) (by have := HR.out.key t hlt'; simp only at this; omega) wr
      obtain ⟨s, hs⟩ : ∃ s, bstr (atL ks t) = s := ⟨_, rfl⟩
      rw [hs] at hc hT
      have HT := Lib.hid hT
      have HTl : Hid ((textB (atL ks t)).length ≤ 50) := by
        have h1 := HR.out.key t hlt'
        simp only at h1
        have h2 := textB_len (atL ks t) (by omega)
        show _ ≤ _
        omega
      clear hs hT hlt'
      cases lf
      · -- inner
        obtain ⟨q1, q2, q3⟩ := HR.out.kid rfl t HLt.out
        simp only at q1 q2 q3
        obtain ⟨bi, oi, hAi, _⟩ := H.out.i.spot (by rw [ints_length]; exact Nat.lt_of_le_of_lt (Nat.zero_le _) q1)
        subst hAi
        have hci : ∀ w', Below w1.heap.size w1 w' → w'.cell? ⟨bi, oi + t, none⟩ = some (.int .i64 (atI is t)) := fun w' hb => (H.out.below hb).i.intAt t q1
        obtain ⟨kid, hkid⟩ := Int.eq_ofNat_of_zero_le q2
        rw [hkid] at q3
        have hw : IntKind.u64.wrap (kid : Int) = (kid : Int) := by simp only [IntKind.wrap, IntKind.bits, IntKind.signed]; simp; omega
        have hiK : (t : Int) < (ni : Int) := by rw [← HI.out]; omega
        have HKid : Hid ((atI is t).toNat = kid ∧ kid ≤ 2147483647) := ⟨by rw [hkid]; rfl, by omega⟩
        simp only [hkid] at hci
        have HCi := Lib.hid hci
        clear hkid q1 q2 q3 hci
        go_wp2_with (go_at_call 67; (with_reducible refine HT.out.mono ?_); rintro e w2 ⟨A2, c2, rfl, ho2, hb2⟩; refine park ?_; intro q hq)
        refine hq.out ?_
        clear hq HT hc x0 x1 x2 x3
        have hB2 : Below w1.heap.size w1 w2 := HQ.out.2.trans (hb2.mono HQ.out.2.size)
        obtain ⟨x0, x1, x2, x3⟩ := HX.out w2 hB2
        have hci := HCi.out w2 hB2
        have hF := refFixed_calls kid (by have := HKid.out.2; omega) 4 (by decide) w2
        rw [show ((4 : Nat) : Int) = 4 from rfl] at hF
        have HF := Lib.hid hF
        have HO2 := Lib.hid (And.intro ho2 hb2)
        clear hF ho2 hb2 hB2
        go_wp2_with (first | (go_at_call 68; (with_reducible refine HF.out.mono ?_); rintro e w3 ⟨A3, c3, rfl, ho3, hb3⟩) | (with_reducible refine park_append ?_; intro q hq))
        refine hq.out ?_
        clear hq HF hci x0 x1 x2 x3
        have HB3 : Hid (Below wr.heap.size wr w3) := HO2.out.2.trans (hb3.mono HO2.out.2.size)
        have HO3 := Lib.hid (HO2.out.1.below hb3)
        refine wpList_append_bytes rfl _ _ rfl wr.heap.size _ (textB (atL ks t)) rfl HO3.out A3 _ c3 (fixB kid 4) rfl rfl (fun h => by subst h; exact ho3.nilcap.2.1) ho3.bytes (by have := HTl.out; rw [fixB_length]; omega) HB3.out.size ?_
        intro v4 w4 hown4 hg4 _
        have hce : textB (atL ks t) ++ fixB kid 4 = cellB ⟨false, ks, vs, is⟩ t := by
          unfold cellB
          simp only [Bool.false_eq_true, if_false]
          rw [HKid.out.1]
        rw [hce] at hown4
        obtain ⟨A4, c4, rfl⟩ := hown4.slice'
        have HC4 : Hid (OwnB w4 wr.heap.size (.slice A4 (cellB ⟨false, ks, vs, is⟩ t).length c4) (cellB ⟨false, ks, vs, is⟩ t) ∧ Below wr.heap.size wr w4) := ⟨hown4, HB3.out.grown hg4 HB3.out.size (fun j hj => (HO3.out.lt j hj).1)⟩
        clear hce hown4 hg4 ho3 hb3 HO2 HO3 HB3

        -- the cell is put to the others
        have HB4 : Hid (Below w1.heap.size w1 w4) := HQ.out.2.trans (HC4.out.2.mono HQ.out.2.size)
        have HQ4 := Lib.hid (HQ.out.1.below HC4.out.2)
        go_wp2_with (with_reducible refine park_append ?_; intro q hq)
        refine hq.out ?_
        clear hq
        have hba : Below w4.heap.size w4 (w4.alloc (.cells #[.slice A4 (cellB ⟨false, ks, vs, is⟩ t).length c4] 30)) := (Below.refl _ _).alloc (Nat.le_refl _) _
        refine wpList_append_row rfl _ _ rfl w1.heap.size u3 ((cellsB ⟨false, ks, vs, is⟩).take t) rfl (HQ4.out.below hba) ⟨w4.heap.size, 0, none⟩ 1 A4 (cellB ⟨false, ks, vs, is⟩ t).length c4 (cellB ⟨false, ks, vs, is⟩ t) rfl (by rw [Addr.add_lit, cell_of_row _ _ _ _ _ _ (heap_alloc_new w4 _)]; rfl) ((HC4.out.1.base HQ.out.2.size).below hba) (by rw [List.length_take, cellsB_length]; have := HNk.out; have := HK.out; simp only; omega) (by have := HB4.out.size; simp; omega) ?_
        intro v9 w9 H9
        have hfr9 := HQ4.out.fr
        have HN : Hid (OwnRL w9 w1.heap.size v9 ((cellsB ⟨false, ks, vs, is⟩).take (t + 1)) ∧ Below w1.heap.size w1 w9) :=
          ⟨by rw [cellsB_take ⟨false, ks, vs, is⟩ t HLt.out]; exact H9.out.1, (HB4.out.alloc HB4.out.size _).grown H9.out.2 (by have := HB4.out.size; simp; omega) hfr9⟩
        clear H9 hfr9 hba HB4 HQ4 HC4 HQ
        go_wp2_with fail
        go_roundw
        case rel => exact ⟨t + 1, Nat.succ_le_of_lt hlt, congrArg (Value.int .i64) (Int.natCast_succ t).symm, HN⟩
        case measure =>
          clear HN
          simp [intOf]; omega
      · -- a leaf
        obtain ⟨q1, q2⟩ := HR.out.val rfl t HLt.out
        simp only at q1 q2
        obtain ⟨bi, oi, hAi⟩ := H.out.v.spot (Nat.lt_of_le_of_lt (Nat.zero_le _) q1)
        subst hAi
        obtain ⟨Ai, ci, hcv, hsv⟩ := H.out.v.at t q1
        try simp only at hcv hsv
        rw [← atL_eq vs t q1] at hcv hsv
        have hci : ∀ w', Below w1.heap.size w1 w' → w'.cell? ⟨bi, oi + t, none⟩ = some (.slice Ai (atL vs t).length ci) ∧ SlB w' Ai (atL vs t).length ci (atL vs t) := fun w' hb => ⟨(hb.cell (World.block_lt_of_cell? w1 _ hcv)).trans hcv, hsv.below hb⟩
        have hiK : (t : Int) < (nv : Int) := by rw [← HV.out]; omega
        have HQ2 := Lib.hid q2
        have HCi := Lib.hid hci
        clear q1 q2 hci hcv hsv
        go_wp2_with (go_at_call 67; (with_reducible refine HT.out.mono ?_); rintro e w2 ⟨A2, c2, rfl, ho2, hb2⟩; refine park ?_; intro q hq)
        refine hq.out ?_
        clear hq HT hc x0 x1 x2 x3
        have hB2 : Below w1.heap.size w1 w2 := HQ.out.2.trans (hb2.mono HQ.out.2.size)
        obtain ⟨x0, x1, x2, x3⟩ := HX.out w2 hB2
        obtain ⟨hci, hsv⟩ := HCi.out w2 hB2
        have hrun := run_str (w := w2) (c := ci) hsv.1 hsv.2.1
        have hT2 := refText_calls (atL vs t) (by have := HQ2.out; omega) w2
        obtain ⟨s2, hs2⟩ : ∃ s, bstr (atL vs t) = s := ⟨_, rfl⟩
        obtain ⟨m2, hm2⟩ : ∃ m, (atL vs t).length = m := ⟨_, rfl⟩
        rw [hm2] at hci
        rw [hm2, hs2] at hrun
        rw [hs2] at hT2
        have HT2 := Lib.hid hT2
        have HT2l : Hid ((textB (atL vs t)).length ≤ 60) := by
          have h1 := HQ2.out
          have h2 := textB_len (atL vs t) (by omega)
          show _ ≤ _
          omega
        have HO2 := Lib.hid (And.intro ho2 hb2)
        clear hT2 ho2 hb2 hB2 hs2 hm2 hsv
        go_wp2_with (first | (go_at_call 67; (with_reducible refine HT2.out.mono ?_); rintro e w3 ⟨A3, c3, rfl, ho3, hb3⟩) | (with_reducible refine park_append ?_; intro q hq))
        refine hq.out ?_
        clear hq HT2 hci hrun x0 x1 x2 x3
        have HB3 : Hid (Below wr.heap.size wr w3) := HO2.out.2.trans (hb3.mono HO2.out.2.size)
        have HO3 := Lib.hid (HO2.out.1.below hb3)
        refine wpList_append_bytes rfl _ _ rfl wr.heap.size _ (textB (atL ks t)) rfl HO3.out A3 _ c3 (textB (atL vs t)) rfl rfl (fun h => by subst h; exact ho3.nilcap.2.1) ho3.bytes (by have := HTl.out; have := HT2l.out; omega) HB3.out.size ?_
        intro v4 w4 hown4 hg4 _
        have hce : textB (atL ks t) ++ textB (atL vs t) = cellB ⟨true, ks, vs, is⟩ t := by
          unfold cellB
          simp only [if_true]
        rw [hce] at hown4
        obtain ⟨A4, c4, rfl⟩ := hown4.slice'
        have HC4 : Hid (OwnB w4 wr.heap.size (.slice A4 (cellB ⟨true, ks, vs, is⟩ t).length c4) (cellB ⟨true, ks, vs, is⟩ t) ∧ Below wr.heap.size wr w4) := ⟨hown4, HB3.out.grown hg4 HB3.out.size (fun j hj => (HO3.out.lt j hj).1)⟩
        clear hce hown4 hg4 ho3 hb3 HO2 HO3 HB3

        -- the cell is put to the others
        have HB4 : Hid (Below w1.heap.size w1 w4) := HQ.out.2.trans (HC4.out.2.mono HQ.out.2.size)
        have HQ4 := Lib.hid (HQ.out.1.below HC4.out.2)
        go_wp2_with (with_reducible refine park_append ?_; intro q hq)
        refine hq.out ?_
        clear hq
        have hba : Below w4.heap.size w4 (w4.alloc (.cells #[.slice A4 (cellB ⟨true, ks, vs, is⟩ t).length c4] 30)) := (Below.refl _ _).alloc (Nat.le_refl _) _
        refine wpList_append_row rfl _ _ rfl w1.heap.size u3 ((cellsB ⟨true, ks, vs, is⟩).take t) rfl (HQ4.out.below hba) ⟨w4.heap.size, 0, none⟩ 1 A4 (cellB ⟨true, ks, vs, is⟩ t).length c4 (cellB ⟨true, ks, vs, is⟩ t) rfl (by rw [Addr.add_lit, cell_of_row _ _ _ _ _ _ (heap_alloc_new w4 _)]; rfl) ((HC4.out.1.base HQ.out.2.size).below hba) (by rw [List.length_take, cellsB_length]; have := HNk.out; have := HK.out; simp only; omega) (by have := HB4.out.size; simp; omega) ?_
        intro v9 w9 H9
        have hfr9 := HQ4.out.fr
        have HN : Hid (OwnRL w9 w1.heap.size v9 ((cellsB ⟨true, ks, vs, is⟩).take (t + 1)) ∧ Below w1.heap.size w1 w9) :=
          ⟨by rw [cellsB_take ⟨true, ks, vs, is⟩ t HLt.out]; exact H9.out.1, (HB4.out.alloc HB4.out.size _).grown H9.out.2 (by have := HB4.out.size; simp; omega) hfr9⟩
        clear H9 hfr9 hba HB4 HQ4 HC4 HQ
        go_wp2_with fail
        go_roundw
        case rel => exact ⟨t + 1, Nat.succ_le_of_lt hlt, congrArg (Value.int .i64) (Int.natCast_succ t).symm, HN⟩
        case measure =>
          clear HN
          simp [intOf]; omega
    · obtain rfl : nk = t := by omega
      have hV := HQ.out.1
      rw [List.take_of_length_le (by rw [cellsB_length]; exact Nat.le_of_eq HK.out)] at hV
      obtain ⟨A6, c6, hv6, _, _, _, _⟩ := hV.slice
      rw [cellsB_length] at hv6
      rw [show (NodeM.keys ⟨lf, ks, vs, is⟩).length = nk from HK.out] at hv6
      subst hv6
      have HF : Hid (OwnRL wr w.heap.size (.slice A6 nk c6) (cellsB ⟨lf, ks, vs, is⟩) ∧ Below w.heap.size w wr) := ⟨hV.basele hsz.out, HB0.out.trans (HQ.out.2.mono hsz.out)⟩
      clear hV HQ hlt
      go_wp2_with fail
      go_ret
      exact ⟨A6, c6, rfl, HF.out⟩
end Go.Proofs.YtibmlgkakeakcaaDoor
