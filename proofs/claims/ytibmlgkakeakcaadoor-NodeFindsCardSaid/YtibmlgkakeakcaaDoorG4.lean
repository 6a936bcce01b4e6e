/- The walks of the document's Taken, Bytes, Find. -/
import Derived.Test.YtibmlgkakeakcaaDoorG3
import Derived.Test.YtibmlgkakeakcaaDoorG1
import Derived.Deep.RegionHeld
import Derived.Test.YtibmlgkakeakcaaDoorG2
import Derived.Deep.WholeRow
import Derived.Deep.MidRow
import Derived.Maps.AppendAt
import Derived.ProofKit
import Derived.OpenShut
import Derived.ShutString
import Derived.ChangeOld
import Derived.SizedLaws
import Derived.ChangeSlices
import Derived.Deep.Matrix
set_option linter.unusedSimpArgs false
set_option linter.unusedVariables false
namespace Go.Proofs.YtibmlgkakeakcaaDoor
open Go.RowKit Go.Proofs.YtibmlgkakeakcaaDoor.Crc
theorem takenN_eq (n : NodeM) : takenN n = 2 * (cellsB n).length + sizC (cellsB n) := by
  unfold takenN sizeN
  rw [cellsB_length, List.take_of_length_le (by rw [cellsB_length]; exact Nat.le_refl _)]
set_option maxRecDepth 10000 in
set_option maxHeartbeats 1000000 in
theorem ref14Taken_calls {w : World} {n : NodeM} {kA : Option Addr} {kc : Nat} {vA : Option Addr} {vc : Nat} {iA : Option Addr} {ic : Nat} (h : NodeAt w n kA kc vA vc iA ic) (hn : n.keys.length ≤ 1000) :
    Calls Tryd.prog 17 #[.agg #[.bool n.leaf, .slice kA n.keys.length kc, .slice vA n.vals.length vc, .slice iA n.kids.length ic]] w fun e w' => e = .returned (.int .i64 (takenB n : Int)) ∧ Below w.heap.size w w' := by
  obtain ⟨hb1, hr1⟩ := node_box w (.bool n.leaf) (.slice kA n.keys.length kc) (.slice vA n.vals.length vc) (.slice iA n.kids.length ic) 26
  obtain ⟨w1, hw1⟩ : ∃ w1, w.alloc (.cells #[.bool n.leaf, .slice kA n.keys.length kc, .slice vA n.vals.length vc, .slice iA n.kids.length ic] 26) = w1 := ⟨_, rfl⟩
  obtain ⟨r, hr0⟩ : ∃ r, w.heap.size = r := ⟨_, rfl⟩
  rw [hw1] at hb1 hr1
  rw [hr0] at hr1
  have hx := box_cells hr1
  have H := Lib.hid (h.below hb1)
  have HB0 : Hid (Below w.heap.size w w1) := hb1
  have hsz : Hid (w.heap.size ≤ w1.heap.size) := hb1.size
  have HX := Lib.hid hx
  have HRt := Lib.hid (refRight_calls H.out)
  have HCl : Hid (RightM n → ∀ w', Below w1.heap.size w1 w' → Calls Tryd.prog 34 #[.agg #[.bool n.leaf, .slice kA n.keys.length kc, .slice vA n.vals.length vc, .slice iA n.kids.length ic]] w' fun e w'' => ∃ A c, e = .returned (.slice A n.keys.length c) ∧ Hid (OwnRL w'' w'.heap.size (.slice A n.keys.length c) (cellsB n) ∧ Below w'.heap.size w' w'')) := fun hr w' hb => refCells_calls (H.out.below hb) hr hn
  have HNk := Lib.hid hn
  clear hb1 hr1 hx h hn
  obtain ⟨nk, hnk⟩ : ∃ k, n.keys.length = k := ⟨_, rfl⟩
  have HK := Lib.hid hnk
  obtain ⟨x0, x1, x2, x3⟩ := HX.out w1 (Below.refl _ _)
  rw [hnk] at hw1 x1 HRt HCl HNk ⊢
  simp only [hnk] at HX
  clear hnk
  by_cases hR : RightM n
  · have HT : Hid (takenB n = takenN n) := by show takenB n = _; unfold takenB; rw [rightB_true hR]; rfl
    have HCr := Lib.hid (HCl.out hR)
    have HLe : Hid (takenN n ≤ 112 * nk) := by have := sizeN_le hR n.keys.length (Nat.le_refl _); rw [HK.out] at this; show takenN n ≤ _; unfold takenN; rw [HK.out]; exact this
    rw [rightB_true hR] at HRt
    clear hR HCl
    go_enter Tryd.func17, Tryd.ntmps17
    go_wp2_with (go_at_call 15; (with_reducible refine HRt.out.mono ?_); rintro e w2 ⟨rfl, hb2⟩; refine park ?_; intro q hq)
    refine hq.out ?_
    clear hq HRt hw1 x0 x1 x2 x3
    have HB2 := Lib.hid hb2
    obtain ⟨x0, x1, x2, x3⟩ := HX.out _ hb2
    have HCd := Lib.hid (HCr.out _ hb2)
    clear hb2 HCr
    go_wp2_with (go_at_call 34; (with_reducible refine HCd.out.mono ?_); rintro e w3 ⟨A3, c3, rfl, h3⟩; refine park ?_; intro q hq)
    refine hq.out ?_
    clear hq HCd
    obtain ⟨A4, c4, hv4, hrows, _, _, _⟩ := h3.out.1.slice
    have hT := refTaken_calls A3 nk c3 (cellsB n) w3 (by rw [cellsB_length, HK.out]) (by injection hv4 with a1 a2 a3; rw [a1]; exact hrows) (by rw [← takenN_eq]; have := HLe.out; have := HNk.out; omega)
    rw [← takenN_eq, ← HT.out] at hT
    have HTk := Lib.hid hT
    have HB3 : Hid (Below w.heap.size w w3) := HB0.out.trans ((HB2.out.trans (h3.out.2.mono HB2.out.size)).mono hsz.out)
    clear hrows hv4 hT h3
    go_wp2_with (go_at_call 41; (with_reducible refine HTk.out.mono ?_); rintro e w4 ⟨rfl, rfl⟩)
    go_ret
    exact ⟨rfl, HB3.out⟩
  · have HT : Hid (takenB n = 0) := by show takenB n = _; unfold takenB; rw [rightB_false hR]; rfl
    rw [rightB_false hR] at HRt
    clear hR HCl
    go_enter Tryd.func17, Tryd.ntmps17
    go_wp2_with (go_at_call 15; (with_reducible refine HRt.out.mono ?_); rintro e w2 ⟨rfl, hb2⟩; have hb2 := Lib.hid hb2)
    go_ret
    exact ⟨by rw [HT.out]; rfl, HB0.out.trans (hb2.out.mono hsz.out)⟩
set_option maxRecDepth 10000 in
set_option maxHeartbeats 2000000 in
theorem ref14Bytes_calls {w : World} {n : NodeM} {kA : Option Addr} {kc : Nat} {vA : Option Addr} {vc : Nat} {iA : Option Addr} {ic : Nat} (no : Int) (h : NodeAt w n kA kc vA vc iA ic) (hn : n.keys.length ≤ 1000) :
    Calls Tryd.prog 11 #[.int .i64 no, .agg #[.bool n.leaf, .slice kA n.keys.length kc, .slice vA n.vals.length vc, .slice iA n.kids.length ic]] w (RetBN w (bytesN no n).1 (bytesN no n).2) := by
  obtain ⟨hb1, hr1⟩ := node_box w (.bool n.leaf) (.slice kA n.keys.length kc) (.slice vA n.vals.length vc) (.slice iA n.kids.length ic) 26
  obtain ⟨w1, hw1⟩ : ∃ w1, w.alloc (.cells #[.bool n.leaf, .slice kA n.keys.length kc, .slice vA n.vals.length vc, .slice iA n.kids.length ic] 26) = w1 := ⟨_, rfl⟩
  obtain ⟨r, hr0⟩ : ∃ r, w.heap.size = r := ⟨_, rfl⟩
  rw [hw1] at hb1 hr1
  rw [hr0] at hr1
  have hx := box_cells hr1
  have H := Lib.hid (h.below hb1)
  have HB0 : Hid (Below w.heap.size w w1) := hb1
  have hsz : Hid (w.heap.size ≤ w1.heap.size) := hb1.size
  have HX := Lib.hid hx
  have HRt := Lib.hid (refRight_calls H.out)
  have HTk : Hid (∀ w', Below w1.heap.size w1 w' → Calls Tryd.prog 17 #[.agg #[.bool n.leaf, .slice kA n.keys.length kc, .slice vA n.vals.length vc, .slice iA n.kids.length ic]] w' fun e w'' => e = .returned (.int .i64 (takenB n : Int)) ∧ Below w'.heap.size w' w'') := fun w' hb => ref14Taken_calls (H.out.below hb) hn
  have HCl : Hid (RightM n → ∀ w', Below w1.heap.size w1 w' → Calls Tryd.prog 34 #[.agg #[.bool n.leaf, .slice kA n.keys.length kc, .slice vA n.vals.length vc, .slice iA n.kids.length ic]] w' fun e w'' => ∃ A c, e = .returned (.slice A n.keys.length c) ∧ Hid (OwnRL w'' w'.heap.size (.slice A n.keys.length c) (cellsB n) ∧ Below w'.heap.size w' w'')) := fun hr w' hb => refCells_calls (H.out.below hb) hr hn
  have HNk := Lib.hid hn
  clear hb1 hr1 hx h hn
  obtain ⟨nk, hnk⟩ : ∃ k, n.keys.length = k := ⟨_, rfl⟩
  have HK := Lib.hid hnk
  obtain ⟨x0, x1, x2, x3⟩ := HX.out w1 (Below.refl _ _)
  rw [hnk] at hw1 x1 HRt HCl HTk HNk ⊢
  simp only [hnk] at HX
  clear hnk
  by_cases hR : RightM n
  · have HCr := Lib.hid (HCl.out hR)
    have hF : fitsB n = decide (takenB n ≤ 244) := by unfold fitsB; rw [rightB_true hR]; rfl
    have HE : Hid (bytesN no n = if takenB n ≤ 244 then fillP no (if n.leaf then 5 else 6) (cellsB n) else ([], 32)) := by
      show bytesN no n = _
      unfold bytesN
      rw [rightB_true hR, hF]
      simp only [if_true, decide_eq_true_eq]
    rw [rightB_true hR] at HRt
    have HLe : Hid (takenN n ≤ 112 * nk) := by have := sizeN_le hR n.keys.length (Nat.le_refl _); rw [HK.out] at this; show takenN n ≤ _; unfold takenN; rw [HK.out]; exact this
    clear hR HCl hF
    go_enter Tryd.func11, Tryd.ntmps11
    go_wp2_with (go_at_call 15; (with_reducible refine HRt.out.mono ?_); rintro e w2 ⟨rfl, hb2⟩; refine park ?_; intro q hq)
    refine hq.out ?_
    clear hq HRt hw1 x0 x1 x2 x3
    have HB2 := Lib.hid hb2
    obtain ⟨x0, x1, x2, x3⟩ := HX.out _ hb2
    have HTd := Lib.hid (HTk.out _ hb2)
    obtain ⟨T, hT⟩ : ∃ T, takenB n = T := ⟨_, rfl⟩
    rw [hT] at HTd HE
    clear hb2 HTk hT
    by_cases hT : T ≤ 244
    · have dT : (T : Int) ≤ 244 := by omega
      have hE := HE.out
      rw [if_pos hT] at hE
      have HE1 := Lib.hid hE
      clear hT hE HE
      go_wp2_with (go_at_call 17; (with_reducible refine HTd.out.mono ?_); rintro e w3 ⟨rfl, hb3⟩; refine park ?_; intro q hq)
      refine hq.out ?_
      clear hq HTd x0 x1 x2 x3
      have HB3 := Lib.hid (HB2.out.trans (hb3.mono HB2.out.size))
      obtain ⟨x0, x1, x2, x3⟩ := HX.out _ HB3.out
      have HCd := Lib.hid (HCr.out _ HB3.out)
      clear hb3 HB2 HCr
      cases hlf : n.leaf
      · rw [hlf] at x0 HCd
        have hE := HE1.out
        rw [hlf] at hE
        simp only [Bool.false_eq_true, if_false] at hE
        have HE' := Lib.hid hE
        clear hE
        clear hlf
        go_wp2_with (go_at_call 34; (with_reducible refine HCd.out.mono ?_); rintro e w4 ⟨A4, c4, rfl, h4⟩; refine park ?_; intro q hq)
        refine hq.out ?_
        clear hq HCd x0 x1 x2 x3
        obtain ⟨A5, c5, hv5, hrows, _, _, _⟩ := h4.out.1.slice
        have hFl := refPFill_calls no 6 A4 nk c4 (cellsB n) w4 (by rw [cellsB_length, HK.out]) (by injection hv5 with a1 a2 a3; rw [a1]; exact hrows) (by rw [← takenN_eq]; have := HLe.out; have := HNk.out; omega)
        rw [show (((6 : UInt8).toNat : Nat) : Int) = 6 from rfl] at hFl
        have HFl := Lib.hid hFl
        have HB4 : Hid (Below w.heap.size w w4) := HB0.out.trans ((HB3.out.trans (h4.out.2.mono HB3.out.size)).mono hsz.out)
        clear hrows hv5 hFl h4
        go_wp2_with (go_at_call 33; (with_reducible refine HFl.out.mono ?_); rintro e w7 ⟨A7, c7, rfl, h7, hb7⟩; have h7 := Lib.hid (And.intro h7 hb7); clear hb7)
        go_ret2
        rw [HE'.out]
        exact RetBN.mk (h7.out.1.base HB4.out.size) (HB4.out.trans (h7.out.2.mono HB4.out.size))
      · rw [hlf] at x0 HCd
        have hE := HE1.out
        rw [hlf] at hE
        simp only [if_true] at hE
        have HE' := Lib.hid hE
        clear hE
        clear hlf
        go_wp2_with (go_at_call 34; (with_reducible refine HCd.out.mono ?_); rintro e w4 ⟨A4, c4, rfl, h4⟩; refine park ?_; intro q hq)
        refine hq.out ?_
        clear hq HCd x0 x1 x2 x3
        obtain ⟨A5, c5, hv5, hrows, _, _, _⟩ := h4.out.1.slice
        have hFl := refPFill_calls no 5 A4 nk c4 (cellsB n) w4 (by rw [cellsB_length, HK.out]) (by injection hv5 with a1 a2 a3; rw [a1]; exact hrows) (by rw [← takenN_eq]; have := HLe.out; have := HNk.out; omega)
        rw [show (((5 : UInt8).toNat : Nat) : Int) = 5 from rfl] at hFl
        have HFl := Lib.hid hFl
        have HB4 : Hid (Below w.heap.size w w4) := HB0.out.trans ((HB3.out.trans (h4.out.2.mono HB3.out.size)).mono hsz.out)
        clear hrows hv5 hFl h4
        go_wp2_with (go_at_call 33; (with_reducible refine HFl.out.mono ?_); rintro e w7 ⟨A7, c7, rfl, h7, hb7⟩; have h7 := Lib.hid (And.intro h7 hb7); clear hb7)
        go_ret2
        rw [HE'.out]
        exact RetBN.mk (h7.out.1.base HB4.out.size) (HB4.out.trans (h7.out.2.mono HB4.out.size))
    · have dT : (244 : Int) < (T : Int) := by omega
      have hE := HE.out
      rw [if_neg hT] at hE
      have HE1 := Lib.hid hE
      clear hT hE HE
      go_wp2_with (go_at_call 17; (with_reducible refine HTd.out.mono ?_); rintro e w3 ⟨rfl, hb3⟩; have hb3 := Lib.hid hb3)
      go_ret2
      rw [HE1.out]
      exact RetBN.mk (World.ownsRow_nil _ _ _ _) (HB0.out.trans ((HB2.out.trans (hb3.out.mono HB2.out.size)).mono hsz.out))
  · have HE : Hid (bytesN no n = ([], 22)) := by show bytesN no n = _; unfold bytesN; rw [rightB_false hR]; rfl
    rw [rightB_false hR] at HRt
    clear hR HCl HTk
    go_enter Tryd.func11, Tryd.ntmps11
    go_wp2_with (go_at_call 15; (with_reducible refine HRt.out.mono ?_); rintro e w2 ⟨rfl, hb2⟩; have hb2 := Lib.hid hb2)
    go_ret2
    rw [HE.out]
    exact RetBN.mk (World.ownsRow_nil _ _ _ _) (HB0.out.trans (hb2.out.mono hsz.out))
end Go.Proofs.YtibmlgkakeakcaaDoor
/- The walk of the document's Find. -/
set_option linter.unusedSimpArgs false
set_option linter.unusedVariables false
namespace Go.Proofs.YtibmlgkakeakcaaDoor
open Go.RowKit Go.Proofs.YtibmlgkakeakcaaDoor.Crc
set_option maxRecDepth 10000 in
set_option maxHeartbeats 2000000 in
theorem ref14Find_calls {w : World} {n : NodeM} {kA : Option Addr} {kc : Nat} {vA : Option Addr} {vc : Nat} {iA : Option Addr} {ic : Nat} (key : List UInt8) (h : NodeAt w n kA kc vA vc iA ic) (hn : n.keys.length ≤ 1000) :
    Calls Tryd.prog 13 #[.agg #[.bool n.leaf, .slice kA n.keys.length kc, .slice vA n.vals.length vc, .slice iA n.kids.length ic], .string (bstr key)] w fun e w' => e = .returned (.tuple #[.int .i64 (findN n key).1, .bool (findN n key).2]) ∧ Hid (Below w.heap.size w w') := by
  obtain ⟨hb1, hr1⟩ := node_box w (.bool n.leaf) (.slice kA n.keys.length kc) (.slice vA n.vals.length vc) (.slice iA n.kids.length ic) 26
  obtain ⟨w1, hw1⟩ : ∃ w1, w.alloc (.cells #[.bool n.leaf, .slice kA n.keys.length kc, .slice vA n.vals.length vc, .slice iA n.kids.length ic] 26) = w1 := ⟨_, rfl⟩
  obtain ⟨r, hr0⟩ : ∃ r, w.heap.size = r := ⟨_, rfl⟩
  rw [hw1] at hb1 hr1
  rw [hr0] at hr1
  have hx := box_cells hr1
  have H := Lib.hid (h.below hb1)
  have HB0 : Hid (Below w.heap.size w w1) := hb1
  have hsz : Hid (w.heap.size ≤ w1.heap.size) := hb1.size
  have HX := Lib.hid hx
  have HRt := Lib.hid (refRight_calls H.out)
  obtain ⟨y, hy⟩ : ∃ y, bstr key = y := ⟨_, rfl⟩
  have HY : Hid (y.toList = key) := by rw [← hy]; exact bstr_toList _
  rw [hy]
  have HNk := Lib.hid hn
  clear hb1 hr1 hx h hn hy
  obtain ⟨nk, hnk⟩ : ∃ k, n.keys.length = k := ⟨_, rfl⟩
  have HK := Lib.hid hnk
  obtain ⟨x0, x1, x2, x3⟩ := HX.out w1 (Below.refl _ _)
  rw [hnk] at hw1 x1 HRt HNk ⊢
  simp only [hnk] at HX
  clear hnk
  have hkm : nk ≤ 9223372036854775807 := Nat.le_trans HNk.out (by decide)
  cases hR : rightB n
  · have HE : Hid (findN n key = (0, false)) := by show findN n key = _; unfold findN; rw [hR]; rfl
    rw [hR] at HRt
    clear hR
    go_enter Tryd.func13, Tryd.ntmps13
    go_wp2_with (go_at_call 15; (with_reducible refine HRt.out.mono ?_); rintro e w2 ⟨rfl, hb2⟩; have hb2 := Lib.hid hb2)
    go_ret2
    exact ⟨by rw [HE.out]; rfl, HB0.out.trans (hb2.out.mono hsz.out)⟩
  · have HRM := Lib.hid (rightB_iff.1 hR)
    obtain ⟨p, hp⟩ : ∃ p, placeN n.keys key = p := ⟨_, rfl⟩
    have HP := Lib.hid hp
    have HPl : Hid (p ≤ nk) := by show p ≤ nk; rw [← hp, ← HK.out]; exact placeN_le _ _
    have HE : Hid (findN n key = (if n.leaf || (decide (p < nk) && (atL n.keys p == key)) then (p : Int) else (p : Int) - 1, decide (p < nk) && (atL n.keys p == key))) := by
      show findN n key = _
      unfold findN
      rw [hR, if_pos rfl, hp, HK.out]
    rw [hR] at HRt
    clear hR hp
    go_enter Tryd.func13, Tryd.ntmps13
    go_wp2_with (go_at_call 15; (with_reducible refine HRt.out.mono ?_); rintro e w2 ⟨rfl, hb2⟩; refine park ?_; intro q hq)
    refine hq.out ?_
    clear hq HRt hw1 x0 x1 x2 x3
    have HB2 := Lib.hid hb2
    obtain ⟨x0, x1, x2, x3⟩ := HX.out _ hb2
    have HBw : Hid (Below w.heap.size w w2) := HB0.out.trans (HB2.out.mono hsz.out)
    clear hb2
    go_wp2_with fail
    go_loop [6] (fun i => ∃ t : Nat, t ≤ p ∧ i = .int .i64 (t : Int)) (fun i => p - (intOf i).toNat)
    case atStart => exact ⟨0, Nat.zero_le _, rfl⟩
    case round =>
      obtain ⟨t, ht, rfl⟩ := hrel
      by_cases htp : t < p
      · have hlt : t < nk := Nat.lt_of_lt_of_le htp HPl.out
        obtain ⟨b, o, hA, _⟩ := H.out.k.spot (by rw [strs_length, HK.out]; exact Nat.lt_of_le_of_lt (Nat.zero_le _) hlt)
        subst hA
        have hc := (H.out.below HB2.out).k.strAt t (by rw [HK.out]; exact hlt)
        unfold strV at hc
        obtain ⟨s, hs⟩ : ∃ s, bstr (atL n.keys t) = s := ⟨_, rfl⟩
        rw [hs] at hc
        have f1 : Op.bytesLess s.toList y.toList = true := by
          rw [← hs, bstr_toList, HY.out]
          exact placeN_below n.keys key t (by rw [HP.out]; exact htp)
        have hltI : (t : Int) < (nk : Int) := by omega
        have hltN : decide (t < nk) = true := decide_eq_true hlt
        clear hs
        go_wp2_with fail
        go_round
        case rel => exact ⟨t + 1, Nat.succ_le_of_lt htp, congrArg (Value.int .i64) (Int.natCast_succ t).symm⟩
        case measure =>
          clear hltN hltI
          simp [intOf]; omega
      · obtain rfl : p = t := by omega
        have hp1000 : (p : Int) ≤ 1000 := by have := HNk.out; have := HPl.out; omega
        have HP1 : Hid (wrap64 ((p : Int) - 1) = (p : Int) - 1) := by show wrap64 _ = _; unfold wrap64; omega
        clear hp1000 htp
        by_cases hlt : p < nk
        · obtain ⟨b, o, hA, _⟩ := H.out.k.spot (by rw [strs_length, HK.out]; exact Nat.lt_of_le_of_lt (Nat.zero_le _) hlt)
          subst hA
          have hc := (H.out.below HB2.out).k.strAt p (by rw [HK.out]; exact hlt)
          unfold strV at hc
          obtain ⟨s, hs⟩ : ∃ s, bstr (atL n.keys p) = s := ⟨_, rfl⟩
          rw [hs] at hc
          obtain ⟨be, hbe⟩ : ∃ be, (atL n.keys p == key) = be := ⟨_, rfl⟩
          have f0 : Op.bytesLess s.toList y.toList = false := by
            rw [← hs, bstr_toList, HY.out]
            have := placeN_at n.keys key (by rw [HP.out, HK.out]; exact hlt)
            rwa [HP.out] at this
          have f1 : (s.toList == y.toList) = be := by rw [← hs, bstr_toList, HY.out]; exact hbe
          have hE := HE.out
          rw [decide_eq_true hlt, hbe, Bool.true_and] at hE
          have HE2 := Lib.hid hE
          have hltI : (p : Int) < (nk : Int) := by omega
          have hltN : decide (p < nk) = true := decide_eq_true hlt
          clear hE hbe hs HE
          cases hlf : n.leaf
          all_goals
            rw [hlf] at x0
            have hE := HE2.out
            rw [hlf] at hE
            have HE3 := Lib.hid hE
            clear hE HE2 hlf
            cases be
            all_goals
              go_wp2_with fail
              try simp only [HP1.out]
              go_ret2
              exact ⟨by rw [HE3.out]; rfl, by first | exact HBw | (rw [← hr0]; exact HBw)⟩
        · have hE := HE.out
          rw [decide_eq_false hlt, Bool.false_and] at hE
          have hltN : decide (p < nk) = false := decide_eq_false hlt
          cases hlf : n.leaf
          all_goals
            rw [hlf] at x0 hE
            have HE3 := Lib.hid hE
            clear hE hlf
            go_wp2_with fail
            try simp only [HP1.out]
            go_ret2
            exact ⟨by rw [HE3.out]; rfl, by first | exact HBw | (rw [← hr0]; exact HBw)⟩
end Go.Proofs.YtibmlgkakeakcaaDoor
/- The walk of the document's Same. -/
set_option linter.unusedSimpArgs false
set_option linter.unusedVariables false
namespace Go.Proofs.YtibmlgkakeakcaaDoor
open Go.RowKit Go.Proofs.YtibmlgkakeakcaaDoor.Crc
theorem NodeM.eq_of {a b : NodeM} (h0 : a.leaf = b.leaf) (h1 : a.keys = b.keys) (h2 : a.vals = b.vals) (h3 : a.kids = b.kids) : a = b := by
  cases a; cases b; simp_all
open Classical in
noncomputable def sameB (n m : NodeM) : Bool := decide (n = m)
open Classical in
theorem sameB_true {n m : NodeM} (h : n = m) : sameB n m = true := by unfold sameB; exact decide_eq_true h
open Classical in
theorem sameB_false {n m : NodeM} (h : ¬ n = m) : sameB n m = false := by unfold sameB; exact decide_eq_false h
open Classical in
theorem sameB_iff {n m : NodeM} : sameB n m = true ↔ n = m := by unfold sameB; exact decide_eq_true_iff
theorem list_eq_atL {xs ys : List (List UInt8)} (hl : xs.length = ys.length) (h : ∀ k, k < xs.length → atL xs k = atL ys k) : xs = ys := by
  apply List.ext_getElem hl
  intro i h1 h2
  have := h i h1
  rwa [atL_eq xs i h1, atL_eq ys i h2] at this
theorem list_eq_atI {xs ys : List Int} (hl : xs.length = ys.length) (h : ∀ k, k < xs.length → atI xs k = atI ys k) : xs = ys := by
  apply List.ext_getElem hl
  intro i h1 h2
  have := h i h1
  rwa [atI_eq xs i h1, atI_eq ys i h2] at this
theorem node2_box' (w : World) (a b c d a' b' c' d' : Value) (T T' : TypeId) :
    Below w.heap.size w ((w.alloc (.cells #[a, b, c, d] T)).alloc (.cells #[a', b', c', d'] T')) ∧
    ((w.alloc (.cells #[a, b, c, d] T)).alloc (.cells #[a', b', c', d'] T')).heap[w.heap.size]? = some (.cells #[a, b, c, d] T (0, 0)) ∧
    ((w.alloc (.cells #[a, b, c, d] T)).alloc (.cells #[a', b', c', d'] T')).heap[w.heap.size + 1]? = some (.cells #[a', b', c', d'] T' (0, 0)) := by
  have hs1 : (w.alloc (.cells #[a, b, c, d] T)).heap.size = w.heap.size + 1 := by simp
  have a0 := heap_alloc_new w (.cells #[a, b, c, d] T)
  have b1 := (Below.refl (w.heap.size + 1) (w.alloc (.cells #[a, b, c, d] T))).alloc (by simp) (.cells #[a', b', c', d'] T')
  have a1 := heap_alloc_new (w.alloc (.cells #[a, b, c, d] T)) (.cells #[a', b', c', d'] T')
  rw [hs1] at a1
  exact ⟨((Below.refl w.heap.size w).alloc (Nat.le_refl _) _).alloc (by simp) _, (b1.block _ (by omega)).trans a0, a1⟩
theorem node2_box (w : World) (a b c d a' b' c' d' : Value) (T : TypeId) :
    Below w.heap.size w ((w.alloc (.cells #[a, b, c, d] T)).alloc (.cells #[a', b', c', d'] T)) ∧
    ((w.alloc (.cells #[a, b, c, d] T)).alloc (.cells #[a', b', c', d'] T)).heap[w.heap.size]? = some (.cells #[a, b, c, d] T (0, 0)) ∧
    ((w.alloc (.cells #[a, b, c, d] T)).alloc (.cells #[a', b', c', d'] T)).heap[w.heap.size + 1]? = some (.cells #[a', b', c', d'] T (0, 0)) := by
  have hs1 : (w.alloc (.cells #[a, b, c, d] T)).heap.size = w.heap.size + 1 := by simp
  have a0 := heap_alloc_new w (.cells #[a, b, c, d] T)
  have b1 := (Below.refl (w.heap.size + 1) (w.alloc (.cells #[a, b, c, d] T))).alloc (by simp) (.cells #[a', b', c', d'] T)
  have a1 := heap_alloc_new (w.alloc (.cells #[a, b, c, d] T)) (.cells #[a', b', c', d'] T)
  rw [hs1] at a1
  exact ⟨((Below.refl w.heap.size w).alloc (Nat.le_refl _) _).alloc (by simp) _, (b1.block _ (by omega)).trans a0, a1⟩
set_option maxRecDepth 10000 in
set_option maxHeartbeats 2000000 in
theorem Same14_calls {w : World} {n m : NodeM} {kA : Option Addr} {kc : Nat} {vA : Option Addr} {vc : Nat} {iA : Option Addr} {ic : Nat} {kB : Option Addr} {kd : Nat} {vB : Option Addr} {vd : Nat} {iB : Option Addr} {id : Nat} (h : NodeAt w n kA kc vA vc iA ic) (h' : NodeAt w m kB kd vB vd iB id) :
    Calls Tryd.prog 19 #[.agg #[.bool n.leaf, .slice kA n.keys.length kc, .slice vA n.vals.length vc, .slice iA n.kids.length ic], .agg #[.bool m.leaf, .slice kB m.keys.length kd, .slice vB m.vals.length vd, .slice iB m.kids.length id]] w fun e w' => e = .returned (.bool (sameB n m)) ∧ Hid (Below w.heap.size w w') := by
  obtain ⟨lf, ks, vs, is⟩ := n
  obtain ⟨lf', ks', vs', is'⟩ := m
  obtain ⟨hb1, hr1, hr2⟩ := node2_box w (.bool lf) (.slice kA ks.length kc) (.slice vA vs.length vc) (.slice iA is.length ic) (.bool lf') (.slice kB ks'.length kd) (.slice vB vs'.length vd) (.slice iB is'.length id) 26
  obtain ⟨w1, hw1⟩ : ∃ w1, (w.alloc (.cells #[.bool lf, .slice kA ks.length kc, .slice vA vs.length vc, .slice iA is.length ic] 26)).alloc (.cells #[.bool lf', .slice kB ks'.length kd, .slice vB vs'.length vd, .slice iB is'.length id] 26) = w1 := ⟨_, rfl⟩
  rw [hw1] at hb1 hr1 hr2
  have hx := box_cells hr1
  have hy := box_cells hr2
  have H := Lib.hid (h.below hb1)
  have H' := Lib.hid (h'.below hb1)
  have HB0 : Hid (Below w.heap.size w w1) := hb1
  have hsz : Hid (w.heap.size ≤ w1.heap.size) := hb1.size
  have HBw : Hid (∀ w', Hid (Below w1.heap.size w1 w') → Hid (Below w.heap.size w w')) := fun w' hb => HB0.out.trans (hb.out.mono hsz.out)
  obtain ⟨r, hr0⟩ : ∃ r, w.heap.size = r := ⟨_, rfl⟩
  rw [hr0] at hx hy
  have HX := Lib.hid hx
  have HY := Lib.hid hy
  have hkm0 : ks.length ≤ 9223372036854775807 := Nat.le_trans h.kn.2.1 h.kn.2.2
  have hvm0 : vs.length ≤ 9223372036854775807 := Nat.le_trans h.vn.2.1 h.vn.2.2
  have him0 : is.length ≤ 9223372036854775807 := Nat.le_trans h.inn.2.1 h.inn.2.2
  clear hb1 hr1 hr2 hx hy h h'
  obtain ⟨x0, x1, x2, x3⟩ := HX.out w1 (Below.refl _ _)
  obtain ⟨y0, y1, y2, y3⟩ := HY.out w1 (Below.refl _ _)
  obtain ⟨nk, hnk⟩ : ∃ k, ks.length = k := ⟨_, rfl⟩
  obtain ⟨nv, hnv⟩ : ∃ k, vs.length = k := ⟨_, rfl⟩
  obtain ⟨ni, hni⟩ : ∃ k, is.length = k := ⟨_, rfl⟩
  obtain ⟨mk, hmk⟩ : ∃ k, ks'.length = k := ⟨_, rfl⟩
  obtain ⟨mv, hmv⟩ : ∃ k, vs'.length = k := ⟨_, rfl⟩
  obtain ⟨mi, hmi⟩ : ∃ k, is'.length = k := ⟨_, rfl⟩
  have HK := Lib.hid hnk
  have HV := Lib.hid hnv
  have HI := Lib.hid hni
  have HK' := Lib.hid hmk
  have HV' := Lib.hid hmv
  have HI' := Lib.hid hmi
  simp only at hw1 ⊢
  simp only [hnk, hnv, hni, hmk, hmv, hmi] at hw1 HX HY x1 x2 x3 y1 y2 y3 hkm0 hvm0 him0
  rw [hnk, hnv, hni, hmk, hmv, hmi]
  clear hnk hnv hni hmk hmv hmi
  by_cases e0 : ¬ lf = lf'
  · have HE : Hid (sameB ⟨lf, ks, vs, is⟩ ⟨lf', ks', vs', is'⟩ = false) := sameB_false fun h => absurd (congrArg NodeM.leaf h) e0
    have HB1 := HBw.out w1 (Below.refl _ _)
    have f0 : (lf != lf') = true := by simpa using e0
    clear e0
    go_enter Tryd.func19, Tryd.ntmps19
    cases lf <;> cases lf' <;> first | cases f0 | skip
    all_goals
      go_wp2_with fail
      go_ret
      exact ⟨by rw [HE.out]; rfl, by first | exact HB1 | (rw [← hr0]; exact HB1)⟩
  replace e0 := Classical.not_not.1 e0
  subst e0
  by_cases e1 : ¬ nk = mk
  · have HE : Hid (sameB ⟨lf, ks, vs, is⟩ ⟨lf, ks', vs', is'⟩ = false) := sameB_false fun h => absurd (by rw [← HK.out, ← HK'.out]; exact congrArg List.length (congrArg NodeM.keys h)) e1
    have HB1 := HBw.out w1 (Below.refl _ _)
    have f1 : ((nk : Int) != (mk : Int)) = true := by simp; omega
    clear e1
    go_enter Tryd.func19, Tryd.ntmps19
    go_wp2_with fail
    go_ret
    exact ⟨by rw [HE.out]; rfl, by first | exact HB1 | (rw [← hr0]; exact HB1)⟩
  replace e1 := Classical.not_not.1 e1
  subst e1
  by_cases e2 : ¬ nv = mv
  · have HE : Hid (sameB ⟨lf, ks, vs, is⟩ ⟨lf, ks', vs', is'⟩ = false) := sameB_false fun h => absurd (by rw [← HV.out, ← HV'.out]; exact congrArg List.length (congrArg NodeM.vals h)) e2
    have HB1 := HBw.out w1 (Below.refl _ _)
    have f1 : ((nv : Int) != (mv : Int)) = true := by simp; omega
    clear e2
    go_enter Tryd.func19, Tryd.ntmps19
    go_wp2_with fail
    go_ret
    exact ⟨by rw [HE.out]; rfl, by first | exact HB1 | (rw [← hr0]; exact HB1)⟩
  replace e2 := Classical.not_not.1 e2
  subst e2
  by_cases e3 : ¬ ni = mi
  · have HE : Hid (sameB ⟨lf, ks, vs, is⟩ ⟨lf, ks', vs', is'⟩ = false) := sameB_false fun h => absurd (by rw [← HI.out, ← HI'.out]; exact congrArg List.length (congrArg NodeM.kids h)) e3
    have HB1 := HBw.out w1 (Below.refl _ _)
    have f1 : ((ni : Int) != (mi : Int)) = true := by simp; omega
    clear e3
    go_enter Tryd.func19, Tryd.ntmps19
    go_wp2_with fail
    go_ret
    exact ⟨by rw [HE.out]; rfl, by first | exact HB1 | (rw [← hr0]; exact HB1)⟩
  replace e3 := Classical.not_not.1 e3
  subst e3
  go_enter Tryd.func19, Tryd.ntmps19
  go_wp2_with fail
  clear hw1 x0 x1 x2 x3 y0 y1 y2 y3
  go_loopw [5] (fun i wr => ∃ t : Nat, t ≤ nk ∧ i = .int .i64 (t : Int) ∧ Hid (∀ k, k < t → atL ks k = atL ks' k) ∧ Hid (Below w1.heap.size w1 wr)) (fun i _ => nk - (intOf i).toNat)
  case atStart => exact ⟨0, Nat.zero_le _, rfl, fun k hk => absurd hk (Nat.not_lt_zero _), Below.refl _ _⟩
  case round =>
    obtain ⟨t, ht, rfl, HE, HB⟩ := hrel
    obtain ⟨x0, x1, x2, x3⟩ := HX.out wr HB.out
    obtain ⟨y0, y1, y2, y3⟩ := HY.out wr HB.out
    by_cases hlt : t < nk
    · obtain ⟨b, o, hA, _⟩ := H.out.k.spot (by rw [strs_length]; exact Nat.lt_of_le_of_lt (Nat.zero_le t) (by rw [HK.out]; exact hlt))
      obtain ⟨b', o', hA', _⟩ := H'.out.k.spot (by rw [strs_length]; exact Nat.lt_of_le_of_lt (Nat.zero_le t) (by rw [HK'.out]; exact hlt))
      subst hA
      subst hA'
      have hc := (H.out.below HB.out).k.strAt t (by rw [HK.out]; exact hlt)
      have hc' := (H'.out.below HB.out).k.strAt t (by rw [HK'.out]; exact hlt)
      unfold strV at hc hc'
      simp only at hc hc'
      obtain ⟨s, hs⟩ : ∃ s, bstr (atL ks t) = s := ⟨_, rfl⟩
      obtain ⟨s', hs'⟩ : ∃ s, bstr (atL ks' t) = s := ⟨_, rfl⟩
      rw [hs] at hc
      rw [hs'] at hc'
      have hst : s.toList = atL ks t := by rw [← hs]; exact bstr_toList _
      have hst' : s'.toList = atL ks' t := by rw [← hs']; exact bstr_toList _
      clear hs hs'
      by_cases he : atL ks t = atL ks' t
      · have f1 : (s.toList == s'.toList) = true := by rw [hst, hst', he]; simp
        have HN : Hid (∀ k, k < t + 1 → atL ks k = atL ks' k) := fun k hk => by
          by_cases hkt : k < t
          · exact HE.out k hkt
          · obtain rfl : k = t := by omega
            exact he
        clear he hst hst' HE
        go_wp2_with fail
        go_region
        go_wp2_with fail
        go_roundw
        case rel => exact ⟨t + 1, Nat.succ_le_of_lt hlt, congrArg (Value.int .i64) (Int.natCast_succ t).symm, HN, HB.out.drew⟩
        case measure => simp [intOf]; omega
      · have f1 : (s.toList == s'.toList) = false := by rw [beq_eq_false_iff_ne, hst, hst']; exact he
        have HF : Hid (sameB ⟨lf, ks, vs, is⟩ ⟨lf, ks', vs', is'⟩ = false) := sameB_false fun h => absurd (congrArg (fun n : NodeM => atL n.keys t) h) he
        clear he hst hst' HE
        go_wp2_with fail
        go_region
        go_wp2_with fail
        go_ret
        exact ⟨by rw [HF.out]; rfl, by first | exact HBw.out _ HB.out.drew | (rw [← hr0]; exact HBw.out _ HB.out.drew)⟩
    · obtain rfl : nk = t := by omega
      have HEk : Hid (ks = ks') := list_eq_atL (by rw [HK.out, HK'.out]) (fun k hk => HE.out k (by rw [← HK.out]; exact hk))
      clear HE hlt
      go_wp2_with fail
      clear x0 x1 x2 x3 y0 y1 y2 y3
      go_loopw [6] (fun i wr => ∃ t : Nat, t ≤ nv ∧ i = .int .i64 (t : Int) ∧ Hid (∀ k, k < t → atL vs k = atL vs' k) ∧ Hid (Below w1.heap.size w1 wr)) (fun i _ => nv - (intOf i).toNat)
      case atStart => exact ⟨0, Nat.zero_le _, rfl, fun k hk => absurd hk (Nat.not_lt_zero _), HB⟩
      case round =>
        obtain ⟨t, ht, rfl, HE, HB⟩ := hrel
        obtain ⟨x0, x1, x2, x3⟩ := HX.out wr HB.out
        obtain ⟨y0, y1, y2, y3⟩ := HY.out wr HB.out
        by_cases hlt : t < nv
        · have hl1 : t < vs.length := by rw [HV.out]; exact hlt
          have hl2 : t < vs'.length := by rw [HV'.out]; exact hlt
          obtain ⟨b, o, hA⟩ := H.out.v.spot (Nat.lt_of_le_of_lt (Nat.zero_le t) hl1)
          obtain ⟨b', o', hA'⟩ := H'.out.v.spot (Nat.lt_of_le_of_lt (Nat.zero_le t) hl2)
          subst hA
          subst hA'
          obtain ⟨Ai, ci, hc, hs⟩ := (H.out.below HB.out).v.at t hl1
          obtain ⟨Ai', ci', hc', hs'⟩ := (H'.out.below HB.out).v.at t hl2
          try simp only at hc hs hc' hs'
          rw [← atL_eq vs t hl1] at hc hs
          rw [← atL_eq vs' t hl2] at hc' hs'
          have hrun := run_str (w := wr.drew) (c := ci) hs.1 hs.2.1.drew
          have hrun' := run_str (w := wr.drew) (c := ci') hs'.1 hs'.2.1.drew
          obtain ⟨p, hp⟩ : ∃ p, (atL vs t).length = p := ⟨_, rfl⟩
          obtain ⟨p', hp'⟩ : ∃ p, (atL vs' t).length = p := ⟨_, rfl⟩
          obtain ⟨s, hse⟩ : ∃ s, bstr (atL vs t) = s := ⟨_, rfl⟩
          obtain ⟨s', hse'⟩ : ∃ s, bstr (atL vs' t) = s := ⟨_, rfl⟩
          rw [hp] at hc
          rw [hp'] at hc'
          rw [hp, hse] at hrun
          rw [hp', hse'] at hrun'
          have hst : s.toList = atL vs t := by rw [← hse]; exact bstr_toList _
          have hst' : s'.toList = atL vs' t := by rw [← hse']; exact bstr_toList _
          clear hse hse' hp hp' hs hs' hl1 hl2
          by_cases he : atL vs t = atL vs' t
          · have f1 : (s.toList == s'.toList) = true := by rw [hst, hst', he]; simp
            have HN : Hid (∀ k, k < t + 1 → atL vs k = atL vs' k) := fun k hk => by
              by_cases hkt : k < t
              · exact HE.out k hkt
              · obtain rfl : k = t := by omega
                exact he
            clear he hst hst' HE
            go_wp2_with fail
            go_region
            go_wp2_with fail
            go_roundw
            case rel => exact ⟨t + 1, Nat.succ_le_of_lt hlt, congrArg (Value.int .i64) (Int.natCast_succ t).symm, HN, HB.out.drew⟩
            case measure => simp [intOf]; omega
          · have f1 : (s.toList == s'.toList) = false := by rw [beq_eq_false_iff_ne, hst, hst']; exact he
            have HF : Hid (sameB ⟨lf, ks, vs, is⟩ ⟨lf, ks', vs', is'⟩ = false) := sameB_false fun h => absurd (congrArg (fun n : NodeM => atL n.vals t) h) he
            clear he hst hst' HE
            go_wp2_with fail
            go_region
            go_wp2_with fail
            go_ret
            exact ⟨by rw [HF.out]; rfl, by first | exact HBw.out _ HB.out.drew | (rw [← hr0]; exact HBw.out _ HB.out.drew)⟩
        · obtain rfl : nv = t := by omega
          have HEv : Hid (vs = vs') := list_eq_atL (by rw [HV.out, HV'.out]) (fun k hk => HE.out k (by rw [← HV.out]; exact hk))
          clear HE hlt
          go_wp2_with fail
          clear x0 x1 x2 x3 y0 y1 y2 y3
          go_loopw [7] (fun i wr => ∃ t : Nat, t ≤ ni ∧ i = .int .i64 (t : Int) ∧ Hid (∀ k, k < t → atI is k = atI is' k) ∧ Hid (Below w1.heap.size w1 wr)) (fun i _ => ni - (intOf i).toNat)
          case atStart => exact ⟨0, Nat.zero_le _, rfl, fun k hk => absurd hk (Nat.not_lt_zero _), HB⟩
          case round =>
            obtain ⟨t, ht, rfl, HE, HB⟩ := hrel
            obtain ⟨x0, x1, x2, x3⟩ := HX.out wr HB.out
            obtain ⟨y0, y1, y2, y3⟩ := HY.out wr HB.out
            by_cases hlt : t < ni
            · obtain ⟨b, o, hA, _⟩ := H.out.i.spot (by rw [ints_length]; exact Nat.lt_of_le_of_lt (Nat.zero_le t) (by rw [HI.out]; exact hlt))
              obtain ⟨b', o', hA', _⟩ := H'.out.i.spot (by rw [ints_length]; exact Nat.lt_of_le_of_lt (Nat.zero_le t) (by rw [HI'.out]; exact hlt))
              subst hA
              subst hA'
              have hc := (H.out.below HB.out).i.intAt t (by rw [HI.out]; exact hlt)
              have hc' := (H'.out.below HB.out).i.intAt t (by rw [HI'.out]; exact hlt)
              simp only at hc hc'
              obtain ⟨s, hs⟩ : ∃ s, atI is t = s := ⟨_, rfl⟩
              obtain ⟨s', hs'⟩ : ∃ s, atI is' t = s := ⟨_, rfl⟩
              rw [hs] at hc
              rw [hs'] at hc'
              by_cases he : s = s'
              · have f1 : (s != s') = false := by rw [he]; simp
                have HN : Hid (∀ k, k < t + 1 → atI is k = atI is' k) := fun k hk => by
                  by_cases hkt : k < t
                  · exact HE.out k hkt
                  · obtain rfl : k = t := by omega
                    rw [hs, hs', he]
                clear he hs hs' HE
                go_wp2_with fail
                go_region
                go_wp2_with fail
                go_roundw
                case rel => exact ⟨t + 1, Nat.succ_le_of_lt hlt, congrArg (Value.int .i64) (Int.natCast_succ t).symm, HN, HB.out.drew⟩
                case measure => simp [intOf]; omega
              · have f1 : (s != s') = true := by simpa using he
                have HF : Hid (sameB ⟨lf, ks, vs, is⟩ ⟨lf, ks', vs', is'⟩ = false) := sameB_false fun h => absurd (by rw [← hs, ← hs']; exact congrArg (fun n : NodeM => atI n.kids t) h) he
                clear he hs hs' HE
                go_wp2_with fail
                go_region
                go_wp2_with fail
                go_ret
                exact ⟨by rw [HF.out]; rfl, by first | exact HBw.out _ HB.out.drew | (rw [← hr0]; exact HBw.out _ HB.out.drew)⟩
            · obtain rfl : ni = t := by omega
              have HEi : Hid (is = is') := list_eq_atI (by rw [HI.out, HI'.out]) (fun k hk => HE.out k (by rw [← HI.out]; exact hk))
              have HF : Hid (sameB ⟨lf, ks, vs, is⟩ ⟨lf, ks', vs', is'⟩ = true) := sameB_true (by rw [HEk.out, HEv.out, HEi.out])
              clear HE hlt
              go_wp2_with fail
              go_ret
              exact ⟨by rw [HF.out]; rfl, by first | exact HBw.out _ HB | (rw [← hr0]; exact HBw.out _ HB)⟩
end Go.Proofs.YtibmlgkakeakcaaDoor
/- Regions that draw their order, by hand. -/
set_option linter.unusedSimpArgs false
set_option linter.unusedVariables false
namespace Go.Proofs.YtibmlgkakeakcaaDoor
open Go.RowKit
section
variable {P : Program} {ops : Array Oper} {Q : Exit → Act → World → Prop} {md : Region.Mode} {a : Act} {w : World} {K : Act → World → Prop} {o : Oper} {S S' : World → Prop}
theorem anyTake {i : Nat} {oi : Oper} {v : Value} {fuel : Nat} {listed : Array Bool} (dst : Option Tmp) (hi : ops[i]? = some oi) (hd : oi.dst = dst)
    (hs : Region.noSelect ops = true) (hf : Region.free md ops listed i = true) (hr : (Region.ready md ops listed).contains i = true)
    (hQ : ∀ c a w, Q (.panic c) (a.put dst v) w → Q (.panic c) a w) (hy : Yields P ops oi v a)
    (h : wpAny P md ops Q fuel (listed.setIfInBounds i true) (a.put dst v) w) : wpAny P md ops Q (fuel + 1) listed a w := by
  subst hd
  exact wpAny_take hi hs hf hr hQ hy h
theorem heldTake {i : Nat} {oi : Oper} {v : Value} {fuel : Nat} {listed : Array Bool} (dst : Option Tmp) (hi : ops[i]? = some oi) (hd : oi.dst = dst)
    (hs : Region.noSelect ops = true) (hf : Region.free md ops listed i = true) (hr : (Region.ready md ops listed).contains i = true)
    (hQ : ∀ c a w, Q (.panic c) (a.put dst v) w → Q (.panic c) a w) (hy : YieldsIf P ops S oi v a) (hS : S w)
    (h : wpAnyH P md ops Q S fuel (listed.setIfInBounds i true) (a.put dst v) w) : wpAnyH P md ops Q S (fuel + 1) listed a w := by
  subst hd
  exact wpAnyH_take hi hs hf hr hQ hy hS h
theorem heldOne {i : Nat} {fuel : Nat} {listed : Array Bool} (hr : Region.ready md ops listed = [i]) (ho : ops[i]? = some o)
    (h : ∀ K' : Act → World → Prop, (∀ a w, S w → wpAnyH P md ops Q S fuel (listed.setIfInBounds i true) a w → K' a w) → if Region.wanted o (yielded ops a.tmps) = true then Oper.wp P o a w K' Q else K' (a.put o.dst undef) w) : wpAnyH P md ops Q S (fuel + 1) listed a w :=
  wpAnyH_all hr (by simp) (by
    intro j hj
    simp only [List.mem_singleton] at hj
    subst hj
    exact wpOp_step ho (fun K' hK => h K' (fun a w hS hW => hK a w ⟨hS, hW⟩)))
theorem heldMore (hS : ∀ w, S' w → S w) : ∀ (fuel : Nat) (listed : Array Bool) (a : Act) (w : World), wpAnyH P md ops Q S' fuel listed a w → wpAnyH P md ops Q S fuel listed a w
  | 0, _, _, _, h => h
  | fuel + 1, _, _, _, h => ⟨h.1, fun i hi => wpOp_mono (fun a' w' h' => ⟨hS w' h'.1, heldMore hS fuel _ a' w' h'.2⟩) (h.2 i hi)⟩
theorem yieldsIf_conv {v : Value} (hw : Region.wanted o (yielded ops a.tmps) = true) (s t : TypeId) (x : Operand) (ho : o.op = .convert s t x) (p : Value) (hx : a.eval x = p) (hS : ∀ w, S w → (convert s t p).run P w = .ok v w) : YieldsIf P ops S o v a :=
  .inl ⟨hw, fun w h => by
    unfold execOp
    simp only [ho, hx, hS w h, Sem.run_bind, Result.andThen_ok, Sem.run_pure]⟩
end
end Go.Proofs.YtibmlgkakeakcaaDoor
/- Regions that draw their order, by an invariant that each operation keeps. -/
set_option linter.unusedSimpArgs false
set_option linter.unusedVariables false
namespace Go.Proofs.YtibmlgkakeakcaaDoor
open Go.RowKit
def unlisted (listed : Array Bool) : Nat := listed.toList.countP (fun b => !b)
theorem unlisted_set {listed : Array Bool} {i : Nat} (h : listed.getD i true = false) : unlisted (listed.setIfInBounds i true) + 1 = unlisted listed := by
  obtain ⟨l⟩ := listed
  have hlt : i < l.length := by
    rcases Nat.lt_or_ge i l.length with h' | h'
    · exact h'
    · rw [Array.getD_eq_getD_getElem?, Array.getElem?_eq_none (by simpa using h')] at h; cases h
  have hv : l[i] = false := by
    rw [Array.getD_eq_getD_getElem?] at h
    simpa [hlt] using h
  unfold unlisted
  simp only [List.setIfInBounds_toArray]
  rw [List.countP_set hlt, hv]
  have : 0 < l.countP (fun b => !b) := List.countP_pos_iff.2 ⟨false, by rw [← hv]; exact List.getElem_mem hlt, rfl⟩
  simp
  omega
theorem unlisted_zero {listed : Array Bool} (h : unlisted listed = 0) (i : Nat) : listed.getD i true = true := by
  obtain ⟨l⟩ := listed
  unfold unlisted at h
  rw [List.countP_eq_zero] at h
  rw [Array.getD_eq_getD_getElem?]
  rcases Nat.lt_or_ge i l.length with h' | h'
  · have := h l[i] (List.getElem_mem h')
    simpa [h'] using this
  · simp [Array.getElem?_eq_none, h']
section
variable {P : Program} {ops : Array Oper} {Q : Exit → Act → World → Prop} {md : Region.Mode} {I : Array Bool → Act → World → Prop}
theorem wpAny_inv
    (hstep : ∀ (i : Nat) (o : Oper) (listed : Array Bool) (a : Act) (w : World), ops[i]? = some o → listed.getD i true = false → (∀ e ∈ o.after, Region.binds md e = true → listed.getD e.on false = true) → I listed a w →
      wpOp P ops Q i (fun a' w' => I (listed.setIfInBounds i true) a' w') a w)
    (hend : ∀ (listed : Array Bool) (a : Act) (w : World), Region.ready md ops listed = [] → I listed a w → Q .normal a w) :
    ∀ (fuel : Nat) (listed : Array Bool) (a : Act) (w : World), unlisted listed ≤ fuel → I listed a w → wpAny P md ops Q fuel listed a w := by
  intro fuel
  induction fuel with
  | zero =>
    intro listed a w hu hI
    have hr : Region.ready md ops listed = [] := by
      apply List.eq_nil_iff_forall_not_mem.2
      intro i hi
      have h1 := (mem_ready.1 hi).1
      rw [unlisted_zero (by omega) i] at h1
      cases h1
    exact ⟨hr, hend _ _ _ hr hI⟩
  | succ fuel ih =>
    intro listed a w hu hI
    refine ⟨fun hr => hend _ _ _ hr hI, fun i hi => ?_⟩
    obtain ⟨h1, o, ho, hall⟩ := mem_ready.1 hi
    refine wpOp_mono (fun a' w' h' => ih _ a' w' ?_ h') (hstep i o listed a w ho h1 hall hI)
    have := unlisted_set h1
    omega
def acycB (ops : Array Oper) : Bool := (List.range ops.size).all fun i => match ops[i]? with
  | some o => o.after.all fun e => decide (e.on < i)
  | none => true
theorem ready_nil_all (hac : acycB ops = true) {listed : Array Bool} (hs : listed.size = ops.size) (hr : Region.ready md ops listed = []) (i : Nat) : listed.getD i true = true := by
  induction i using Nat.strongRecOn with
  | ind i ih =>
    cases hv : listed.getD i true
    · exfalso
      have hlt : i < listed.size := by
        rcases Nat.lt_or_ge i listed.size with h' | h'
        · exact h'
        · rw [Array.getD_eq_getD_getElem?, Array.getElem?_eq_none h'] at hv; cases hv
      have hlt2 : i < ops.size := by omega
      have hmem : i ∈ Region.ready md ops listed := by
        refine mem_ready.2 ⟨hv, ops[i], by simp [hlt2], fun e he hb => ?_⟩
        unfold acycB at hac
        rw [List.all_eq_true] at hac
        have h1 := hac i (List.mem_range.2 hlt2)
        rw [Array.getElem?_eq_getElem hlt2] at h1
        simp only at h1
        rw [Array.all_eq_true_iff_forall_mem] at h1
        have h2 := of_decide_eq_true (h1 e he)
        have h3 := ih e.on h2
        have h4 : e.on < listed.size := by omega
        rw [Array.getD_eq_getD_getElem?] at h3 ⊢
        rw [Array.getElem?_eq_getElem h4] at h3 ⊢
        exact h3
      rw [hr] at hmem; cases hmem
    · rfl
theorem wp_region_inv {id : Nat} {a : Act} {w : World} (I : Array Bool → Act → World → Prop) (hm : P.follows .mixedOrders = true)
    (h0 : I (Array.replicate ops.size false) a w.drew)
    (hstep : ∀ (i : Nat) (o : Oper) (listed : Array Bool) (a : Act) (w : World), ops[i]? = some o → listed.getD i true = false → (∀ e ∈ o.after, Region.binds .any e = true → listed.getD e.on false = true) → I listed a w →
      wpOp P ops Q i (fun a' w' => I (listed.setIfInBounds i true) a' w') a w)
    (hend : ∀ (listed : Array Bool) (a : Act) (w : World), Region.ready .any ops listed = [] → I listed a w → Q .normal a w) : (Code.region id ops true).wp P Q a w :=
  wp_region_any hm (wpAny_inv hstep hend _ _ _ _ (by
    unfold unlisted
    rw [Array.toList_replicate, List.countP_replicate]
    simp) h0)
end
end Go.Proofs.YtibmlgkakeakcaaDoor
/- Lists of values: operations alone. -/
set_option linter.unusedSimpArgs false
set_option linter.unusedVariables false
namespace Go.Proofs.YtibmlgkakeakcaaDoor
open Go.RowKit
/-- append of values onto values of one's own, as an operation alone. -/
theorem wp_append_vals {ts t : TypeId} {z : Value} {b : Nat} (E : El ts t z b) {w : World} {o : Oper} {a : Act} {K : Act → World → Prop} {Q : Exit → Act → World → Prop} (s x : Operand)
    (ho : o.op = .call { callee := .builtin .append, args := #[s, x], argTypes := #[ts, ts] })
    (base : Nat) (v : Value) (vs : List Value) (hs : a.eval s = v) (hown : OwnVs w base t v vs)
    (A : Option Addr) (m cx : Nat) (ys : List Value) (hx : a.eval x = .slice A m cx) (hm : m = ys.length) (hnil : A = none → cx = 0) (hU : ValsAt w A ys) (h1 : ∀ u ∈ ys, u.oneCell' = true)
    (hbytes : vs.length + ys.length ≤ 1000000000000) (hbase : base ≤ w.heap.size)
    (h : ∀ v' w', Hid (OwnVs w' base t v' (vs ++ ys) ∧ w.grownBy w' v.ownBlock) → K (a.put o.dst v') w') : o.wp Tryd.prog a w K Q := by
  obtain ⟨i, hi, hz0, hz1, hz2⟩ := info_parts E.i
  subst hm
  cases A with
  | none =>
    have hys : ys = [] := by
      rcases ys with _ | ⟨y, ys⟩
      · rfl
      · obtain ⟨ad, hA, _⟩ := hU 0 (Nat.succ_pos _); cases hA
    subst hys
    have hc := hnil rfl
    subst hc
    have hr := run_append_owned_none (P := Tryd.prog) w base ts o.type t i 1 E.u hi v vs.length vs hown
    unfold Oper.wp execOp
    simp only [ho, resolve, invoke, builtin, Sem.run_bind, Sem.run_pure, Result.andThen_ok, List.map_toArray, List.map_cons, List.map_nil, hs, hx]
    simp only [List.length_nil, hr, Result.andThen_ok]
    exact h v w ⟨by rw [List.append_nil]; exact hown, World.grownBy.refl _ _⟩
  | some ad =>
    have hb24 := E.b24
    refine wp_append_own w s x _ ho base t i z 1 b E.u hi hz0 hz1 hz2 E.z1 (by decide) v vs.length _ hs hown ad ys.length cx ys hx (by rw [Nat.mul_one]) ?_ h1 (by unfold maxLen; omega) ?_ hbase ?_
    · intro j u hj
      have hlt : j < ys.length := (List.getElem?_eq_some_iff.1 hj).1
      obtain ⟨ad', hA, hc⟩ := hU j hlt
      cases hA
      rw [hc]
      rw [List.getElem?_eq_getElem hlt] at hj
      exact hj
    · refine Nat.le_trans (Nat.mul_le_mul hbytes hb24) (by decide)
    · intro v' w' hown' hg hnn
      refine h v' w' ⟨?_, hg⟩
      unfold OwnVs
      rw [List.length_append]
      exact hown'
/-- A whole variable is written, as an operation alone. -/
theorem wp_storeRow {w : World} {o : Oper} {a : Act} {K : Act → World → Prop} {Q : Exit → Act → World → Prop} (t : TypeId) (x y : Operand) (ho : o.op = .store t x y) (r : Nat) (hx : a.eval x = .pointer (some ⟨r, 0, none⟩)) (cs old : List Value) (hy : a.eval y = .agg cs.toArray)
    (hs : (Tryd.prog.info? t).map (·.size) = some cs.length) (hl : old.length = cs.length) (h1 : ∀ v ∈ cs, v.oneCell' = true) (hb : w.heap[r]? = some (.cells old.toArray t (0, 0)))
    (h : ∀ w', Hid (w'.heap[r]? = some (.cells cs.toArray t (0, 0))) → Kept (· = r) w w' → K (a.put o.dst undef) w') : o.wp Tryd.prog a w K Q := by
  have hr := run_storeVar_row (P := Tryd.prog) w r t t old.toArray cs.toArray hb (by simpa using hs) (by simpa using hl) (all_oneCell_toArray h1)
  unfold Oper.wp execOp
  simp only [ho, hx, hy, Instr.storeAt, Instr.sureAddr, Sem.run_bind, Sem.run_pure, Result.andThen_ok, hr]
  exact h _ (setRow_heap w r _ _ t (0, 0) hb) (Kept.setRow w _)
theorem step_of {ops : Array Oper} {o : Oper} {a : Act} {w : World} {K : Act → World → Prop} {Q : Exit → Act → World → Prop} {E : Prop} (hgd : o.guard = none) (h : o.wp Tryd.prog a w K Q) : if Region.wanted o (yielded ops a.tmps) = true then Oper.wp Tryd.prog o a w K Q else E := by
  have hw : Region.wanted o (yielded ops a.tmps) = true := by simp [Region.wanted, hgd]
  rw [if_pos hw]; exact h
/-- append of any bytes onto bytes of one's own, as an operation alone. -/
theorem wp_append_bytesO {w : World} {o : Oper} {a : Act} {K : Act → World → Prop} {Q : Exit → Act → World → Prop} (s x : Operand)
    (ho : o.op = .call { callee := .builtin .append, args := #[s, x], argTypes := #[30, 30] })
    (base : Nat) (v : Value) (l : List UInt8) (hs : a.eval s = v) (hown : OwnB w base v l)
    (A : Option Addr) (m c : Nat) (l' : List UInt8) (hx : a.eval x = .slice A m c) (hm : m = l'.length) (hnil : A = none → c = 0) (hb : Bytes w A l')
    (hbytes : l.length + l'.length ≤ 140737488355328) (hbase : base ≤ w.heap.size)
    (h : ∀ v' w', Hid (OwnB w' base v' (l ++ l') ∧ w.grownBy w' v.ownBlock) → K (a.put o.dst v') w') : o.wp Tryd.prog a w K Q := by
  obtain ⟨i, hi, hz0, hz1, hz2⟩ := info_parts info8
  subst hm
  cases A with
  | some ad =>
    refine wp_append_own w s x _ ho base 5 i (.int .u8 0) 1 1 Tryd.underlying30 hi hz0 hz1 hz2 rfl (by decide) v l.length (cells8 l) hs hown ad l'.length c (cells8 l') hx (by rw [cells8_length, Nat.mul_one]) ?_ (cells8_one l') (by unfold maxLen; omega) (by omega) hbase ?_
    · intro j u hj
      have hlt : j < l'.length := by have := (List.getElem?_eq_some_iff.1 hj).1; rwa [cells8_length] at this
      obtain ⟨ad', hA, hc⟩ := hb j hlt
      cases hA
      rw [cells8_get l' j hlt] at hj
      rw [hc, hj]
    · intro v' w' hown' hg hnn
      refine h v' w' ⟨?_, hg⟩
      unfold OwnB
      rw [List.length_append, cells8_append]
      exact hown'
  | none =>
    have hl : l' = [] := hb.none
    subst hl
    have hc := hnil rfl
    subst hc
    have hr := run_append_owned_none (P := Tryd.prog) w base 30 o.type 5 i 1 Tryd.underlying30 hi v l.length (cells8 l) hown
    unfold Oper.wp execOp
    simp only [ho, resolve, invoke, builtin, Sem.run_bind, Sem.run_pure, Result.andThen_ok, List.map_toArray, List.map_cons, List.map_nil, hs, hx]
    simp only [List.length_nil, hr, Result.andThen_ok]
    exact h v w ⟨by rw [List.append_nil]; exact hown, World.grownBy.refl _ _⟩
end Go.Proofs.YtibmlgkakeakcaaDoor
/- append of one row onto rows of one's own, as an operation alone. -/
set_option linter.unusedSimpArgs false
set_option linter.unusedVariables false
namespace Go.Proofs.YtibmlgkakeakcaaDoor
open Go.RowKit Go.Proofs.YtibmlgkakeakcaaDoor.Crc
theorem wp_append_rowO {w : World} {o : Oper} {a : Act} {K : Act → World → Prop} {Q : Exit → Act → World → Prop} (s x : Operand)
    (ho : o.op = .call { callee := .builtin .append, args := #[s, x], argTypes := #[23, 23] })
    (base : Nat) (v : Value) (ls : List (List UInt8)) (hs : a.eval s = v) (hown : OwnRL w base v ls)
    (ad : Addr) (cx : Nat) (A : Option Addr) (m c : Nat) (l : List UInt8) (hx : a.eval x = .slice (some ad) 1 cx) (hcell : w.cell? (ad.add 0) = some (.slice A m c)) (hb : OwnB w base (.slice A m c) l)
    (hbytes : ls.length ≤ 1000000) (hbase : base ≤ w.heap.size)
    (h : ∀ v' w', Hid (OwnRL w' base v' (ls ++ [l]) ∧ w.grownBy w' v.ownBlock) → K (a.put o.dst v') w') : o.wp Tryd.prog a w K Q := by
  obtain ⟨i, hi, hz0, hz1, hz2⟩ := info_parts infoRow
  obtain ⟨vs, h1, h2⟩ := hown
  have hm := hb.len
  subst hm
  refine wp_append_own w s x _ ho base 30 i (.slice none 0 0) 1 24 Tryd.underlying23 hi hz0 hz1 hz2 rfl (by decide) v ls.length vs hs h1 ad 1 cx [.slice A l.length c] hx rfl ?_ (by simp; rfl) (by unfold maxLen; omega) (by omega) hbase ?_
  · intro j u hj
    match j, hj with
    | 0, hj => simp at hj; rw [hcell, hj]
    | j + 1, hj => simp at hj
  · intro v' w' hown' hg hnn
    refine h v' w' ⟨⟨vs ++ [.slice A l.length c], by rw [List.length_append]; exact hown', ?_⟩, hg⟩
    have hvl : vs.length = ls.length := by have := h1.1; omega
    intro i hi
    rw [List.length_append, List.length_singleton] at hi
    by_cases hlt : i < ls.length
    · obtain ⟨Ai, ci, h3, h4⟩ := h2 i hlt
      refine ⟨Ai, ci, ?_, ?_⟩
      · rw [List.getElem?_append_left (by omega), h3, List.getElem_append_left hlt]
      · rw [List.getElem_append_left hlt]
        exact h4.grown hg (ownsRow_apart h4 h1 (by decide))
    · obtain rfl : i = ls.length := by omega
      refine ⟨A, c, ?_, ?_⟩
      · rw [List.getElem?_append_right (by omega), hvl]; simp
      · simp only [List.getElem_append_right (Nat.le_refl _), Nat.sub_self, List.getElem_cons_zero]
        exact hb.grown hg (ownsRow_apart hb h1 (by decide))
end Go.Proofs.YtibmlgkakeakcaaDoor
/- The walk of copied: a node of its own memory. -/
set_option linter.unusedSimpArgs false
set_option linter.unusedVariables false
namespace Go.Proofs.YtibmlgkakeakcaaDoor
open Go.RowKit Go.Proofs.YtibmlgkakeakcaaDoor.Crc
theorem OwnVs.grown {w w' : World} {base : Nat} {t : TypeId} {v : Value} {vs : List Value} {row : Option Nat} (h : OwnVs w base t v vs) (hg : w.grownBy w' row) (hne : v.ownBlock = none ∨ v.ownBlock ≠ row) : OwnVs w' base t v vs := World.ownsRow.kept h hg hne
theorem ownVs_apart {w : World} {base base' : Nat} {t t' : TypeId} {v v' : Value} {vs vs' : List Value} (h : OwnVs w base t v vs) (h' : OwnVs w base' t' v' vs') (he : t ≠ t') : v.ownBlock = none ∨ v.ownBlock ≠ v'.ownBlock := ownsRow_apart h h' he
theorem ownVs_not {w : World} {base p : Nat} {t T : TypeId} {v : Value} {vs : List Value} {cs : Array Value} (h : OwnVs w base t v vs) (hp : w.heap[p]? = some (.cells cs T (0, 0))) (he : t ≠ T) : ¬ v.ownBlock = some p := fun hv => by
  obtain ⟨cur, hc⟩ := ownsRow_block h hv
  rw [hc] at hp
  injection hp with hp
  injection hp with _ h4
  exact he h4
theorem ownVs_node {w w' : World} {base p : Nat} {t T : TypeId} {v : Value} {vs : List Value} {cs : Array Value} (h : OwnVs w base t v vs) (hg : w.grownBy w' v.ownBlock) (hp : w.heap[p]? = some (.cells cs T (0, 0))) (he : t ≠ T) : w'.heap[p]? = some (.cells cs T (0, 0)) :=
  ((Kept.of_grown (S := fun k => v.ownBlock = some k) hg (fun k hk => hk)).block p (Array.getElem?_eq_some_iff.1 hp).1 (ownVs_not h hp he)).trans hp
/-- A copied node under way: its block, its rows. -/
structure CopL (B p : Nat) (w1 : World) (lf : Bool) (x11 x15 : Value) (ks : List (List UInt8)) (vs : List (List UInt8)) (is : List Int) (t : Nat) (v : Value) (w : World) : Prop where
  blk : w.heap[p]? = some (.cells #[.bool lf, x11, v, x15] 28 (0, 0))
  v : OwnRL w B v (vs.take t)
  k : OwnVs w B 9 x11 (strs ks)
  i : OwnVs w B 3 x15 (ints is)
  be : Below B w1 w
theorem ownRL_not {w : World} {base p : Nat} {T : TypeId} {v : Value} {ls : List (List UInt8)} {cs : Array Value} (h : OwnRL w base v ls) (hp : w.heap[p]? = some (.cells cs T (0, 0))) (he : 30 ≠ T) : ¬ v.ownBlock = some p := fun hv => by
  obtain ⟨vs, h1, _⟩ := h
  obtain ⟨cur, hc⟩ := ownsRow_block h1 hv
  rw [hc] at hp
  injection hp with hp
  injection hp with _ h4
  exact he h4
theorem OwnRL.keptBy {S : Nat → Prop} {w w' : World} {base : Nat} {v : Value} {ls : List (List UInt8)} (h : OwnRL w base v ls) (hk : Kept S w w') (hs : ∀ k cs, S k → w.heap[k]? = some (.cells cs 30 (0, 0)) → False) (hs8 : ∀ k cs, S k → w.heap[k]? = some (.cells cs 5 (0, 0)) → False) : OwnRL w' base v ls := by
  obtain ⟨vs, h1, h2⟩ := h
  refine ⟨vs, ⟨h1.1, ?_⟩, fun i hi => ?_⟩
  · rcases h1.2 with a | ⟨g, cap, cur, a1, a2, a3, r⟩
    · exact .inl a
    · exact .inr ⟨g, cap, cur, a1, a2, by rw [hk.block g ((Array.getElem?_eq_some_iff.1 a3).1) (fun hS => hs g cur hS a3)]; exact a3, r⟩
  · obtain ⟨A, c, h3, h4⟩ := h2 i hi
    refine ⟨A, c, h3, h4.kept hk (fun k hk' hS => ?_)⟩
    obtain ⟨cur, hc⟩ := ownsRow_block h4 hk'
    exact hs8 k cur hS hc
theorem OwnB.toBase {w : World} {base base' : Nat} {v : Value} {l : List UInt8} (h : OwnB w base v l) (hb : base' ≤ base) : OwnB w base' v l := h.base hb
/-- The row's bytes are copied: what stands then. -/
theorem CopL.cell {B p : Nat} {w1 : World} {lf : Bool} {x11 x15 : Value} {ks vs : List (List UInt8)} {is : List Int} {t : Nat} {v : Value} {wr w5 : World} (h : CopL B p w1 lf x11 x15 ks vs is t v wr) {l : List UInt8} {A5 : Option Addr} {m c5 : Nat}
    (hO : OwnB (wr.drew.alloc (.cells #[] 5)) wr.heap.size (.slice (some ⟨wr.heap.size, 0, none⟩) 0 0) []) (hB : Below wr.heap.size wr (wr.drew.alloc (.cells #[] 5)))
    (h5 : OwnB w5 wr.heap.size (.slice A5 m c5) ([] ++ l) ∧ (wr.drew.alloc (.cells #[] 5)).grownBy w5 (Value.slice (some ⟨wr.heap.size, 0, none⟩) 0 0).ownBlock) (hm : l.length = m) (hBs : B ≤ wr.heap.size) :
    w5.cell? ⟨p, 2, none⟩ = some v ∧ (w5.alloc (.cells #[.slice A5 m c5] 30)).cell? ⟨p, 2, none⟩ = some v ∧ OwnRL (w5.alloc (.cells #[.slice A5 m c5] 30)) B v (vs.take t) ∧ OwnB (w5.alloc (.cells #[.slice A5 m c5] 30)) B (.slice A5 m c5) l ∧ B ≤ (w5.alloc (.cells #[.slice A5 m c5] 30)).heap.size ∧
      CopL B p w1 lf x11 x15 ks vs is t v (w5.alloc (.cells #[.slice A5 m c5] 30)) := by
  have h1 : Below wr.heap.size wr w5 := hB.grown h5.2 hB.size (fun k hk => (hO.lt k hk).1)
  have h2 : Below w5.heap.size w5 (w5.alloc (.cells #[.slice A5 m c5] 30)) := (Below.refl _ _).alloc (Nat.le_refl _) _
  have h3 : Below wr.heap.size wr (w5.alloc (.cells #[.slice A5 m c5] 30)) := h1.trans (h2.mono h1.size)
  have hc : wr.cell? ⟨p, 2, none⟩ = some v := by rw [cell_of_row _ _ _ _ _ _ h.blk]; rfl
  have hp : p < wr.heap.size := (Array.getElem?_eq_some_iff.1 h.blk).1
  have h5' := h5.1
  rw [List.nil_append] at h5'
  refine ⟨(h1.cell hp).trans hc, (h3.cell hp).trans hc, h.v.below h3, (h5'.base hBs).below h2, Nat.le_trans hBs h3.size, ?_⟩
  exact ⟨(h3.block p hp).trans h.blk, h.v.below h3, h.k.below h3, h.i.below h3, h.be.trans (h3.mono hBs)⟩
/-- The row is put to the others. -/
theorem CopL.put {B p : Nat} {w1 : World} {lf : Bool} {x11 x15 : Value} {ks vs : List (List UInt8)} {is : List Int} {t : Nat} {v v9 : Value} {wr w9 : World} (h : CopL B p w1 lf x11 x15 ks vs is t v wr) {l : List UInt8}
    (h9 : OwnRL w9 B v9 (vs.take t ++ [l]) ∧ wr.grownBy w9 v.ownBlock) (ht : vs.take (t + 1) = vs.take t ++ [l]) :
    w9.cell? ⟨p, 2, none⟩ = some v ∧ w9.frozen? ⟨p, 2, none⟩ = false ∧ (B ≤ wr.heap.size → B ≤ p → CopL B p w1 lf x11 x15 ks vs is (t + 1) v9 (w9.setCell ⟨p, 2, none⟩ v9)) := by
  have hp : p < wr.heap.size := (Array.getElem?_eq_some_iff.1 h.blk).1
  have hk : Kept (fun k => v.ownBlock = some k) wr w9 := Kept.of_grown h9.2 (fun k hk => hk)
  have hnp : ¬ v.ownBlock = some p := ownRL_not h.v h.blk (by decide)
  have hb9 : w9.heap[p]? = some (.cells #[.bool lf, x11, v, x15] 28 (0, 0)) := (hk.block p hp hnp).trans h.blk
  refine ⟨by rw [cell_of_row _ _ _ _ _ _ hb9]; rfl, frozen_of_row _ _ _ _ _ hb9, fun hB hBp => ?_⟩
  have hs : Kept (· = p) w9 (w9.setCell ⟨p, 2, none⟩ v9) := Kept.set1 w9 p 2 v9
  obtain ⟨vs', hv1, _⟩ := h.v
  have hk9 : OwnVs w9 B 9 x11 (strs ks) := h.k.grown h9.2 (ownsRow_apart h.k hv1 (by decide))
  have hi9 : OwnVs w9 B 3 x15 (ints is) := h.i.grown h9.2 (ownsRow_apart h.i hv1 (by decide))
  have hB9 : Below B w1 w9 := h.be.grown h9.2 hB (fun k hk' => h.v.fr k hk')
  refine ⟨?_, ?_, hk9.kept hs (fun k hk' e => ownVs_not hk9 hb9 (by decide) (e ▸ hk')), hi9.kept hs (fun k hk' e => ownVs_not hi9 hb9 (by decide) (e ▸ hk')), hB9.trans (hs.below (Nat.le_trans hB (Kept.of_grown (S := fun _ => True) h9.2 (fun _ _ => trivial)).size) (fun k hk' e => by have e' : k = p := e; omega))⟩
  · simp [World.setCell, Array.getElem?_modify, hb9]
  · rw [ht]
    refine h9.1.keptBy hs (fun k cs hS hc => ?_) (fun k cs hS hc => ?_)
    · rw [show k = p from hS, hb9] at hc; injection hc with hc; injection hc with _ h4; exact absurd h4 (by decide)
    · rw [show k = p from hS, hb9] at hc; injection hc with hc; injection hc with _ h4; exact absurd h4 (by decide)
theorem own_ones {w : World} {base base' : Nat} {t t' : TypeId} {v v' : Value} {vs vs' : List Value} {b : Bool} (h : OwnVs w base t v vs) (h' : OwnVs w base' t' v' vs') : ∀ u ∈ ([.bool b, v, .slice none 0 0, v'] : List Value), u.oneCell' = true := by
  intro u hu
  simp only [List.mem_cons, List.mem_nil_iff, or_false] at hu
  rcases hu with rfl | rfl | rfl | rfl
  · rfl
  · obtain ⟨A, c, rfl, _⟩ := h.sl; rfl
  · rfl
  · obtain ⟨A, c, rfl, _⟩ := h'.sl; rfl
theorem sizeNd : (Tryd.prog.info? 28).map (·.size) = some 4 := by kernel_rfl
theorem run_retNode {w : World} {r : Nat} {a b c d : Value} (h : w.heap[r]? = some (.cells #[a, b, c, d] 28 (0, 0))) : (loadVar 28 ⟨r, 0, none⟩).run Tryd.prog w = .ok (.agg #[a, b, c, d]) w :=
  run_loadVar_row _ _ _ 28 _ (0, 0) _ h Tryd.underlying28 rfl sizeNd
theorem row4_cells {w : World} {r : Nat} {a b c d : Value} {T : TypeId} (h : w.heap[r]? = some (.cells #[a, b, c, d] T (0, 0))) : w.cell? ⟨r, 0, none⟩ = some a ∧ w.cell? ⟨r, 1, none⟩ = some b ∧ w.cell? ⟨r, 2, none⟩ = some c ∧ w.cell? ⟨r, 3, none⟩ = some d :=
  ⟨by rw [cell_of_row _ _ _ _ _ _ h]; rfl, by rw [cell_of_row _ _ _ _ _ _ h]; rfl, by rw [cell_of_row _ _ _ _ _ _ h]; rfl, by rw [cell_of_row _ _ _ _ _ _ h]; rfl⟩
theorem row4_frozen {w : World} {r : Nat} {a b c d : Value} {T : TypeId} (h : w.heap[r]? = some (.cells #[a, b, c, d] T (0, 0))) : w.frozen? ⟨r, 0, none⟩ = false ∧ w.frozen? ⟨r, 1, none⟩ = false ∧ w.frozen? ⟨r, 2, none⟩ = false ∧ w.frozen? ⟨r, 3, none⟩ = false :=
  ⟨frozen_of_row _ _ _ _ _ h, frozen_of_row _ _ _ _ _ h, frozen_of_row _ _ _ _ _ h, frozen_of_row _ _ _ _ _ h⟩
theorem row4_put {w : World} {r : Nat} {a b c d : Value} {T : TypeId} (h : w.heap[r]? = some (.cells #[a, b, c, d] T (0, 0))) (x y z u : Value) : ((((w.setCell ⟨r, 0, none⟩ x).setCell ⟨r, 1, none⟩ y).setCell ⟨r, 2, none⟩ z).setCell ⟨r, 3, none⟩ u).heap[r]? = some (.cells #[x, y, z, u] T (0, 0)) ∧ Kept (· = r) w ((((w.setCell ⟨r, 0, none⟩ x).setCell ⟨r, 1, none⟩ y).setCell ⟨r, 2, none⟩ z).setCell ⟨r, 3, none⟩ u) :=
  ⟨by simp [World.setCell, Array.getElem?_modify, h], (((Kept.set1 w r 0 x).trans (Kept.set1 _ r 1 y)).trans (Kept.set1 _ r 2 z)).trans (Kept.set1 _ r 3 u)⟩
theorem results_cell1 {fn : Func} {t : TypeId} {k r : Nat} {w : World} {v : Value} (hf : fn.results = #[.cell k t]) (tmps : Array Value) (hp : tmps.getD k undef = .pointer (some ⟨r, 0, none⟩))
    (h : (loadVar t ⟨r, 0, none⟩).run Tryd.prog w = .ok v w) : (results fn tmps).run Tryd.prog w = .ok v w := by
  rw [Array.getD_eq_getD_getElem?] at hp
  simp [results, hf, hp, asAddr, h]
theorem CopL.done {B p : Nat} {w1 : World} {lf : Bool} {ks vs : List (List UInt8)} {is : List Int} {t nk nv ni kd vd id : Nat} {kB vB iB : Option Addr} {wr w' : World} (h : CopL B p w1 lf (.slice kB nk kd) (.slice iB ni id) ks vs is t (.slice vB nv vd) wr)
    (ht : vs.length ≤ t) (hnk : ks.length = nk) (hnv : vs.length = nv) (hni : is.length = ni) {q : Nat} {a b c d : Value} (hq : wr.heap[q]? = some (.cells #[a, b, c, d] 28 (0, 0))) (hk : Kept (· = q) wr w') : NodeAt w' ⟨lf, ks, vs, is⟩ kB kd vB vd iB id := by
  have hv := h.v
  rw [List.take_of_length_le ht] at hv
  have hv' : OwnRL w' B (.slice vB nv vd) vs := hv.keptBy hk (fun k cs hS hc => by
    rw [show k = q from hS, hq] at hc; injection hc with hc; injection hc with _ h4; exact absurd h4 (by decide)) (fun k cs hS hc => by
    rw [show k = q from hS, hq] at hc; injection hc with hc; injection hc with _ h4; exact absurd h4 (by decide))
  have hk' : OwnVs w' B 9 (.slice kB nk kd) (strs ks) := h.k.kept hk (fun k hk' e => ownVs_not h.k hq (by decide) (e ▸ hk'))
  have hi' : OwnVs w' B 3 (.slice iB ni id) (ints is) := h.i.kept hk (fun k hk' e => ownVs_not h.i hq (by decide) (e ▸ hk'))
  obtain ⟨A1, c1, e1, n1, v1, l1, m1, _⟩ := hk'.sl
  obtain ⟨A2, c2, e2, n2, v2, l2, m2, _⟩ := hi'.sl
  obtain ⟨A3, c3, e3, v3, l3, m3, n3⟩ := hv'.slice
  rw [strs_length] at e1 l1
  rw [ints_length] at e2 l2
  obtain ⟨rfl, _, rfl⟩ : kB = A1 ∧ nk = ks.length ∧ kd = c1 := by simpa using e1
  obtain ⟨rfl, _, rfl⟩ : iB = A2 ∧ ni = is.length ∧ id = c2 := by simpa using e2
  obtain ⟨rfl, _, rfl⟩ : vB = A3 ∧ nv = vs.length ∧ vd = c3 := by simpa using e3
  exact ⟨v1, v3, v2, ⟨n1, l1, m1⟩, ⟨n3, l3, m3⟩, ⟨n2, l2, m2⟩⟩
set_option maxRecDepth 10000 in
set_option maxHeartbeats 4000000 in
theorem copied_calls {w : World} {n : NodeM} {kA : Option Addr} {kc : Nat} {vA : Option Addr} {vc : Nat} {iA : Option Addr} {ic : Nat} (h : NodeAt w n kA kc vA vc iA ic) (hn : n.keys.length ≤ 1000 ∧ n.vals.length ≤ 1000 ∧ n.kids.length ≤ 1000) (hv : ∀ v ∈ n.vals, v.length ≤ 1000) :
    Calls Tryd.prog 9 #[.agg #[.bool n.leaf, .slice kA n.keys.length kc, .slice vA n.vals.length vc, .slice iA n.kids.length ic]] w fun e w' => ∃ kB kd vB vd iB id, e = .returned (.agg #[.bool n.leaf, .slice kB n.keys.length kd, .slice vB n.vals.length vd, .slice iB n.kids.length id]) ∧ Hid (NodeAt w' n kB kd vB vd iB id ∧ Below w.heap.size w w') := by
  obtain ⟨lf, ks, vs, is⟩ := n
  obtain ⟨hb1, hr1, hr2⟩ := node2_box' w (.bool lf) (.slice kA ks.length kc) (.slice vA vs.length vc) (.slice iA is.length ic) (.bool false) (.slice none 0 0) (.slice none 0 0) (.slice none 0 0) 26 28
  obtain ⟨w1, hw1⟩ : ∃ w1, (w.alloc (.cells #[.bool lf, .slice kA ks.length kc, .slice vA vs.length vc, .slice iA is.length ic] 26)).alloc (.cells #[.bool false, .slice none 0 0, .slice none 0 0, .slice none 0 0] 28) = w1 := ⟨_, rfl⟩
  rw [hw1] at hb1 hr1 hr2
  have hx := box_cells hr1
  have H := Lib.hid (h.below hb1)
  have HB0 : Hid (Below w.heap.size w w1) := hb1
  have hsz : Hid (w.heap.size ≤ w1.heap.size) := hb1.size
  have HR2 := Lib.hid hr2
  obtain ⟨r, hr0⟩ : ∃ r, w.heap.size = r := ⟨_, rfl⟩
  rw [hr0] at hx HR2
  have HX := Lib.hid hx
  have HNs : Hid (ks.length ≤ 1000 ∧ vs.length ≤ 1000 ∧ is.length ≤ 1000) := hn
  have HVl := Lib.hid hv
  clear hb1 hr1 hr2 hx h hn hv
  obtain ⟨B, hBe⟩ : ∃ B, w1.heap.size = B := ⟨_, rfl⟩
  have hrB : r + 1 < B := by rw [← hBe]; exact (Array.getElem?_eq_some_iff.1 HR2.out).1
  rw [hBe] at hsz HX
  obtain ⟨nk, hnk⟩ : ∃ k, ks.length = k := ⟨_, rfl⟩
  obtain ⟨nv, hnv⟩ : ∃ k, vs.length = k := ⟨_, rfl⟩
  obtain ⟨ni, hni⟩ : ∃ k, is.length = k := ⟨_, rfl⟩
  have HKs : Hid (nk = (strs ks).length ∧ (kA = none → kc = 0) ∧ ValsAt w1 kA (strs ks)) := ⟨by rw [strs_length, hnk], H.out.kn.1, H.out.k⟩
  have HIs : Hid (ni = (ints is).length ∧ (iA = none → ic = 0) ∧ ValsAt w1 iA (ints is)) := ⟨by rw [ints_length, hni], H.out.inn.1, H.out.i⟩
  have HK := Lib.hid hnk
  have HV := Lib.hid hnv
  have HI := Lib.hid hni
  simp only at hw1 ⊢
  simp only [hnk, hnv, hni] at hw1 HX
  rw [hnk, hnv, hni]
  clear hnk hnv hni
  go_enter Tryd.func9, Tryd.ntmps9
  go_wp2_with fail
  clear hw1
  refine wp_region_inv (fun listed a w' => ∃ (l0 l1 l2 l3 l4 l5 l6 l7 l8 l9 l10 l11 l12 : Bool) (x8 x11 x12 x15 x3 : Value), listed = #[l0, l1, l2, l3, l4, l5, l6, l7, l8, l9, l10, l11, l12] ∧ a = ⟨#[Value.agg #[Value.bool lf, Value.slice kA nk kc, Value.slice vA nv vc, Value.slice iA ni ic], Value.pointer (some ⟨r, 0, none⟩), Value.pointer (some ⟨r + 1, 0, none⟩), bif l11 then x3 else undef, undef, undef, bif l0 then Value.pointer (some ⟨r, 0, none⟩) else undef, bif l1 then Value.bool lf else undef, bif l2 then x8 else undef, bif l3 then Value.pointer (some ⟨r, 1, none⟩) else undef, bif l4 then Value.slice kA nk kc else undef, bif l5 then x11 else undef, bif l6 then x12 else undef, bif l7 then Value.pointer (some ⟨r, 3, none⟩) else undef, bif l8 then Value.slice iA ni ic else undef, bif l9 then x15 else undef, bif l10 then Value.agg #[Value.bool lf, x11, Value.slice none 0 0, x15] else undef, undef, undef, undef, undef, undef, undef, undef, undef, undef, undef, undef, undef, undef, undef, undef, undef, undef], []⟩ ∧ Below B w1 w' ∧ (l2 = true → l5 = false → OwnVs w' B 9 x8 []) ∧ (l5 = true → OwnVs w' B 9 x11 (strs ks)) ∧ (l6 = true → l9 = false → OwnVs w' B 3 x12 []) ∧ (l9 = true → OwnVs w' B 3 x15 (ints is)) ∧ (l11 = true → ∃ p, x3 = .pointer (some ⟨p, 0, none⟩) ∧ B ≤ p ∧ w'.heap[p]? = some (.cells (bif l12 then #[.bool lf, x11, .slice none 0 0, x15] else #[.bool false, .slice none 0 0, .slice none 0 0, .slice none 0 0]) 28 (0, 0))) ∧ (l10 = true → l5 = true ∧ l9 = true) ∧ (l12 = true → l10 = true ∧ l11 = true)) rfl ?_ ?_ ?_
  · exact ⟨false, false, false, false, false, false, false, false, false, false, false, false, false, undef, undef, undef, undef, undef, rfl, rfl, by rw [← hBe]; exact (Below.refl _ _).drew, fun h => (by cases h), fun h => (by cases h), fun h => (by cases h), fun h => (by cases h), fun h => (by cases h), fun h => (by cases h), fun h => (by cases h)⟩
  · intro i o listed a w ho hl hd hI
    rcases i with _ | _ | _ | _ | _ | _ | _ | _ | _ | _ | _ | _ | _ | i
    · -- operation 0
      cases ho
      obtain ⟨l0, l1, l2, l3, l4, l5, l6, l7, l8, l9, l10, l11, l12, x8, x11, x12, x15, x3, rfl, rfl, hB, f2, f5, f6, f9, f11, g10, g12⟩ := hI
      have hBs : B ≤ w.heap.size := by have := hB.size; omega
      have hi : l0 = false := by simpa using hl
      subst hi
      refine wpOp_step rfl (fun K hK => ?_)
      have HK := Lib.hid hK
      clear hK hl hd
      rw [if_pos (by rfl)]
      go_wp2_with fail
      exact HK.out _ _ ⟨true, l1, l2, l3, l4, l5, l6, l7, l8, l9, l10, l11, l12, x8, x11, x12, x15, x3, rfl, rfl, hB, f2, f5, f6, f9, f11, g10, g12⟩
    · -- operation 1
      cases ho
      obtain ⟨l0, l1, l2, l3, l4, l5, l6, l7, l8, l9, l10, l11, l12, x8, x11, x12, x15, x3, rfl, rfl, hB, f2, f5, f6, f9, f11, g10, g12⟩ := hI
      have hBs : B ≤ w.heap.size := by have := hB.size; omega
      have hi : l1 = false := by simpa using hl
      have d0 : l0 = true := by simpa using hd ⟨0, .data⟩ (by simp) rfl
      subst hi d0
      refine wpOp_step rfl (fun K hK => ?_)
      have HK := Lib.hid hK
      clear hK hl hd
      rw [if_pos (by rfl)]
      obtain ⟨z0, z1, z2, z3⟩ := HX.out _ hB
      go_wp2_with fail
      exact HK.out _ _ ⟨true, true, l2, l3, l4, l5, l6, l7, l8, l9, l10, l11, l12, x8, x11, x12, x15, x3, rfl, rfl, hB, f2, f5, f6, f9, f11, g10, g12⟩
    · -- operation 2
      cases ho
      obtain ⟨l0, l1, l2, l3, l4, l5, l6, l7, l8, l9, l10, l11, l12, x8, x11, x12, x15, x3, rfl, rfl, hB, f2, f5, f6, f9, f11, g10, g12⟩ := hI
      have hBs : B ≤ w.heap.size := by have := hB.size; omega
      have hi : l2 = false := by simpa using hl
      subst hi
      refine wpOp_step rfl (fun K hK => ?_)
      have HK := Lib.hid hK
      clear hK hl hd
      rw [if_pos (by rfl)]
      go_wp2_with fail
      have hba : Below w.heap.size w (w.alloc (.cells #[] 9)) := (Below.refl _ _).alloc (Nat.le_refl _) _
      refine HK.out _ _ ⟨l0, l1, true, l3, l4, l5, l6, l7, l8, l9, l10, l11, l12, .slice (some ⟨w.heap.size, 0, none⟩) 0 0, x11, x12, x15, x3, rfl, rfl, hB.trans (hba.mono hBs), fun _ _ => OwnVs.lit w B hBs [] (by decide), fun h => (f5 h).below hba, fun h h' => (f6 h h').below hba, fun h => (f9 h).below hba, fun h => ?_, g10, g12⟩
      obtain ⟨p, h1, h2, h3⟩ := f11 h
      exact ⟨p, h1, h2, (hba.block p (Array.getElem?_eq_some_iff.1 h3).1).trans h3⟩
    · -- operation 3
      cases ho
      obtain ⟨l0, l1, l2, l3, l4, l5, l6, l7, l8, l9, l10, l11, l12, x8, x11, x12, x15, x3, rfl, rfl, hB, f2, f5, f6, f9, f11, g10, g12⟩ := hI
      have hBs : B ≤ w.heap.size := by have := hB.size; omega
      have hi : l3 = false := by simpa using hl
      subst hi
      refine wpOp_step rfl (fun K hK => ?_)
      have HK := Lib.hid hK
      clear hK hl hd
      rw [if_pos (by rfl)]
      go_wp2_with fail
      exact HK.out _ _ ⟨l0, l1, l2, true, l4, l5, l6, l7, l8, l9, l10, l11, l12, x8, x11, x12, x15, x3, rfl, rfl, hB, f2, f5, f6, f9, f11, g10, g12⟩
    · -- operation 4
      cases ho
      obtain ⟨l0, l1, l2, l3, l4, l5, l6, l7, l8, l9, l10, l11, l12, x8, x11, x12, x15, x3, rfl, rfl, hB, f2, f5, f6, f9, f11, g10, g12⟩ := hI
      have hBs : B ≤ w.heap.size := by have := hB.size; omega
      have hi : l4 = false := by simpa using hl
      have d3 : l3 = true := by simpa using hd ⟨3, .data⟩ (by simp) rfl
      subst hi d3
      refine wpOp_step rfl (fun K hK => ?_)
      have HK := Lib.hid hK
      clear hK hl hd
      rw [if_pos (by rfl)]
      obtain ⟨z0, z1, z2, z3⟩ := HX.out _ hB
      go_wp2_with fail
      exact HK.out _ _ ⟨l0, l1, l2, true, true, l5, l6, l7, l8, l9, l10, l11, l12, x8, x11, x12, x15, x3, rfl, rfl, hB, f2, f5, f6, f9, f11, g10, g12⟩
    · -- operation 5
      cases ho
      obtain ⟨l0, l1, l2, l3, l4, l5, l6, l7, l8, l9, l10, l11, l12, x8, x11, x12, x15, x3, rfl, rfl, hB, f2, f5, f6, f9, f11, g10, g12⟩ := hI
      have hBs : B ≤ w.heap.size := by have := hB.size; omega
      have hi : l5 = false := by simpa using hl
      have d2 : l2 = true := by simpa using hd ⟨2, .data⟩ (by simp) rfl
      have d4 : l4 = true := by simpa using hd ⟨4, .data⟩ (by simp) rfl
      have n10 : l10 = false := by cases h : l10; rfl; (have := g10 h; rw [hi] at this; simp at this)
      have n12 : l12 = false := by cases h : l12; rfl; (have := (g12 h).1; rw [n10] at this; cases this)
      subst hi d2 d4 n10 n12
      refine wpOp_step rfl (fun K hK => ?_)
      have HK := Lib.hid hK
      clear hK hl hd
      rw [if_pos (by rfl)]
      refine wp_append_vals elStr (.tmp 8) (.tmp 10) rfl B x8 [] rfl (f2 rfl rfl) kA nk kc (strs ks) rfl HKs.out.1 HKs.out.2.1 (HKs.out.2.2.below (by rw [hBe]; exact hB)) (strs_one ks) (by have := HNs.out; simp only [strs_length, List.length_nil]; omega) hBs ?_
      intro v9 w9 h9
      have h9v := h9.out.1
      rw [List.nil_append] at h9v
      have hlt : ∀ k, x8.ownBlock = some k → B ≤ k := fun k hk => ((f2 rfl rfl).lt k hk).1
      have hB9 : Below B w1 w9 := hB.grown h9.out.2 hBs hlt
      refine HK.out _ _ ⟨l0, l1, true, l3, true, true, l6, l7, l8, l9, false, l11, false, x8, v9, x12, x15, x3, rfl, rfl, hB9, fun _ h => (by cases h), fun _ => h9v, fun h h' => (f6 h h').grown h9.out.2 (ownVs_apart (f6 h h') (f2 rfl rfl) (by decide)), fun h => (f9 h).grown h9.out.2 (ownVs_apart (f9 h) (f2 rfl rfl) (by decide)), fun h => ?_, fun h => (by cases h), fun h => (by cases h)⟩
      obtain ⟨p, h1, h2, h3⟩ := f11 h
      exact ⟨p, h1, h2, ownVs_node (f2 rfl rfl) h9.out.2 h3 (by decide)⟩
    · -- operation 6
      cases ho
      obtain ⟨l0, l1, l2, l3, l4, l5, l6, l7, l8, l9, l10, l11, l12, x8, x11, x12, x15, x3, rfl, rfl, hB, f2, f5, f6, f9, f11, g10, g12⟩ := hI
      have hBs : B ≤ w.heap.size := by have := hB.size; omega
      have hi : l6 = false := by simpa using hl
      subst hi
      refine wpOp_step rfl (fun K hK => ?_)
      have HK := Lib.hid hK
      clear hK hl hd
      rw [if_pos (by rfl)]
      go_wp2_with fail
      have hba : Below w.heap.size w (w.alloc (.cells #[] 3)) := (Below.refl _ _).alloc (Nat.le_refl _) _
      refine HK.out _ _ ⟨l0, l1, l2, l3, l4, l5, true, l7, l8, l9, l10, l11, l12, x8, x11, .slice (some ⟨w.heap.size, 0, none⟩) 0 0, x15, x3, rfl, rfl, hB.trans (hba.mono hBs), fun h h' => (f2 h h').below hba, fun h => (f5 h).below hba, fun _ _ => OwnVs.lit w B hBs [] (by decide), fun h => (f9 h).below hba, fun h => ?_, g10, g12⟩
      obtain ⟨p, h1, h2, h3⟩ := f11 h
      exact ⟨p, h1, h2, (hba.block p (Array.getElem?_eq_some_iff.1 h3).1).trans h3⟩
    · -- operation 7
      cases ho
      obtain ⟨l0, l1, l2, l3, l4, l5, l6, l7, l8, l9, l10, l11, l12, x8, x11, x12, x15, x3, rfl, rfl, hB, f2, f5, f6, f9, f11, g10, g12⟩ := hI
      have hBs : B ≤ w.heap.size := by have := hB.size; omega
      have hi : l7 = false := by simpa using hl
      subst hi
      refine wpOp_step rfl (fun K hK => ?_)
      have HK := Lib.hid hK
      clear hK hl hd
      rw [if_pos (by rfl)]
      go_wp2_with fail
      exact HK.out _ _ ⟨l0, l1, l2, l3, l4, l5, l6, true, l8, l9, l10, l11, l12, x8, x11, x12, x15, x3, rfl, rfl, hB, f2, f5, f6, f9, f11, g10, g12⟩
    · -- operation 8
      cases ho
      obtain ⟨l0, l1, l2, l3, l4, l5, l6, l7, l8, l9, l10, l11, l12, x8, x11, x12, x15, x3, rfl, rfl, hB, f2, f5, f6, f9, f11, g10, g12⟩ := hI
      have hBs : B ≤ w.heap.size := by have := hB.size; omega
      have hi : l8 = false := by simpa using hl
      have d7 : l7 = true := by simpa using hd ⟨7, .data⟩ (by simp) rfl
      subst hi d7
      refine wpOp_step rfl (fun K hK => ?_)
      have HK := Lib.hid hK
      clear hK hl hd
      rw [if_pos (by rfl)]
      obtain ⟨z0, z1, z2, z3⟩ := HX.out _ hB
      go_wp2_with fail
      exact HK.out _ _ ⟨l0, l1, l2, l3, l4, l5, l6, true, true, l9, l10, l11, l12, x8, x11, x12, x15, x3, rfl, rfl, hB, f2, f5, f6, f9, f11, g10, g12⟩
    · -- operation 9
      cases ho
      obtain ⟨l0, l1, l2, l3, l4, l5, l6, l7, l8, l9, l10, l11, l12, x8, x11, x12, x15, x3, rfl, rfl, hB, f2, f5, f6, f9, f11, g10, g12⟩ := hI
      have hBs : B ≤ w.heap.size := by have := hB.size; omega
      have hi : l9 = false := by simpa using hl
      have d6 : l6 = true := by simpa using hd ⟨6, .data⟩ (by simp) rfl
      have d8 : l8 = true := by simpa using hd ⟨8, .data⟩ (by simp) rfl
      have d5 : l5 = true := by simpa using hd ⟨5, .chain⟩ (by simp) rfl
      have n10 : l10 = false := by cases h : l10; rfl; (have := g10 h; rw [hi] at this; simp at this)
      have n12 : l12 = false := by cases h : l12; rfl; (have := (g12 h).1; rw [n10] at this; cases this)
      subst hi d6 d8 d5 n10 n12
      refine wpOp_step rfl (fun K hK => ?_)
      have HK := Lib.hid hK
      clear hK hl hd
      rw [if_pos (by rfl)]
      refine wp_append_vals elInt (.tmp 12) (.tmp 14) rfl B x12 [] rfl (f6 rfl rfl) iA ni ic (ints is) rfl HIs.out.1 HIs.out.2.1 (HIs.out.2.2.below (by rw [hBe]; exact hB)) (ints_one is) (by have := HNs.out; simp only [ints_length, List.length_nil]; omega) hBs ?_
      intro v9 w9 h9
      have h9v := h9.out.1
      rw [List.nil_append] at h9v
      have hlt : ∀ k, x12.ownBlock = some k → B ≤ k := fun k hk => ((f6 rfl rfl).lt k hk).1
      have hB9 : Below B w1 w9 := hB.grown h9.out.2 hBs hlt
      refine HK.out _ _ ⟨l0, l1, l2, l3, l4, true, true, l7, true, true, false, l11, false, x8, x11, x12, v9, x3, rfl, rfl, hB9, fun h h' => (f2 h h').grown h9.out.2 (ownVs_apart (f2 h h') (f6 rfl rfl) (by decide)), fun h => (f5 h).grown h9.out.2 (ownVs_apart (f5 h) (f6 rfl rfl) (by decide)), fun _ h => (by cases h), fun _ => h9v, fun h => ?_, fun h => (by cases h), fun h => (by cases h)⟩
      obtain ⟨p, h1, h2, h3⟩ := f11 h
      exact ⟨p, h1, h2, ownVs_node (f6 rfl rfl) h9.out.2 h3 (by decide)⟩
    · -- operation 10
      cases ho
      obtain ⟨l0, l1, l2, l3, l4, l5, l6, l7, l8, l9, l10, l11, l12, x8, x11, x12, x15, x3, rfl, rfl, hB, f2, f5, f6, f9, f11, g10, g12⟩ := hI
      have hBs : B ≤ w.heap.size := by have := hB.size; omega
      have hi : l10 = false := by simpa using hl
      have d1 : l1 = true := by simpa using hd ⟨1, .data⟩ (by simp) rfl
      have d5 : l5 = true := by simpa using hd ⟨5, .data⟩ (by simp) rfl
      have d9 : l9 = true := by simpa using hd ⟨9, .data⟩ (by simp) rfl
      subst hi d1 d5 d9
      refine wpOp_step rfl (fun K hK => ?_)
      have HK := Lib.hid hK
      clear hK hl hd
      rw [if_pos (by rfl)]
      have F5 := Lib.hid (f5 rfl)
      have F9 := Lib.hid (f9 rfl)
      clear f5 f9
      obtain ⟨A5, c5, rfl, _⟩ := F5.out.sl
      obtain ⟨A9, c9, rfl, _⟩ := F9.out.sl
      go_wp2_with fail
      exact HK.out _ _ ⟨l0, true, l2, l3, l4, true, l6, l7, l8, true, true, l11, l12, x8, .slice A5 (strs ks).length c5, x12, .slice A9 (ints is).length c9, x3, rfl, rfl, hB, f2, fun _ => F5.out, f6, fun _ => F9.out, f11, fun _ => ⟨rfl, rfl⟩, fun h => ⟨rfl, (g12 h).2⟩⟩
    · -- operation 11
      cases ho
      obtain ⟨l0, l1, l2, l3, l4, l5, l6, l7, l8, l9, l10, l11, l12, x8, x11, x12, x15, x3, rfl, rfl, hB, f2, f5, f6, f9, f11, g10, g12⟩ := hI
      have hBs : B ≤ w.heap.size := by have := hB.size; omega
      have hi : l11 = false := by simpa using hl
      have n12 : l12 = false := by cases h : l12; rfl; (have := (g12 h).2; rw [hi] at this; cases this)
      subst hi n12
      refine wpOp_step rfl (fun K hK => ?_)
      have HK := Lib.hid hK
      clear hK hl hd
      rw [if_pos (by rfl)]
      go_wp2_with fail
      have hba : Below w.heap.size w (w.alloc (.cells #[.bool false, .slice none 0 0, .slice none 0 0, .slice none 0 0] 28)) := (Below.refl _ _).alloc (Nat.le_refl _) _
      exact HK.out _ _ ⟨l0, l1, l2, l3, l4, l5, l6, l7, l8, l9, l10, true, false, x8, x11, x12, x15, .pointer (some ⟨w.heap.size, 0, none⟩), rfl, rfl, hB.trans (hba.mono hBs), fun h h' => (f2 h h').below hba, fun h => (f5 h).below hba, fun h h' => (f6 h h').below hba, fun h => (f9 h).below hba, fun _ => ⟨w.heap.size, rfl, hBs, heap_alloc_new w _⟩, g10, fun h => (by cases h)⟩
    · -- operation 12
      cases ho
      obtain ⟨l0, l1, l2, l3, l4, l5, l6, l7, l8, l9, l10, l11, l12, x8, x11, x12, x15, x3, rfl, rfl, hB, f2, f5, f6, f9, f11, g10, g12⟩ := hI
      have hBs : B ≤ w.heap.size := by have := hB.size; omega
      have hi : l12 = false := by simpa using hl
      have d11 : l11 = true := by simpa using hd ⟨11, .data⟩ (by simp) rfl
      have d10 : l10 = true := by simpa using hd ⟨10, .data⟩ (by simp) rfl
      have d9 : l9 = true := by simpa using hd ⟨9, .chain⟩ (by simp) rfl
      have d0 : l0 = true := by simpa using hd ⟨0, .phase⟩ (by simp) rfl
      have d1 : l1 = true := by simpa using hd ⟨1, .phase⟩ (by simp) rfl
      have d2 : l2 = true := by simpa using hd ⟨2, .phase⟩ (by simp) rfl
      have d3 : l3 = true := by simpa using hd ⟨3, .phase⟩ (by simp) rfl
      have d4 : l4 = true := by simpa using hd ⟨4, .phase⟩ (by simp) rfl
      have d5 : l5 = true := by simpa using hd ⟨5, .phase⟩ (by simp) rfl
      have d6 : l6 = true := by simpa using hd ⟨6, .phase⟩ (by simp) rfl
      have d7 : l7 = true := by simpa using hd ⟨7, .phase⟩ (by simp) rfl
      have d8 : l8 = true := by simpa using hd ⟨8, .phase⟩ (by simp) rfl
      subst hi d11 d10 d9 d0 d1 d2 d3 d4 d5 d6 d7 d8
      refine wpOp_step rfl (fun K hK => ?_)
      have HK := Lib.hid hK
      clear hK hl hd
      rw [if_pos (by rfl)]
      obtain ⟨p, h1, h2, h3⟩ := f11 rfl
      subst h1
      refine wp_storeRow 28 (.tmp 3) (.tmp 16) rfl p rfl [.bool lf, x11, .slice none 0 0, x15] [.bool false, .slice none 0 0, .slice none 0 0, .slice none 0 0] rfl (by kernel_rfl) rfl (own_ones (f5 rfl) (f9 rfl)) h3 ?_
      intro w9 h9 hk9
      refine HK.out _ _ ⟨true, true, true, true, true, true, true, true, true, true, true, true, true, x8, x11, x12, x15, .pointer (some ⟨p, 0, none⟩), rfl, rfl, hB.trans (hk9.below hBs (fun k hk e => by have e' : k = p := e; omega)), fun _ h => (by cases h), fun _ => (f5 rfl).kept hk9 (fun k hk e => ownVs_not (f5 rfl) h3 (by decide) (e ▸ hk)), fun _ h => (by cases h), fun _ => (f9 rfl).kept hk9 (fun k hk e => ownVs_not (f9 rfl) h3 (by decide) (e ▸ hk)), fun _ => ⟨p, rfl, h2, h9.out⟩, g10, fun _ => ⟨rfl, rfl⟩⟩
    · exact absurd ho (by simp)
  · intro listed a w hr hI
    obtain ⟨l0, l1, l2, l3, l4, l5, l6, l7, l8, l9, l10, l11, l12, x8, x11, x12, x15, x3, rfl, rfl, hB, f2, f5, f6, f9, f11, g10, g12⟩ := hI
    have hall := ready_nil_all (by kernel_rfl) rfl hr
    have e0 : l0 = true := by simpa using hall 0
    have e1 : l1 = true := by simpa using hall 1
    have e2 : l2 = true := by simpa using hall 2
    have e3 : l3 = true := by simpa using hall 3
    have e4 : l4 = true := by simpa using hall 4
    have e5 : l5 = true := by simpa using hall 5
    have e6 : l6 = true := by simpa using hall 6
    have e7 : l7 = true := by simpa using hall 7
    have e8 : l8 = true := by simpa using hall 8
    have e9 : l9 = true := by simpa using hall 9
    have e10 : l10 = true := by simpa using hall 10
    have e11 : l11 = true := by simpa using hall 11
    have e12 : l12 = true := by simpa using hall 12
    clear hall hr
    subst e0 e1 e2 e3 e4 e5 e6 e7 e8 e9 e10 e11 e12
    obtain ⟨p, h1, h2, h3⟩ := f11 rfl
    have HI0 : Hid (CopL B p w1 lf x11 x15 ks vs is 0 (.slice none 0 0) w) := ⟨h3, OwnRL.nil _ _, f5 rfl, f9 rfl, hB⟩
    clear f2 f5 f6 f9 f11 g10 g12 hB h3
    subst h1
    have HP := Lib.hid h2
    clear h2
    obtain ⟨y0, y1, y2, y3⟩ := HX.out w HI0.out.be
    go_wp2_with fail
    simp only [cond_true]
    clear y0 y1 y2 y3
    go_loopw [20] (fun i wr => ∃ t : Nat, t ≤ nv ∧ i = .int .i64 (t : Int) ∧ Hid (∃ v, CopL B p w1 lf x11 x15 ks vs is t v wr)) (fun i _ => nv - (intOf i).toNat)
    case atStart => exact ⟨0, Nat.zero_le _, rfl, _, HI0.out⟩
    case round =>
      obtain ⟨t, ht, rfl, HL⟩ := hrel
      clear HI0
      obtain ⟨v, hcop⟩ := HL.out
      have HC := Lib.hid hcop
      clear hcop HL
      have hnv64 : nv ≤ 9223372036854775807 := by have := HNs.out; have := HV.out; omega
      by_cases hlt : t < nv
      · have hl1 : t < vs.length := by rw [HV.out]; exact hlt
        obtain ⟨b, o, hA⟩ := H.out.v.spot (Nat.lt_of_le_of_lt (Nat.zero_le t) hl1)
        subst hA
        obtain ⟨Ai, ci, hc, hs⟩ := (H.out.below (by rw [hBe]; exact HC.out.be)).v.at t hl1
        try simp only at hc hs
        rw [← atL_eq vs t hl1] at hc hs
        obtain ⟨m, hm⟩ : ∃ m, (atL vs t).length = m := ⟨_, rfl⟩
        rw [hm] at hc hs
        have HM := Lib.hid hm
        have HS := Lib.hid hs
        have HT : Hid (vs.take (t + 1) = vs.take t ++ [atL vs t]) := by show _ = _; rw [List.take_succ_eq_append_getElem hl1, atL_eq vs t hl1]
        have hvl : (atL vs t).length ≤ 1000 := by rw [atL_eq vs t hl1]; exact HVl.out _ (List.getElem_mem hl1)
        rw [hm] at hvl
        have HVl2 := Lib.hid hvl
        have HTl : Hid ((vs.take t).length ≤ 1000000) := by show _ ≤ _; rw [List.length_take]; have := HNs.out; omega
        obtain ⟨A2, c2, hv2, _, _, _, _⟩ := HC.out.v.slice
        obtain ⟨tl, htl⟩ : ∃ tl, (vs.take t).length = tl := ⟨_, rfl⟩
        rw [htl] at hv2
        subst hv2
        have z2 : wr.cell? ⟨p, 2, none⟩ = some (.slice A2 tl c2) := by rw [cell_of_row _ _ _ _ _ _ HC.out.blk]; rfl
        have z2b : (wr.alloc (.cells #[] 5)).cell? ⟨p, 2, none⟩ = some (.slice A2 tl c2) := ((((Below.refl _ _).alloc (Nat.le_refl _) _)).cell (Array.getElem?_eq_some_iff.1 HC.out.blk).1).trans z2
        clear hs hm hvl hl1 htl
        have hba : Below wr.heap.size wr (wr.drew.alloc (.cells #[] 5)) := (Below.refl _ _).drew.alloc (Nat.le_refl _) _
        have HO5 : Hid (OwnB (wr.drew.alloc (.cells #[] 5)) wr.heap.size (.slice (some ⟨wr.heap.size, 0, none⟩) 0 0) []) := OwnB.lit wr.drew wr.heap.size (Nat.le_refl _) [] [] rfl 0 rfl (by decide)
        have HB5 := Lib.hid hba
        have HBy : Hid (Bytes (wr.drew.alloc (.cells #[] 5)) Ai (atL vs t)) := HS.out.2.1.below hba
        clear hba
        have hBs : B ≤ wr.heap.size := by rw [← hBe]; exact HC.out.be.size
        go_wp2_with fail
        go_region_law (first | (refine step_of (by rfl) (wp_append_bytesO _ _ (by rfl) wr.heap.size (.slice (some ⟨wr.heap.size, 0, none⟩) 0 0) [] (by rfl) HO5.out Ai m ci (atL vs t) (by rfl) HM.out.symm HS.out.2.2.2.2 HBy.out (by have := HVl2.out; rw [HM.out]; simp only [List.length_nil]; omega) HB5.out.size ?_); intro v5 w5 H5; obtain ⟨A5, c5, hv5⟩ := H5.out.1.slice'; rw [List.nil_append, HM.out] at hv5; subst hv5; have HC5 := Lib.hid (CopL.cell HC.out HO5.out HB5.out H5.out HM.out hBs); have z5 := HC5.out.1; have z5a := HC5.out.2.1) | (refine step_of (by rfl) (wp_append_rowO _ _ (by rfl) B (.slice A2 tl c2) (vs.take t) (by rfl) HC5.out.2.2.1 ⟨w5.heap.size, 0, none⟩ 1 A5 m c5 (atL vs t) (by rfl) (by rw [Addr.add_lit, cell_of_row _ _ _ _ _ _ (heap_alloc_new w5 _)]; rfl) HC5.out.2.2.2.1 HTl.out HC5.out.2.2.2.2.1 ?_); intro v9 w9 H9; obtain ⟨A9, c9, hv9, _, _, _, _⟩ := H9.out.1.slice; obtain ⟨l9, hl9⟩ : ∃ l9, (vs.take t ++ [atL vs t]).length = l9 := ⟨_, rfl⟩; rw [hl9] at hv9; subst hv9; clear hl9; have HC9 := Lib.hid (CopL.put HC5.out.2.2.2.2.2 H9.out HT.out); have z9 := HC9.out.1; have f9 := HC9.out.2.1))
        all_goals
          have HF := HC9.out.2.2 HC5.out.2.2.2.2.1 HP.out
          have HFh := Lib.hid HF
          clear HF z9 f9 z5 z5a z2 z2b
          go_wp2_with fail
          exact ⟨⟨t + 1, by omega, by simp, _, HFh.out⟩, by simp [intOf]; omega⟩
      · obtain ⟨kB, kd, hk1, hk2, hk3, hk4, hk5, hk6⟩ := HC.out.k.sl
        obtain ⟨iB, id, hi1, hi2, hi3, hi4, hi5, hi6⟩ := HC.out.i.sl
        obtain ⟨vB, vd, hv1, hv2, hv3, hv4, hv5⟩ := HC.out.v.slice
        rw [List.take_of_length_le (by rw [HV.out]; omega)] at hv1 hv2
        rw [strs_length, HK.out] at hk1
        rw [ints_length, HI.out] at hi1
        rw [HV.out] at hv1
        subst hk1 hi1 hv1
        have hq := (HC.out.be.block (r + 1) hrB).trans HR2.out
        obtain ⟨q0, q1, q2, q3⟩ := row4_cells hq
        obtain ⟨q4, q5, q6, q7⟩ := row4_frozen hq
        obtain ⟨p0, p1, p2, p3⟩ := row4_cells HC.out.blk
        have HQ := Lib.hid hq
        clear hk2 hk3 hk4 hk5 hk6 hi2 hi3 hi4 hi5 hi6 hv2 hv3 hv4 hv5 hq
        go_wp2_with fail
        obtain ⟨g1, g2⟩ := row4_put HQ.out (.bool lf) (.slice kB nk kd) (.slice vB nv vd) (.slice iB ni id)
        refine bodyPost_ret_by (results_cell1 rfl _ rfl (run_retNode g1)) rfl ?_
        exact ⟨kB, kd, vB, vd, iB, id, rfl, HC.out.done (by rw [HV.out]; omega) HK.out HV.out HI.out HQ.out g2, (HB0.out.trans (HC.out.be.mono hsz.out)).trans (g2.below (Nat.le_trans hsz.out (by rw [← hBe]; exact HC.out.be.size)) (fun j hj e => by have e' : j = r + 1 := e; omega))⟩
end Go.Proofs.YtibmlgkakeakcaaDoor
/- The walk of great: which nodes the laws leave out. -/
set_option linter.unusedSimpArgs false
set_option linter.unusedVariables false
namespace Go.Proofs.YtibmlgkakeakcaaDoor
open Go.RowKit Go.Proofs.YtibmlgkakeakcaaDoor.Crc
/-- A node that the laws ask of. -/
structure Small (n : NodeM) : Prop where
  k : n.keys.length ≤ 200
  v : n.vals.length ≤ 200
  i : n.kids.length ≤ 200
  kl : ∀ k, k < n.keys.length → (atL n.keys k).length ≤ 200
  vl : ∀ k, k < n.vals.length → (atL n.vals k).length ≤ 200
open Classical in
noncomputable def greatB (n : NodeM) : Bool := !decide (Small n)
open Classical in
theorem greatB_true {n : NodeM} (h : ¬ Small n) : greatB n = true := by unfold greatB; simp [h]
open Classical in
theorem greatB_false {n : NodeM} (h : Small n) : greatB n = false := by unfold greatB; simp [h]
open Classical in
theorem greatB_small {n : NodeM} (h : greatB n = false) : Small n := by unfold greatB at h; simpa using h
theorem node_box1 (w : World) (a b c d : Value) (T : TypeId) :
    Below w.heap.size w (w.alloc (.cells #[a, b, c, d] T)) ∧ (w.alloc (.cells #[a, b, c, d] T)).heap[w.heap.size]? = some (.cells #[a, b, c, d] T (0, 0)) :=
  ⟨(Below.refl w.heap.size w).alloc (Nat.le_refl _) _, heap_alloc_new w _⟩
set_option maxRecDepth 10000 in
set_option maxHeartbeats 2000000 in
theorem great_calls {w : World} {n : NodeM} {kA : Option Addr} {kc : Nat} {vA : Option Addr} {vc : Nat} {iA : Option Addr} {ic : Nat} (h : NodeAt w n kA kc vA vc iA ic) :
    Calls Tryd.prog 8 #[.agg #[.bool n.leaf, .slice kA n.keys.length kc, .slice vA n.vals.length vc, .slice iA n.kids.length ic]] w fun e w' => e = .returned (.bool (greatB n)) ∧ Hid (Below w.heap.size w w') := by
  obtain ⟨lf, ks, vs, is⟩ := n
  obtain ⟨hb1, hr1⟩ := node_box1 w (.bool lf) (.slice kA ks.length kc) (.slice vA vs.length vc) (.slice iA is.length ic) 26
  obtain ⟨w1, hw1⟩ : ∃ w1, w.alloc (.cells #[.bool lf, .slice kA ks.length kc, .slice vA vs.length vc, .slice iA is.length ic] 26) = w1 := ⟨_, rfl⟩
  rw [hw1] at hb1 hr1
  have hx := box_cells hr1
  have H := Lib.hid (h.below hb1)
  have HB0 : Hid (Below w.heap.size w w1) := hb1
  have hsz : Hid (w.heap.size ≤ w1.heap.size) := hb1.size
  have HBw : Hid (∀ w', Hid (Below w1.heap.size w1 w') → Hid (Below w.heap.size w w')) := fun w' hb => HB0.out.trans (hb.out.mono hsz.out)
  obtain ⟨r, hr0⟩ : ∃ r, w.heap.size = r := ⟨_, rfl⟩
  rw [hr0] at hx
  have HX := Lib.hid hx
  clear hb1 hr1 hx h
  obtain ⟨x0, x1, x2, x3⟩ := HX.out w1 (Below.refl _ _)
  obtain ⟨nk, hnk⟩ : ∃ k, ks.length = k := ⟨_, rfl⟩
  obtain ⟨nv, hnv⟩ : ∃ k, vs.length = k := ⟨_, rfl⟩
  obtain ⟨ni, hni⟩ : ∃ k, is.length = k := ⟨_, rfl⟩
  have HK := Lib.hid hnk
  have HV := Lib.hid hnv
  have HI := Lib.hid hni
  simp only at hw1 ⊢
  simp only [hnk, hnv, hni] at hw1 HX x1 x2 x3
  rw [hnk, hnv, hni]
  clear hnk hnv hni
  by_cases e1 : 200 < nk
  · have HE : Hid (greatB ⟨lf, ks, vs, is⟩ = true) := greatB_true fun h => by have := h.k; have := HK.out; simp only at *; omega
    have HB1 := HBw.out w1 (Below.refl _ _)
    have f1 : (200 : Int) < (nk : Int) := by omega
    clear e1
    go_enter Tryd.func8, Tryd.ntmps8
    go_wp2_with fail
    go_ret
    exact ⟨by rw [HE.out]; rfl, by first | exact HB1 | (rw [← hr0]; exact HB1)⟩
  have f1 : (nk : Int) ≤ (200 : Int) := by omega
  by_cases e2 : 200 < nv
  · have HE : Hid (greatB ⟨lf, ks, vs, is⟩ = true) := greatB_true fun h => by have := h.v; have := HV.out; simp only at *; omega
    have HB1 := HBw.out w1 (Below.refl _ _)
    have f2 : (200 : Int) < (nv : Int) := by omega
    clear e1 e2
    go_enter Tryd.func8, Tryd.ntmps8
    go_wp2_with fail
    go_ret
    exact ⟨by rw [HE.out]; rfl, by first | exact HB1 | (rw [← hr0]; exact HB1)⟩
  have f2 : (nv : Int) ≤ (200 : Int) := by omega
  by_cases e3 : 200 < ni
  · have HE : Hid (greatB ⟨lf, ks, vs, is⟩ = true) := greatB_true fun h => by have := h.i; have := HI.out; simp only at *; omega
    have HB1 := HBw.out w1 (Below.refl _ _)
    have f3 : (200 : Int) < (ni : Int) := by omega
    clear e1 e2 e3
    go_enter Tryd.func8, Tryd.ntmps8
    go_wp2_with fail
    go_ret
    exact ⟨by rw [HE.out]; rfl, by first | exact HB1 | (rw [← hr0]; exact HB1)⟩
  have f3 : (ni : Int) ≤ (200 : Int) := by omega
  have hk64 : nk ≤ 9223372036854775807 := by omega
  have hv64 : nv ≤ 9223372036854775807 := by omega
  have HL : Hid (nk ≤ 200 ∧ nv ≤ 200 ∧ ni ≤ 200) := by show _ ∧ _; omega
  clear e1 e2 e3
  go_enter Tryd.func8, Tryd.ntmps8
  go_wp2_with fail
  clear hw1 x0 x1 x2 x3 f1 f2 f3
  go_loopw [26] (fun i wr => ∃ t : Nat, t ≤ nk ∧ i = .int .i64 (t : Int) ∧ Hid (∀ k, k < t → (atL ks k).length ≤ 200) ∧ Hid (Below w1.heap.size w1 wr)) (fun i _ => nk - (intOf i).toNat)
  case atStart => exact ⟨0, Nat.zero_le _, rfl, fun k hk => absurd hk (Nat.not_lt_zero _), Below.refl _ _⟩
  case round =>
    obtain ⟨t, ht, rfl, HE, HB⟩ := hrel
    obtain ⟨x0, x1, x2, x3⟩ := HX.out wr HB.out
    by_cases hlt : t < nk
    · have hlt' : t < ks.length := by rw [HK.out]; exact hlt
      obtain ⟨b, o, hA, _⟩ := H.out.k.spot (by rw [strs_length]; exact Nat.lt_of_le_of_lt (Nat.zero_le t) hlt')
      subst hA
      have hc := (H.out.below HB.out).k.strAt t hlt'
      unfold strV at hc
      simp only at hc
      obtain ⟨s, hs⟩ : ∃ s, bstr (atL ks t) = s := ⟨_, rfl⟩
      rw [hs] at hc
      have hsz : s.size = (atL ks t).length := by rw [← hs, bstr_size]
      have HSz := Lib.hid hsz
      clear hs hsz
      by_cases h2 : 200 < s.size
      · have HF : Hid (greatB ⟨lf, ks, vs, is⟩ = true) := greatB_true fun h => by have := h.kl t hlt'; have := HSz.out; simp only at *; omega
        have f1 : (200 : Int) < (s.size : Int) := by omega
        clear h2 hlt'
        go_wp2_with fail
        go_ret
        exact ⟨by rw [HF.out]; rfl, by first | exact HBw.out _ HB.out | (rw [← hr0]; exact HBw.out _ HB.out)⟩
      · have f1 : (s.size : Int) ≤ (200 : Int) := by omega
        have HN : Hid (∀ k, k < t + 1 → (atL ks k).length ≤ 200) := fun k hk => by
          by_cases hkt : k < t
          · exact HE.out k hkt
          · obtain rfl : k = t := by omega
            rw [← HSz.out]; omega
        clear h2 hlt' HE
        go_wp2_with fail
        go_roundw
        case rel => exact ⟨t + 1, Nat.succ_le_of_lt hlt, congrArg (Value.int .i64) (Int.natCast_succ t).symm, HN, HB.out⟩
        case measure => simp [intOf]; omega
    · obtain rfl : nk = t := by omega
      clear hlt
      have HEk := HE
      clear HE
      go_wp2_with fail
      clear x0 x1 x2 x3
      go_loopw [37] (fun i wr => ∃ t : Nat, t ≤ nv ∧ i = .int .i64 (t : Int) ∧ Hid (∀ k, k < t → (atL vs k).length ≤ 200) ∧ Hid (Below w1.heap.size w1 wr)) (fun i _ => nv - (intOf i).toNat)
      case atStart => exact ⟨0, Nat.zero_le _, rfl, fun k hk => absurd hk (Nat.not_lt_zero _), HB⟩
      case round =>
        obtain ⟨t, ht, rfl, HE, HB⟩ := hrel
        obtain ⟨x0, x1, x2, x3⟩ := HX.out wr HB.out
        by_cases hlt : t < nv
        · have hl1 : t < vs.length := by rw [HV.out]; exact hlt
          obtain ⟨b, o, hA⟩ := H.out.v.spot (Nat.lt_of_le_of_lt (Nat.zero_le t) hl1)
          subst hA
          obtain ⟨Ai, ci, hc, hs⟩ := (H.out.below HB.out).v.at t hl1
          try simp only at hc hs
          rw [← atL_eq vs t hl1] at hc hs
          obtain ⟨p, hp⟩ : ∃ p, (atL vs t).length = p := ⟨_, rfl⟩
          rw [hp] at hc
          have HPl := Lib.hid hp
          clear hs hp
          by_cases h2 : 200 < p
          · have HF : Hid (greatB ⟨lf, ks, vs, is⟩ = true) := greatB_true fun h => by have := h.vl t hl1; have := HPl.out; simp only at *; omega
            have f1 : (200 : Int) < (p : Int) := by omega
            clear h2 hl1
            go_wp2_with fail
            go_ret
            exact ⟨by rw [HF.out]; rfl, by first | exact HBw.out _ HB.out | (rw [← hr0]; exact HBw.out _ HB.out)⟩
          · have f1 : (p : Int) ≤ (200 : Int) := by omega
            have HN : Hid (∀ k, k < t + 1 → (atL vs k).length ≤ 200) := fun k hk => by
              by_cases hkt : k < t
              · exact HE.out k hkt
              · obtain rfl : k = t := by omega
                rw [HPl.out]; omega
            clear h2 hl1 HE
            go_wp2_with fail
            go_roundw
            case rel => exact ⟨t + 1, Nat.succ_le_of_lt hlt, congrArg (Value.int .i64) (Int.natCast_succ t).symm, HN, HB.out⟩
            case measure => simp [intOf]; omega
        · obtain rfl : nv = t := by omega
          have HF : Hid (greatB ⟨lf, ks, vs, is⟩ = false) := greatB_false ⟨by rw [HK.out]; exact HL.out.1, by rw [HV.out]; exact HL.out.2.1, by rw [HI.out]; exact HL.out.2.2, fun k hk => HEk.out k (by rw [← HK.out]; exact hk), fun k hk => HE.out k (by rw [← HV.out]; exact hk)⟩
          clear HE hlt
          go_wp2_with fail
          go_ret
          exact ⟨by rw [HF.out]; rfl, by first | exact HBw.out _ HB.out | (rw [← hr0]; exact HBw.out _ HB.out)⟩
end Go.Proofs.YtibmlgkakeakcaaDoor
/- A node under the reader: what stands; a call as an operation alone. -/
set_option linter.unusedSimpArgs false
set_option linter.unusedVariables false
namespace Go.Proofs.YtibmlgkakeakcaaDoor
open Go.RowKit Go.Proofs.YtibmlgkakeakcaaDoor.Crc
/-- A call of a function, by its contract, as an operation alone. -/
theorem wp_goCall {o : Oper} {a : Act} {w : World} {K : Act → World → Prop} {Q : Exit → Act → World → Prop} (f : FuncId) (xs : Array Operand) (ats : Array TypeId) (ho : o.op = .call { callee := .value (.func f), args := xs, argTypes := ats })
    {fn : Func} (hf : Tryd.prog.funcs[f]? = some fn) (hn : (fn.name == "runtime.NumGoroutine") = false) (hb : fn.body.isSome = true) (vs : Array Value) (hv : xs.map a.eval = vs) {R : Ending → World → Prop} (h : Calls Tryd.prog f vs w R)
    (hk : ∀ e w', R e w' → ∃ v, e = .returned v ∧ K (a.put o.dst v) w') : o.wp Tryd.prog a w K Q := by
  have he : execOp a.eval o = callFunc f (#[] ++ xs.map a.eval ++ #[]) := by
    obtain ⟨dst, op, ty, pos, after, guard⟩ := o
    simp only at ho
    subst ho
    rfl
  have hr : (execOp a.eval o).run Tryd.prog w = .ok (.enter f vs) w := by
    rw [he, hv]
    have hn' : ¬ fn.name = "runtime.NumGoroutine" := by simpa using hn
    obtain ⟨c, hb'⟩ := Option.isSome_iff_exists.1 hb
    simp [callFunc, hf, hn', hb']
  unfold Oper.wp
  rw [hr, Oper.upon_enter]
  refine h.mono ?_
  intro e w' hR
  obtain ⟨v, rfl, hK⟩ := hk e w' hR
  exact hK
/-- A row of bytes of one's own, whatever of it is frozen. -/
def RowF (B : Nat) (w : World) (u : Value) (l : List UInt8) : Prop :=
  ∃ g c cur fz, u = .slice (some ⟨g, 0, none⟩) l.length c ∧ B ≤ g ∧ w.heap[g]? = some (.cells cur 5 fz) ∧ Bytes w (some ⟨g, 0, none⟩) l ∧ l.length ≤ c ∧ c ≤ 9223372036854775807
theorem RowF.kept {B : Nat} {S : Nat → Prop} {w w' : World} {u : Value} {l : List UInt8} (h : RowF B w u l) (hk : Kept S w w') (hs : ∀ k cur fz, S k → w.heap[k]? = some (.cells cur 5 fz) → False) : RowF B w' u l := by
  obtain ⟨g, c, cur, fz, h1, h2, h3, h4, h5, h6⟩ := h
  have hlt : g < w.heap.size := (Array.getElem?_eq_some_iff.1 h3).1
  exact ⟨g, c, cur, fz, h1, h2, (hk.block g hlt (fun hS => hs g cur fz hS h3)).trans h3, h4.kept hk (fun ad hA hS => by cases hA; exact hs g cur fz hS h3), h5, h6⟩
theorem bytesWorld_row (w : World) (B : Nat) (hB : B ≤ w.heap.size) (l : List UInt8) (hl : l.length ≤ 1000) : RowF B (Lib.bytesWorld w 5 (bstr l)) (.slice (some ⟨w.heap.size, 0, none⟩) l.length (grownCap w l.length 0 5)) l :=
  ⟨_, _, _, _, rfl, hB, Lib.bytesWorld_at_new w _ _, bytesWorld_bytes w l, grownCap_ge _ _ _ _, Nat.le_trans (grownCap_le_maxLen w l.length 0 _ (by unfold maxLen; omega)) (by unfold maxLen; omega)⟩
/-- '[]byte(s)', as an operation alone. -/
theorem wp_bytes_ofO {w : World} {o : Oper} {a : Act} {K : Act → World → Prop} {Q : Exit → Act → World → Prop} (x : Operand) (ho : o.op = .convert 9 30 x) (B : Nat)
    (l : List UInt8) (y : ByteArray) (hy : y = bstr l) (hx : a.eval x = .string y) (hl : l.length ≤ 1000) (hB : B ≤ w.heap.size)
    (h : ∀ u w', Hid (RowF B w' u l ∧ Below w.heap.size w w') → K (a.put o.dst u) w') : o.wp Tryd.prog a w K Q := by
  subst hy
  unfold Oper.wp execOp
  simp only [ho, hx, run_bytes_of w (bstr l), bstr_size, Sem.run_bind, Result.andThen_ok, Sem.run_pure]
  exact h _ _ ⟨bytesWorld_row w B hB l hl, bytesWorld_below w _⟩
/-- Rows of one's own, in a list of one's own. -/
def OwnRF (w : World) (B : Nat) (v : Value) (ls : List (List UInt8)) : Prop := ∃ us, OwnVs w B 30 v us ∧ us.length = ls.length ∧ ∀ k (h : k < us.length), RowF B w us[k] (atL ls k)
theorem OwnRF.nil (w : World) (B : Nat) : OwnRF w B (.slice none 0 0) [] := ⟨[], World.ownsRow_nil _ _ _ _, rfl, fun k h => absurd h (Nat.not_lt_zero _)⟩
theorem OwnVs.keptT {S : Nat → Prop} {w w' : World} {B : Nat} {t : TypeId} {v : Value} {vs : List Value} (h : OwnVs w B t v vs) (hk : Kept S w w') (hs : ∀ k cs, S k → w.heap[k]? = some (.cells cs t (0, 0)) → False) : OwnVs w' B t v vs :=
  h.kept hk (fun k hv hS => by obtain ⟨cur, hc⟩ := ownsRow_block h hv; exact hs k cur hS hc)
theorem OwnRF.kept {S : Nat → Prop} {w w' : World} {B : Nat} {v : Value} {ls : List (List UInt8)} (h : OwnRF w B v ls) (hk : Kept S w w') (hs : ∀ k cs, S k → w.heap[k]? = some (.cells cs 30 (0, 0)) → False) (hs8 : ∀ k cs fz, S k → w.heap[k]? = some (.cells cs 5 fz) → False) : OwnRF w' B v ls := by
  obtain ⟨us, h1, h2, h3⟩ := h
  exact ⟨us, h1.keptT hk hs, h2, fun k hk' => (h3 k hk').kept hk hs8⟩
theorem OwnRF.rows {w : World} {B n c : Nat} {A : Option Addr} {ls : List (List UInt8)} (h : OwnRF w B (.slice A n c) ls) : RowsB w A ls ∧ n = ls.length ∧ n ≤ c ∧ c ≤ 9223372036854775807 ∧ (A = none → c = 0) := by
  obtain ⟨us, h1, h2, h3⟩ := h
  obtain ⟨A', c', e, h4, h5, h6, h7, h8⟩ := h1.sl
  obtain ⟨rfl, rfl, rfl⟩ : A = A' ∧ n = us.length ∧ c = c' := by simpa using e
  refine ⟨fun i hi => ?_, h2, h6, h7, h4⟩
  obtain ⟨ad, hA, hc⟩ := h5 i (by omega)
  obtain ⟨g, ci, cur, fz, r1, r2, r3, r4, r5, r6⟩ := h3 i (by omega)
  rw [atL_eq ls i hi] at r1 r4 r5
  refine ⟨ad, some ⟨g, 0, none⟩, ci, hA, by rw [hc, r1], rfl, r4, r5, Nat.le_trans r5 r6, fun h => by cases h⟩
theorem Kept.then' {S T : Nat → Prop} {a b c : World} (h : Kept S a b) (k : Kept T b c) (hs : ∀ k, k < a.heap.size → T k → S k) : Kept S a c :=
  ⟨k.os.trans h.os, k.tape.trans h.tape, k.output.trans h.output, Nat.le_trans h.size k.size, fun i hi hS => (k.block i (Nat.lt_of_lt_of_le hi h.size) (fun hT => hS (hs i hi hT))).trans (h.block i hi hS)⟩
theorem PaL.size' {a w : World} {S : Nat → Prop} {B : Nat} (h : Kept S a w) (e : a.heap.size = B) : B ≤ w.heap.size := by rw [← e]; exact h.size
/-- A node under the reader. -/
structure PaL (B p : Nat) (w1 : World) (lf : Bool) (ks vs : List (List UInt8)) (is : List Int) (x1 x2 x3 : Value) (w : World) : Prop where
  blk : w.heap[p]? = some (.cells #[.bool lf, x1, x2, x3] 28 (0, 0))
  k : OwnVs w B 9 x1 (strs ks)
  v : OwnRF w B x2 vs
  i : OwnVs w B 3 x3 (ints is)
  be : Kept (· = p) w1 w
  wl : w1.heap.size = B
/-- Blocks of another type than the node's turn. -/
theorem PaL.keptS {S : Nat → Prop} {B p : Nat} {w1 : World} {lf : Bool} {ks vs : List (List UInt8)} {is : List Int} {x1 x2 x3 : Value} {w w' : World} (h : PaL B p w1 lf ks vs is x1 x2 x3 w) (hk : Kept S w w') (hb : ∀ k, S k → B ≤ k)
    (hs : ∀ k cs t fz, S k → w.heap[k]? = some (.cells cs t fz) → t ≠ 28 ∧ t ≠ 9 ∧ t ≠ 30 ∧ t ≠ 5 ∧ t ≠ 3) : PaL B p w1 lf ks vs is x1 x2 x3 w' :=
  ⟨(hk.block p (Array.getElem?_eq_some_iff.1 h.blk).1 (fun hS => (hs _ _ _ _ hS h.blk).1 rfl)).trans h.blk, h.k.keptT hk (fun k cs hS hc => (hs _ _ _ _ hS hc).2.1 rfl), h.v.kept hk (fun k cs hS hc => (hs _ _ _ _ hS hc).2.2.1 rfl) (fun k cs fz hS hc => (hs _ _ _ _ hS hc).2.2.2.1 rfl),
   h.i.keptT hk (fun k cs hS hc => (hs _ _ _ _ hS hc).2.2.2.2 rfl), h.be.then' hk (fun k hlt hS => by have := hb k hS; have := h.wl; omega), h.wl⟩
theorem PaL.keptR {B p r : Nat} {w1 : World} {lf : Bool} {ks vs : List (List UInt8)} {is : List Int} {x1 x2 x3 : Value} {w w' : World} {cs : Array Value} (h : PaL B p w1 lf ks vs is x1 x2 x3 w) (hk : Kept (· = r) w w') (hr : B ≤ r)
    (hc : w.heap[r]? = some (.cells cs 108 (0, 0))) : PaL B p w1 lf ks vs is x1 x2 x3 w' :=
  h.keptS hk (fun k e => by rw [show k = r from e]; exact hr) (fun k cs' t fz e hc' => by
    rw [show k = r from e, hc] at hc'; injection hc' with hc'; injection hc' with _ ht _; subst ht; decide)
theorem PaL.below {B p : Nat} {w1 : World} {lf : Bool} {ks vs : List (List UInt8)} {is : List Int} {x1 x2 x3 : Value} {w w' : World} (h : PaL B p w1 lf ks vs is x1 x2 x3 w) (hb : Below w.heap.size w w') : PaL B p w1 lf ks vs is x1 x2 x3 w' := by
  have hk : Kept (fun _ => False) w w' := Kept.of_below hb
  exact h.keptS hk (fun k hk => hk.elim) (fun k cs t fz hS hc => hS.elim)
end Go.Proofs.YtibmlgkakeakcaaDoor
/- A node under the reader: each list grows. -/
set_option linter.unusedSimpArgs false
set_option linter.unusedVariables false
namespace Go.Proofs.YtibmlgkakeakcaaDoor
open Go.RowKit Go.Proofs.YtibmlgkakeakcaaDoor.Crc
theorem PaL.grown {B p : Nat} {w1 : World} {lf : Bool} {ks vs : List (List UInt8)} {is : List Int} {x1 x2 x3 : Value} {w w9 : World} (h : PaL B p w1 lf ks vs is x1 x2 x3 w) {t : TypeId} {x : Value} {us : List Value} (hx : OwnVs w B t x us) (hg : w.grownBy w9 x.ownBlock) (ht : t ≠ 28 ∧ t ≠ 108) :
    w9.heap[p]? = some (.cells #[.bool lf, x1, x2, x3] 28 (0, 0)) ∧ Kept (· = p) w1 w9 ∧ Kept (fun k => x.ownBlock = some k) w w9 ∧ (∀ k, x.ownBlock = some k → B ≤ k ∧ ∃ cur, w.heap[k]? = some (.cells cur t (0, 0))) ∧
      ∀ (D : Nat → Prop), (∀ k, D k → k < B ∧ k ≠ p) → ∀ r cs l, w.heap[r]? = some (.cells cs 108 (0, 0)) → RdLB D w r l → RdLB D w9 r l := by
  have hk : Kept (fun k => x.ownBlock = some k) w w9 := Kept.of_grown hg (fun k hk => hk)
  have hb : ∀ k, x.ownBlock = some k → B ≤ k ∧ ∃ cur, w.heap[k]? = some (.cells cur t (0, 0)) := fun k hk => ⟨(World.ownsRow.lt hx k hk).1, ownsRow_block hx hk⟩
  refine ⟨(hk.block p (Array.getElem?_eq_some_iff.1 h.blk).1 (fun hS => ?_)).trans h.blk, h.be.then' hk (fun k hlt hS => by have := (hb k hS).1; have := h.wl; omega), hk, hb, fun D hD r cs l hc hr => RdLB.kept hr hk (fun k hlt hS => ⟨fun e => ?_, .inl (fun hd => by have := (hb k hS).1; have := (hD k hd).1; omega)⟩)⟩
  · obtain ⟨cur, hc⟩ := (hb p hS).2
    rw [h.blk] at hc; injection hc with hc; injection hc with _ h4 _; exact ht.1 h4.symm
  · obtain ⟨cur, hc'⟩ := (hb k hS).2
    rw [e, hc] at hc'; injection hc' with hc'; injection hc' with _ h4 _; exact ht.2 h4.symm
theorem RdLB.set {D : Nat → Prop} {p r i : Nat} {w : World} {l : List UInt8} {cs cs' : Array Value} (h : RdLB D w r l) (hD : ¬ D p) (hp : w.heap[p]? = some (.cells cs 28 (0, 0))) (hr : w.heap[r]? = some (.cells cs' 108 (0, 0))) (v : Value) : RdLB D (w.setCell ⟨p, i, none⟩ v) r l :=
  RdLB.kept h (Kept.set1 w p i v) (fun k hlt e => ⟨fun e2 => by
    rw [show k = p from e] at e2; rw [e2, hr] at hp; injection hp with hp; injection hp with _ h4 _; exact absurd h4 (by decide), .inl (by rw [show k = p from e]; exact hD)⟩)
theorem RdLB.blk {D : Nat → Prop} {r : Nat} {w : World} {l : List UInt8} (h : RdLB D w r l) : ∃ cs, w.heap[r]? = some (.cells cs 108 (0, 0)) := by
  obtain ⟨A, c, h1, _⟩ := h; exact ⟨_, h1⟩
theorem strs_snoc (ks : List (List UInt8)) (k : List UInt8) : strs (ks ++ [k]) = strs ks ++ [strV k] := by unfold strs; simp
theorem ints_snoc (ks : List Int) (k : Int) : ints (ks ++ [k]) = ints ks ++ [intV k] := by unfold ints; simp
theorem PaL.put1 {B p : Nat} {w1 : World} {lf : Bool} {ks vs : List (List UInt8)} {is : List Int} {x1 x2 x3 v9 : Value} {w w9 : World} (h : PaL B p w1 lf ks vs is x1 x2 x3 w) {k : List UInt8} (hg : OwnVs w9 B 9 v9 (strs ks ++ [strV k]) ∧ w.grownBy w9 x1.ownBlock) {D : Nat → Prop} (hD : ∀ k, D k → k < B ∧ k ≠ p) :
    w9.cell? ⟨p, 1, none⟩ = some x1 ∧ w9.frozen? ⟨p, 1, none⟩ = false ∧ PaL B p w1 lf (ks ++ [k]) vs is v9 x2 x3 (w9.setCell ⟨p, 1, none⟩ v9) ∧ ∀ r l, RdLB D w r l → RdLB D (w9.setCell ⟨p, 1, none⟩ v9) r l := by
  obtain ⟨g1, g2, g3, g4, g5⟩ := h.grown h.k hg.2 (by decide)
  have hs : Kept (· = p) w9 (w9.setCell ⟨p, 1, none⟩ v9) := Kept.set1 w9 p 1 v9
  refine ⟨by rw [cell_of_row _ _ _ _ _ _ g1]; rfl, frozen_of_row _ _ _ _ _ g1, ⟨by simp [World.setCell, Array.getElem?_modify, g1], by rw [strs_snoc]; exact hg.1.keptT hs (fun k cs e hc => by rw [show k = p from e, g1] at hc; injection hc with hc; injection hc with _ h4 _; exact absurd h4 (by decide)), (h.v.kept g3 (fun k cs hS hc => by obtain ⟨cur, hc2⟩ := (g4 k hS).2; rw [hc] at hc2; injection hc2 with hc2; injection hc2 with _ h4 _; exact absurd h4 (by decide)) (fun k cs fz hS hc => by obtain ⟨cur, hc2⟩ := (g4 k hS).2; rw [hc] at hc2; injection hc2 with hc2; injection hc2 with _ h4 _; exact absurd h4 (by decide))).kept hs (fun k cs e hc => by rw [show k = p from e, g1] at hc; injection hc with hc; injection hc with _ h4 _; exact absurd h4 (by decide)) (fun k cs fz e hc => by rw [show k = p from e, g1] at hc; injection hc with hc; injection hc with _ h4 _; exact absurd h4 (by decide)), (h.i.keptT g3 (fun k cs hS hc => by obtain ⟨cur, hc2⟩ := (g4 k hS).2; rw [hc] at hc2; injection hc2 with hc2; injection hc2 with _ h4 _; exact absurd h4 (by decide))).keptT hs (fun k cs e hc => by rw [show k = p from e, g1] at hc; injection hc with hc; injection hc with _ h4 _; exact absurd h4 (by decide)), g2.trans hs, h.wl⟩, fun r l hr => ?_⟩
  · obtain ⟨cs, hc⟩ := hr.blk
    have h9 := g5 D hD r cs l hc hr
    obtain ⟨cs', hc'⟩ := h9.blk
    exact h9.set (fun hd => (hD p hd).2 rfl) g1 hc' v9
theorem PaL.put2 {B p : Nat} {w1 : World} {lf : Bool} {ks vs : List (List UInt8)} {is : List Int} {x1 x2 x3 v9 : Value} {w w9 : World} (h : PaL B p w1 lf ks vs is x1 x2 x3 w) {u : Value} {v : List UInt8} {us : List Value} (hus : OwnVs w B 30 x2 us) (hul : us.length = vs.length) (hur : ∀ k (h : k < us.length), RowF B w us[k] (atL vs k)) (hu : RowF B w u v) (hg : OwnVs w9 B 30 v9 (us ++ [u]) ∧ w.grownBy w9 x2.ownBlock) {D : Nat → Prop} (hD : ∀ k, D k → k < B ∧ k ≠ p) :
    w9.cell? ⟨p, 2, none⟩ = some x2 ∧ w9.frozen? ⟨p, 2, none⟩ = false ∧ PaL B p w1 lf ks (vs ++ [v]) is x1 v9 x3 (w9.setCell ⟨p, 2, none⟩ v9) ∧ ∀ r l, RdLB D w r l → RdLB D (w9.setCell ⟨p, 2, none⟩ v9) r l := by
  obtain ⟨g1, g2, g3, g4, g5⟩ := h.grown hus hg.2 (by decide)
  have hs : Kept (· = p) w9 (w9.setCell ⟨p, 2, none⟩ v9) := Kept.set1 w9 p 2 v9
  refine ⟨by rw [cell_of_row _ _ _ _ _ _ g1]; rfl, frozen_of_row _ _ _ _ _ g1, ⟨by simp [World.setCell, Array.getElem?_modify, g1], (h.k.keptT g3 (fun k cs hS hc => by obtain ⟨cur, hc2⟩ := (g4 k hS).2; rw [hc] at hc2; injection hc2 with hc2; injection hc2 with _ h4 _; exact absurd h4 (by decide))).keptT hs (fun k cs e hc => by rw [show k = p from e, g1] at hc; injection hc with hc; injection hc with _ h4 _; exact absurd h4 (by decide)), ⟨us ++ [u], hg.1.keptT hs (fun k cs e hc => by rw [show k = p from e, g1] at hc; injection hc with hc; injection hc with _ h4 _; exact absurd h4 (by decide)), by simp [hul], fun k hk => ?_⟩, (h.i.keptT g3 (fun k cs hS hc => by obtain ⟨cur, hc2⟩ := (g4 k hS).2; rw [hc] at hc2; injection hc2 with hc2; injection hc2 with _ h4 _; exact absurd h4 (by decide))).keptT hs (fun k cs e hc => by rw [show k = p from e, g1] at hc; injection hc with hc; injection hc with _ h4 _; exact absurd h4 (by decide)), g2.trans hs, h.wl⟩, fun r l hr => ?_⟩
  · have hr : RowF B w (us ++ [u])[k] (atL (vs ++ [v]) k) := by
      by_cases hlt : k < us.length
      · rw [List.getElem_append_left hlt]
        have := hur k hlt
        unfold atL at this ⊢
        rw [List.getD_eq_getElem?_getD, List.getElem?_append_left (by omega), ← List.getD_eq_getElem?_getD]; exact this
      · have e : k = us.length := by simp at hk; omega
        subst e
        rw [List.getElem_append_right (Nat.le_refl _)]
        simp only [Nat.sub_self, List.getElem_cons_zero]
        unfold atL
        rw [List.getD_eq_getElem?_getD, hul, List.getElem?_append_right (Nat.le_refl _)]
        simpa using hu
    exact (hr.kept g3 (fun k cs fz hS hc => by obtain ⟨cur, hc2⟩ := (g4 k hS).2; rw [hc] at hc2; injection hc2 with hc2; injection hc2 with _ h4 _; exact absurd h4 (by decide))).kept hs (fun k cs fz e hc => by rw [show k = p from e, g1] at hc; injection hc with hc; injection hc with _ h4 _; exact absurd h4 (by decide))
  · obtain ⟨cs, hc⟩ := hr.blk
    have h9 := g5 D hD r cs l hc hr
    obtain ⟨cs', hc'⟩ := h9.blk
    exact h9.set (fun hd => (hD p hd).2 rfl) g1 hc' v9
theorem PaL.put3 {B p : Nat} {w1 : World} {lf : Bool} {ks vs : List (List UInt8)} {is : List Int} {x1 x2 x3 v9 : Value} {w w9 : World} (h : PaL B p w1 lf ks vs is x1 x2 x3 w) {k : Int} (hg : OwnVs w9 B 3 v9 (ints is ++ [intV k]) ∧ w.grownBy w9 x3.ownBlock) {D : Nat → Prop} (hD : ∀ k, D k → k < B ∧ k ≠ p) :
    w9.cell? ⟨p, 3, none⟩ = some x3 ∧ w9.frozen? ⟨p, 3, none⟩ = false ∧ PaL B p w1 lf ks vs (is ++ [k]) x1 x2 v9 (w9.setCell ⟨p, 3, none⟩ v9) ∧ ∀ r l, RdLB D w r l → RdLB D (w9.setCell ⟨p, 3, none⟩ v9) r l := by
  obtain ⟨g1, g2, g3, g4, g5⟩ := h.grown h.i hg.2 (by decide)
  have hs : Kept (· = p) w9 (w9.setCell ⟨p, 3, none⟩ v9) := Kept.set1 w9 p 3 v9
  refine ⟨by rw [cell_of_row _ _ _ _ _ _ g1]; rfl, frozen_of_row _ _ _ _ _ g1, ⟨by simp [World.setCell, Array.getElem?_modify, g1], (h.k.keptT g3 (fun k cs hS hc => by obtain ⟨cur, hc2⟩ := (g4 k hS).2; rw [hc] at hc2; injection hc2 with hc2; injection hc2 with _ h4 _; exact absurd h4 (by decide))).keptT hs (fun k cs e hc => by rw [show k = p from e, g1] at hc; injection hc with hc; injection hc with _ h4 _; exact absurd h4 (by decide)), (h.v.kept g3 (fun k cs hS hc => by obtain ⟨cur, hc2⟩ := (g4 k hS).2; rw [hc] at hc2; injection hc2 with hc2; injection hc2 with _ h4 _; exact absurd h4 (by decide)) (fun k cs fz hS hc => by obtain ⟨cur, hc2⟩ := (g4 k hS).2; rw [hc] at hc2; injection hc2 with hc2; injection hc2 with _ h4 _; exact absurd h4 (by decide))).kept hs (fun k cs e hc => by rw [show k = p from e, g1] at hc; injection hc with hc; injection hc with _ h4 _; exact absurd h4 (by decide)) (fun k cs fz e hc => by rw [show k = p from e, g1] at hc; injection hc with hc; injection hc with _ h4 _; exact absurd h4 (by decide)), by rw [ints_snoc]; exact hg.1.keptT hs (fun k cs e hc => by rw [show k = p from e, g1] at hc; injection hc with hc; injection hc with _ h4 _; exact absurd h4 (by decide)), g2.trans hs, h.wl⟩, fun r l hr => ?_⟩
  · obtain ⟨cs, hc⟩ := hr.blk
    have h9 := g5 D hD r cs l hc hr
    obtain ⟨cs', hc'⟩ := h9.blk
    exact h9.set (fun hd => (hD p hd).2 rfl) g1 hc' v9
end Go.Proofs.YtibmlgkakeakcaaDoor
/- Regions that draw their order and whose last operation writes what an earlier one reads, by hand. -/
set_option linter.unusedSimpArgs false
set_option linter.unusedVariables false
namespace Go.Proofs.YtibmlgkakeakcaaDoor
open Go.RowKit
section
variable {P : Program} {ops : Array Oper} {Q : Exit → Act → World → Prop} {md : Region.Mode} {S : World → Prop}
/-- Whatever order is picked from here on, and S holds behind every operation but number m. -/
def wpAnyM (P : Program) (md : Region.Mode) (ops : Array Oper) (Q : Exit → Act → World → Prop) (S : World → Prop) (m : Nat) : Nat → Array Bool → Act → World → Prop
  | 0, listed, a, w => Region.ready md ops listed = [] ∧ Q .normal a w
  | fuel + 1, listed, a, w =>
    (Region.ready md ops listed = [] → Q .normal a w) ∧
    ∀ i ∈ Region.ready md ops listed, wpOp P ops Q i (fun a' w' => (i = m ∨ S w') ∧ wpAnyM P md ops Q S m fuel (listed.setIfInBounds i true) a' w') a w
theorem wpAny_of_M {m : Nat} : ∀ (fuel : Nat) (listed : Array Bool) (a : Act) (w : World), wpAnyM P md ops Q S m fuel listed a w → wpAny P md ops Q fuel listed a w
  | 0, _, _, _, h => h
  | fuel + 1, _, _, _, h => ⟨h.1, fun i hi => wpOp_mono (fun a' w' h' => wpAny_of_M fuel _ a' w' h'.2) (h.2 i hi)⟩
/-- Operations that wait for i: the list is closed. -/
def waitB (md : Region.Mode) (ops : Array Oper) (i : Nat) (D : List Nat) : Bool :=
  D.all fun j => j == i || match ops[j]? with
    | some oj => oj.after.any fun e => Region.binds md e && D.contains e.on
    | none => false
def unlB (listed : Array Bool) (D : List Nat) : Bool := D.all fun j => !listed.getD j true
theorem unlB_spec {listed : Array Bool} {D : List Nat} (h : unlB listed D = true) (j : Nat) (hj : j ∈ D) : listed.getD j true = false := by
  unfold unlB at h
  rw [List.all_eq_true] at h
  simpa using h j hj
theorem wait_not_ready {listed : Array Bool} {i j : Nat} {D : List Nat} (hD : waitB md ops i D = true) (hu : unlB listed D = true) (hj : j ∈ D) (hji : j ≠ i) : j ∉ Region.ready md ops listed := by
  intro hr
  obtain ⟨_, oj, hoj, hall⟩ := mem_ready.1 hr
  unfold waitB at hD
  rw [List.all_eq_true] at hD
  have h := hD j hj
  simp only [hoj, Bool.or_eq_true, beq_iff_eq, hji, false_or] at h
  obtain ⟨e, he, hb⟩ := Array.any_eq_true'.1 h
  simp only [Bool.and_eq_true, List.contains_iff_mem] at hb
  have h1 := hall e he hb.1
  have h2 := unlB_spec hu e.on hb.2
  rcases Nat.lt_or_ge e.on listed.size with h' | h'
  · simp [h'] at h1 h2; rw [h2] at h1; cases h1
  · simp [Array.getElem?_eq_none h'] at h1
theorem unlB_set {listed : Array Bool} {D : List Nat} {j : Nat} (hu : unlB listed D = true) (hj : j ∉ D) : unlB (listed.setIfInBounds j true) D = true := by
  unfold unlB
  rw [List.all_eq_true]
  intro k hk
  have hkj : j ≠ k := fun h => hj (h ▸ hk)
  rw [getD_set_ne true hkj, unlB_spec hu k hk]
  rfl
theorem wpAnyM_first {m i : Nat} {oi : Oper} {v : Value} (D : List Nat) (hD : waitB md ops i D = true) (hmD : m ∈ D) (hiD : i ∈ D) (hmi : m ≠ i) (hi : ops[i]? = some oi) (hsel : ∀ (j : Nat) (o : Oper) cs b, ops[j]? = some o → o.op ≠ .select cs b)
    (hQ : ∀ c a w, Q (.panic c) (a.put oi.dst v) w → Q (.panic c) a w) :
    ∀ (fuel : Nat) (listed : Array Bool) (a : Act) (w : World), unlB listed D = true →
      (∀ j oj, ops[j]? = some oj → j ≠ i → listed.getD j true = false → (∀ e ∈ oj.after, Region.binds md e = true → e.on ≠ i) → oi.apart ops oj = true) →
      i ∈ Region.ready md ops listed → YieldsIf P ops S oi v a → S w →
      wpAnyM P md ops Q S m fuel (listed.setIfInBounds i true) (a.put oi.dst v) w → wpAnyM P md ops Q S m (fuel + 1) listed a w := by
  intro fuel
  induction fuel with
  | zero =>
    intro listed a w _ _ hr hy hS H
    refine ⟨fun h => (by rw [h] at hr; cases hr), fun j hj => ?_⟩
    by_cases hji : j = i
    · subst hji; exact hy.wpOp hi hS ⟨.inr hS, H⟩
    · have := ready_mono hj hji
      rw [H.1] at this
      cases this
  | succ fuel ih =>
    intro listed a w hu hfree hr hy hS H
    refine ⟨fun h => (by rw [h] at hr; cases hr), fun j hj => ?_⟩
    by_cases hji : j = i
    · subst hji; exact hy.wpOp hi hS ⟨.inr hS, H⟩
    · have hjD : j ∉ D := fun h => wait_not_ready hD hu h hji hj
      have hjm : j ≠ m := fun h => hjD (h ▸ hmD)
      have h1 := H.2 j (ready_mono hj hji)
      obtain ⟨hjun, oj, hoj, hall⟩ := mem_ready.1 hj
      have hnot : ∀ e ∈ oj.after, Region.binds md e = true → e.on ≠ i := fun e he hb heq => by
        have h1 := hall e he hb
        have h0 := (mem_ready.1 hr).1
        rw [heq] at h1
        rcases Nat.lt_or_ge i listed.size with h' | h'
        · simp [h'] at h0 h1; rw [h0] at h1; cases h1
        · simp [Array.getElem?_eq_none h'] at h1
      have h2 := wpOp_putIf hoj (hfree j oj hoj hji hjun hnot) (fun cs b => hsel i oi cs b hi) (fun cs b => hsel j oj cs b hoj) hQ hy h1
      have hfree' : ∀ k ok, ops[k]? = some ok → k ≠ i → (listed.setIfInBounds j true).getD k true = false →
          (∀ e ∈ ok.after, Region.binds md e = true → e.on ≠ i) → oi.apart ops ok = true := fun k ok hk hki hun hno => by
        refine hfree k ok hk hki ?_ hno
        by_cases hjk : j = k
        · subst hjk; exact hjun
        · rw [getD_set_ne true hjk] at hun; exact hun
      refine wpOp_mono (fun a' w' h3 => ?_) h2
      have hS' : S w' := by rcases h3.2.1 with h | h; exact absurd h hjm; exact h
      refine ⟨.inr hS', ih (listed.setIfInBounds j true) a' w' (unlB_set hu hjD) hfree' (ready_mono hr (Ne.symm hji)) h3.1 hS' ?_⟩
      rw [Array.setIfInBounds_comm _ _ hji]
      exact h3.2.2
variable {a : Act} {w : World} {o : Oper}
/-- Number i is taken first, that all of D wait for, number m among them. -/
theorem mTake {m i : Nat} {oi : Oper} {v : Value} {fuel : Nat} {listed : Array Bool} (dst : Option Tmp) (D : List Nat) (hD : waitB md ops i D = true) (hm : D.contains m = true) (hiD : D.contains i = true) (hmi : m ≠ i) (hu : unlB listed D = true) (hi : ops[i]? = some oi) (hd : oi.dst = dst)
    (hs : Region.noSelect ops = true) (hf : Region.free md ops listed i = true) (hr : (Region.ready md ops listed).contains i = true)
    (hQ : ∀ c a w, Q (.panic c) (a.put dst v) w → Q (.panic c) a w) (hy : YieldsIf P ops S oi v a) (hS : S w)
    (h : wpAnyM P md ops Q S m fuel (listed.setIfInBounds i true) (a.put dst v) w) : wpAnyM P md ops Q S m (fuel + 1) listed a w := by
  subst hd
  exact wpAnyM_first D hD (by simpa using hm) (by simpa using hiD) hmi hi (Region.noSelect_spec hs) hQ fuel listed a w hu (Region.free_spec hi hf) (by simpa using hr) hy hS h
/-- What yields in whatever world is taken first, whoever waits for it. -/
theorem mAnyTake {m i : Nat} {oi : Oper} {v : Value} {fuel : Nat} {listed : Array Bool} (dst : Option Tmp) (D : List Nat) (hD : waitB md ops i D = true) (hm : D.contains m = true) (hiD : D.contains i = true) (hmi : m ≠ i) (hu : unlB listed D = true) (hi : ops[i]? = some oi) (hd : oi.dst = dst)
    (hs : Region.noSelect ops = true) (hf : Region.free md ops listed i = true) (hr : (Region.ready md ops listed).contains i = true)
    (hQ : ∀ c a w, Q (.panic c) (a.put dst v) w → Q (.panic c) a w) (hy : Yields P ops oi v a) (hS : S w)
    (h : wpAnyM P md ops Q S m fuel (listed.setIfInBounds i true) (a.put dst v) w) : wpAnyM P md ops Q S m (fuel + 1) listed a w :=
  mTake dst D hD hm hiD hmi hu hi hd hs hf hr hQ hy.yieldsIf hS h
theorem mOne {m i : Nat} {fuel : Nat} {listed : Array Bool} (hr : Region.ready md ops listed = [i]) (ho : ops[i]? = some o)
    (h : ∀ K' : Act → World → Prop, (∀ a w, (i = m ∨ S w) → wpAnyM P md ops Q S m fuel (listed.setIfInBounds i true) a w → K' a w) → if Region.wanted o (yielded ops a.tmps) = true then Oper.wp P o a w K' Q else K' (a.put o.dst undef) w) : wpAnyM P md ops Q S m (fuel + 1) listed a w := by
  refine ⟨fun h0 => absurd (hr ▸ h0) (by simp), hr ▸ ?_⟩
  intro j hj
  simp only [List.mem_singleton] at hj
  subst hj
  exact wpOp_step ho (fun K' hK => h K' (fun a w hS hW => hK a w ⟨hS, hW⟩))
theorem mTwo {m i j : Nat} {oi oj : Oper} {fuel : Nat} {listed : Array Bool} (hr : Region.ready md ops listed = [i, j]) (hoi : ops[i]? = some oi) (hoj : ops[j]? = some oj)
    (h : ∀ K' : Act → World → Prop, (∀ a w, (i = m ∨ S w) → wpAnyM P md ops Q S m fuel (listed.setIfInBounds i true) a w → K' a w) → if Region.wanted oi (yielded ops a.tmps) = true then Oper.wp P oi a w K' Q else K' (a.put oi.dst undef) w)
    (h' : ∀ K' : Act → World → Prop, (∀ a w, (j = m ∨ S w) → wpAnyM P md ops Q S m fuel (listed.setIfInBounds j true) a w → K' a w) → if Region.wanted oj (yielded ops a.tmps) = true then Oper.wp P oj a w K' Q else K' (a.put oj.dst undef) w) : wpAnyM P md ops Q S m (fuel + 1) listed a w := by
  refine ⟨fun h0 => absurd (hr ▸ h0) (by simp), hr ▸ ?_⟩
  intro k hk
  simp only [List.mem_cons, List.mem_nil_iff, or_false] at hk
  rcases hk with rfl | rfl
  · exact wpOp_step hoi (fun K' hK => h K' (fun a w hS hW => hK a w ⟨hS, hW⟩))
  · exact wpOp_step hoj (fun K' hK => h' K' (fun a w hS hW => hK a w ⟨hS, hW⟩))
theorem mDone {m : Nat} {listed : Array Bool} (hr : Region.ready md ops listed = []) (h : Q .normal a w) : ∀ fuel, wpAnyM P md ops Q S m fuel listed a w
  | 0 => ⟨hr, h⟩
  | _ + 1 => ⟨fun _ => h, by rw [hr]; simp⟩
theorem wp_region_M {id : Nat} (S : World → Prop) (m : Nat) (hm : P.follows .mixedOrders = true)
    (h : wpAnyM P .any ops Q S m ops.size (Array.replicate ops.size false) a w.drew) : (Code.region id ops true).wp P Q a w :=
  wp_region_any hm (wpAny_of_M _ _ _ _ h)
end
end Go.Proofs.YtibmlgkakeakcaaDoor
/- For the rows: how the arguments of a law read: bytes; the listed table of crc. -/
namespace Go.Proofs.YtibmlgkakeakcaaDoor
open Go.RowKit Go.ChangeShapes Go.WideShapes

theorem open_bytes {H : Type} {enc : TypeId × Value → H} {P : Program} {W : World} {base : Nat} {spare : Nat → Bool} {held : Bool} {t e : TypeId} {a : Option Addr} {len cap : Nat} {d : DataW H} {ps : List MemPlace} {ts : List TypeId} {ds : List (DataW H)} {j : Nat}
    (hsz : (DataW.weightsEach P ts ds).all (· ≤ reachBytes) = true) (ht : ts[j]? = some t) (hd : ds[j]? = some d) (hu : P.underlying t = some (.slice e)) (he : P.underlying e = some (.int .u8)) (hc : P.cellsOf e = 1) (hB : P.bytesOf e = 1)
    (h : DataW.Trod enc P W base spare held t (.slice a len cap) d ps) :
    ∃ l : List UInt8, len = l.length ∧ Bytes W a l ∧ (a = none → cap = 0) ∧ l.length ≤ cap ∧ l.length ≤ 140737488351232 := by
  obtain ⟨fuel, hf⟩ := h
  rcases open_ints hu he hc hf with ⟨hcs, _⟩ | ⟨x, l, c, zs, hcs, _, hl, _, hz, hx, hcell, hwz⟩
  · simp [Value.cells] at hcs
    obtain ⟨rfl, rfl, rfl⟩ := hcs
    exact ⟨[], rfl, Bytes.nil _ _, fun _ => rfl, Nat.le_refl _, by simp⟩
  · simp [Value.cells] at hcs
    obtain ⟨rfl, rfl, rfl⟩ := hcs
    obtain ⟨hx, _⟩ := Prod.mk.inj hx
    subst hx
    have z := sized_slice hsz ht hd hu
    rw [hB] at z
    have hl2 : len ≤ zs.length := by
      rw [hz]
      split
      · exact hl
      · exact Nat.le_refl _
    have h1 : (lits (H := H) .u8 (zs.take len)).length + (lits (H := H) .u8 (zs.drop len)).length = zs.length := by
      simp [lits]
      omega
    rw [h1] at z
    have hlen : ((zs.take len).map fun n => UInt8.ofNat n.toNat).length = len := by simp; omega
    refine ⟨(zs.take len).map fun n => UInt8.ofNat n.toNat, hlen.symm, ?_, (fun h => by cases h), (by rw [hlen]; exact hl), ?_⟩
    · intro i hi
      rw [hlen] at hi
      refine ⟨x, rfl, ?_⟩
      rw [hcell i (by omega)]
      have hi2 : i < zs.length := by omega
      have hw := hwz (zs[i]) (List.getElem_mem hi2)
      have hb : 0 ≤ zs[i] ∧ zs[i] < 256 := by
        simp [Lit.wf, IntKind.min, IntKind.max, IntKind.signed, IntKind.bits] at hw
        omega
      have e2 : at8 ((zs.take len).map fun n => UInt8.ofNat n.toNat) i = UInt8.ofNat (zs[i]).toNat := by
        rw [at8_eq _ _ (by rw [hlen]; exact hi)]
        simp
      rw [e2, List.getD_eq_getElem?_getD, List.getElem?_eq_getElem hi2]
      simp only [Option.getD_some, UInt8.toNat_ofNat']
      congr 3
      omega
    · rw [hlen]
      have : reachBytes = 140737488351232 := by decide
      omega

theorem u8_of (n : Int) (h0 : 0 ≤ n) (h1 : n ≤ 255) : ∃ a : UInt8, (a.toNat : Int) = n := ⟨UInt8.ofNat n.toNat, by simp; omega⟩
end Go.Proofs.YtibmlgkakeakcaaDoor
/- For the rows: how an argument of ints reads. -/
namespace Go.Proofs.YtibmlgkakeakcaaDoor
open Go.RowKit Go.ChangeShapes Go.WideShapes
def Ints (W : World) (A : Option Addr) (l : List Int) : Prop := ∀ i, (hi : i < l.length) → ∃ ad, A = some ad ∧ W.cell? (ad.add i) = some (.int .i64 l[i]) ∧ -9223372036854775808 ≤ l[i] ∧ l[i] ≤ 9223372036854775807
theorem open_i64s {H : Type} {enc : TypeId × Value → H} {P : Program} {W : World} {base : Nat} {spare : Nat → Bool} {held : Bool} {t e : TypeId} {a : Option Addr} {len cap : Nat} {d : DataW H} {ps : List MemPlace} {ts : List TypeId} {ds : List (DataW H)} {j : Nat}
    (hsz : (DataW.weightsEach P ts ds).all (· ≤ reachBytes) = true) (ht : ts[j]? = some t) (hd : ds[j]? = some d) (hu : P.underlying t = some (.slice e)) (he : P.underlying e = some (.int .i64)) (hc : P.cellsOf e = 1) (hB : P.bytesOf e = 8)
    (h : DataW.Trod enc P W base spare held t (.slice a len cap) d ps) :
    ∃ l : List Int, len = l.length ∧ Ints W a l ∧ (a = none → cap = 0) ∧ l.length ≤ cap ∧ l.length ≤ 140737488351232 := by
  obtain ⟨fuel, hf⟩ := h
  rcases open_ints hu he hc hf with ⟨hcs, _⟩ | ⟨x, l, c, zs, hcs, _, hl, _, hz, hx, hcell, hwz⟩
  · simp [Value.cells] at hcs
    obtain ⟨rfl, rfl, rfl⟩ := hcs
    exact ⟨[], rfl, fun i hi => absurd hi (by simp), fun _ => rfl, Nat.le_refl _, by simp⟩
  · simp [Value.cells] at hcs
    obtain ⟨rfl, rfl, rfl⟩ := hcs
    obtain ⟨hx, _⟩ := Prod.mk.inj hx
    subst hx
    have z := sized_slice hsz ht hd hu
    rw [hB] at z
    have hl2 : len ≤ zs.length := by
      rw [hz]
      split
      · exact hl
      · exact Nat.le_refl _
    have h1 : (lits (H := H) .i64 (zs.take len)).length + (lits (H := H) .i64 (zs.drop len)).length = zs.length := by
      simp [lits]
      omega
    rw [h1] at z
    have hlen : (zs.take len).length = len := by simp; omega
    refine ⟨zs.take len, hlen.symm, ?_, (fun h => by cases h), (by rw [hlen]; exact hl), ?_⟩
    · intro i hi
      rw [hlen] at hi
      have hi2 : i < zs.length := by omega
      refine ⟨x, rfl, ?_, ?_⟩
      · rw [hcell i (by omega), List.getD_eq_getElem?_getD, List.getElem?_eq_getElem hi2]
        simp
      · have hw := hwz (zs[i]) (List.getElem_mem hi2)
        simp [Lit.wf, IntKind.min, IntKind.max, IntKind.signed, IntKind.bits] at hw
        simp
        omega
    · rw [hlen]
      have : reachBytes = 140737488351232 := by decide
      omega
theorem open_agg3 {P : Program} {w : World} {r : Reach} {base : Nat} {t : TypeId} {v : Value} {fs : Array Field} (hu : P.underlying t = some (.struct fs)) (hc : P.cellsOf t = 3) (h : Value.okWide P w r base t v) : ∃ x y z, v = .agg #[x, y, z] := by
  unfold Value.okWide at h
  rw [hu] at h
  obtain ⟨cs, rfl, hs, _⟩ := h
  rw [hc] at hs
  obtain ⟨l⟩ := cs
  match l, hs with
  | [x, y, z], _ => exact ⟨x, y, z, rfl⟩
end Go.Proofs.YtibmlgkakeakcaaDoor
/- For the rows: how an argument of slices of bytes reads. -/
set_option linter.unusedSimpArgs false
set_option linter.unusedVariables false
namespace Go.Proofs.YtibmlgkakeakcaaDoor
open Go.RowKit Go.Proofs.YtibmlgkakeakcaaDoor.Crc
open Go.ChangeShapes Go.WideShapes
theorem addr_spot {w : World} {a : Addr} {v : Value} (h : w.cell? (a.add 0) = some v) : a.spot = none := by
  obtain ⟨b, o, s⟩ := a
  cases s with
  | none => rfl
  | some s => simp [World.cell?, Addr.add] at h; split at h <;> simp at h
theorem open_rows {H : Type} {enc : TypeId × Value → H} {P : Program} {W : World} {base : Nat} {held : Bool} {t e q : TypeId} {a : Option Addr} {len cap : Nat} {d : DataW H} {ps : List MemPlace}
    (hu : P.underlying t = some (.slice e)) (he : P.underlying e = some (.slice q)) (hq : P.underlying q = some (.int .u8)) (ce : P.cellsOf e = 1) (cq : P.cellsOf q = 1)
    (h : DataW.Trod enc P W base (fun _ => true) held t (.slice a len cap) d ps) :
    ∃ ls : List (List UInt8), len = ls.length ∧ RowsB W a ls ∧ (a = none → cap = 0) ∧ ls.length ≤ cap ∧ ls.length ≤ 9223372036854775807 := by
  obtain ⟨fuel, hf⟩ := h
  rcases Deep.open_int_rows hu he hq ce cq hf with ⟨hcs, _⟩ | ⟨x, l, c, A, L, C, Z, hcs, _, hl, hm, _, hrow⟩
  · simp [Value.cells] at hcs
    obtain ⟨rfl, rfl, rfl⟩ := hcs
    exact ⟨[], rfl, fun i hi => absurd hi (by simp), fun _ => rfl, Nat.le_refl _, by simp⟩
  · simp [Value.cells] at hcs
    obtain ⟨rfl, rfl, rfl⟩ := hcs
    unfold maxLen at hm
    refine ⟨(List.range len).map fun r => ((Z r).take (L r)).map fun n => UInt8.ofNat n.toNat, by simp, ?_, (fun h => by cases h), by simpa using hl, by simp; omega⟩
    intro i hi
    have hi2 : i < len := by simpa using hi
    obtain ⟨hc, hLC, hCm, hZ, hw, hnil, hcell⟩ := hrow i (by omega)
    unfold maxLen at hCm
    have hlen : (((Z i).take (L i)).map fun n => UInt8.ofNat n.toNat).length = L i := by simp; omega
    refine ⟨x, A i, C i, rfl, ?_, ?_⟩
    · simp only [List.getElem_map, List.getElem_range]
      rw [hlen]; exact hc
    · simp only [List.getElem_map, List.getElem_range]
      rw [hlen]
      refine ⟨hlen.symm, ?_, hLC, by omega, hnil⟩
      intro j hj
      rw [hlen] at hj
      cases hA : A i with
      | none => have := hnil hA; omega
      | some ad =>
        refine ⟨ad, rfl, ?_⟩
        have hx := (hcell ad hA).2 j (by omega)
        rw [hx]
        have hj2 : j < (Z i).length := by omega
        have hwf := hw (Z i)[j] (List.getElem_mem hj2)
        have hb : 0 ≤ (Z i)[j] ∧ (Z i)[j] < 256 := by
          simp [Lit.wf, IntKind.min, IntKind.max, IntKind.signed, IntKind.bits] at hwf
          omega
        have e2 : at8 (((Z i).take (L i)).map fun n => UInt8.ofNat n.toNat) j = UInt8.ofNat ((Z i)[j]).toNat := by
          rw [at8_eq _ _ (by rw [hlen]; exact hj)]
          simp
        rw [e2, List.getD_eq_getElem?_getD, List.getElem?_eq_getElem hj2]
        simp only [Option.getD_some, UInt8.toNat_ofNat']
        congr 3
        omega
end Go.Proofs.YtibmlgkakeakcaaDoor
