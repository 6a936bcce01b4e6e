/- The statement of NodeHalves: for every input the law answers true, and each argument reads afterwards as it read before; the listed variables start as the program's text lays them. -/
import Derived.Test.YthpbioffjapmmaaDoorG5
import Derived.Test.YthpbioffjapmmaaDoorG4
import Derived.Test.YthpbioffjapmmaaDoorG6
import Derived.Test.YthpbioffjapmmaaDoorG7
import Derived.Test.YthpbioffjapmmaaDoorG8
import Derived.Test.YthpbioffjapmmaaDoorRows
import Derived.Test.YthpbioffjapmmaaDoorCards
import Derived.Test.YthpbioffjapmmaaDoorTie
import Derived.WalkKit
import Derived.ProofKit
import Derived.OpenShut
import Derived.ShutString
import Derived.ChangeOld
import Derived.Below
import Derived.SizedLaws
import Derived.ChangeSame
import Derived.ChangeVars
import Derived.JoinedOf
import Derived.RowKit
import Derived.RowKitTokens
import Derived.LaidLaws
import Derived.LaidHandle
import Derived.LaidMore
import Derived.Lib.LaidTab
import Derived.SevenTiedAt
import Derived.Lay
import Derived.Stop.LaidErr
/- The walk of NodeHalves. -/
set_option linter.unusedSimpArgs false
set_option linter.unusedVariables false
namespace Go.Proofs.YthpbioffjapmmaaDoor
open Go.RowKit Go.Proofs.YthpbioffjapmmaaDoor.Crc Go.BigFrame
theorem Join_calls {w : World} {a b : NodeM} {key : List UInt8} {kA : Option Addr} {kc : Nat} {vA : Option Addr} {vc : Nat} {iA : Option Addr} {ic : Nat} {kX : Option Addr} {kx : Nat} {vX : Option Addr} {vx : Nat} {iX : Option Addr} {ix : Nat} (h : NodeAt w a kA kc vA vc iA ic) (h' : NodeAt w b kX kx vX vx iX ix) (hl : a.leaf = b.leaf) (hr : RightM a) (hr' : RightM b) (hn : a.keys.length ≤ 1000) (hn' : b.keys.length ≤ 1000) (hrj : RightM (joinM a key b)) :
    Calls Tryd.prog 25 #[.agg #[.bool a.leaf, .slice kA a.keys.length kc, .slice vA a.vals.length vc, .slice iA a.kids.length ic], .string (bstr key), .agg #[.bool a.leaf, .slice kX b.keys.length kx, .slice vX b.vals.length vx, .slice iX b.kids.length ix]] w fun e w' => ∃ kB kd vB vd iB id, e = .returned (.tuple #[.agg #[.bool a.leaf, .slice kB (joinM a key b).keys.length kd, .slice vB (joinM a key b).vals.length vd, .slice iB (joinM a key b).kids.length id], .int .i64 0]) ∧ Hid (NodeOwn w' w.heap.size (joinM a key b) kB kd vB vd iB id ∧ Below w.heap.size w w') := by
  obtain ⟨lf, ks, vs, is⟩ := a
  obtain ⟨lf', ls, us, js⟩ := b
  simp only at hl
  subst hl
  cases lf
  · exact Join_inner h h' hr hr' hn hn' hrj
  · exact Join_leaf h h' hr hr' hn hn' hrj
set_option maxRecDepth 10000 in
set_option maxHeartbeats 16000000 in
theorem nodeHalves_row (n : NodeM) (kA : Option Addr) (kc : Nat) (vA : Option Addr) (vc : Nat) (iA : Option Addr) (ic : Nat) (w : World) {X : Prop} (_hx : X) (hN : NodeAt w n kA kc vA vc iA ic) :
    Calls Tryd.prog 6 #[.agg #[.bool n.leaf, .slice kA n.keys.length kc, .slice vA n.vals.length vc, .slice iA n.kids.length ic]] w fun e w' => e = .returned (.bool true) ∧ Below w.heap.size w w' := by
  obtain ⟨nk, hnk⟩ : ∃ k, n.keys.length = k := ⟨_, rfl⟩
  obtain ⟨nv, hnv⟩ : ∃ k, n.vals.length = k := ⟨_, rfl⟩
  obtain ⟨ni, hni⟩ : ∃ k, n.kids.length = k := ⟨_, rfl⟩
  obtain ⟨lf, hlf⟩ : ∃ k, n.leaf = k := ⟨_, rfl⟩
  have HG0 : Hid (∀ w' kA kc vA vc iA ic, NodeAt w' n kA kc vA vc iA ic → Calls Tryd.prog 8 #[.agg #[.bool lf, .slice kA nk kc, .slice vA nv vc, .slice iA ni ic]] w' fun e w'' => e = .returned (.bool (greatB n)) ∧ Hid (Below w'.heap.size w' w'')) := fun w' kA kc vA vc iA ic h => by
    rw [← hnk, ← hnv, ← hni, ← hlf]; exact great_calls h
  have HC0 : Hid (Small n → ∀ w' kA kc vA vc iA ic, NodeAt w' n kA kc vA vc iA ic → Calls Tryd.prog 9 #[.agg #[.bool lf, .slice kA nk kc, .slice vA nv vc, .slice iA ni ic]] w' fun e w'' => ∃ kB kd vB vd iB id, e = .returned (.agg #[.bool lf, .slice kB nk kd, .slice vB nv vd, .slice iB ni id]) ∧ Hid (NodeAt w'' n kB kd vB vd iB id ∧ Below w'.heap.size w' w'')) := fun hs w' kA kc vA vc iA ic h => by
    rw [← hnk, ← hnv, ← hni, ← hlf]; exact copied_calls h ⟨by have := hs.k; omega, by have := hs.v; omega, by have := hs.i; omega⟩ (fun v hv => by obtain ⟨i, hi, rfl⟩ := List.getElem_of_mem hv; have := hs.vl i hi; rw [atL_eq _ _ hi] at this; omega)
  have HF0 : Hid (Small n → ∀ w' kA kc vA vc iA ic, NodeAt w' n kA kc vA vc iA ic → Calls Tryd.prog 18 #[.agg #[.bool lf, .slice kA nk kc, .slice vA nv vc, .slice iA ni ic]] w' fun e w'' => e = .returned (.bool (fitsB n)) ∧ Below w'.heap.size w' w'') := fun hs w' kA kc vA vc iA ic h => by
    rw [← hnk, ← hnv, ← hni, ← hlf]; exact Fits_calls h (by have := hs.k; omega)
  have HS0 : Hid (∀ w' kA kc vA vc iA ic kB kd vB vd iB id, NodeAt w' n kA kc vA vc iA ic → NodeAt w' n kB kd vB vd iB id → Calls Tryd.prog 19 #[.agg #[.bool lf, .slice kA nk kc, .slice vA nv vc, .slice iA ni ic], .agg #[.bool lf, .slice kB nk kd, .slice vB nv vd, .slice iB ni id]] w' fun e w'' => e = .returned (.bool true) ∧ Hid (Below w'.heap.size w' w'')) := fun w' kA kc vA vc iA ic kB kd vB vd iB id h h' => by
    have h := Same14_calls h h'
    rw [sameB_true rfl] at h
    rw [← hnk, ← hnv, ← hni, ← hlf]; exact h
  obtain ⟨hb0, hr0⟩ := node_box w (.bool n.leaf) (.slice kA n.keys.length kc) (.slice vA n.vals.length vc) (.slice iA n.kids.length ic) 26
  rw [hnk, hnv, hni, hlf] at hb0 hr0 ⊢
  obtain ⟨W0, hW0⟩ : ∃ x, w.alloc (.cells #[.bool lf, .slice kA nk kc, .slice vA nv vc, .slice iA ni ic] 26) = x := ⟨_, rfl⟩
  have HWk := Lib.hid (works14_calls (w.alloc (.cells #[.bool lf, .slice kA nk kc, .slice vA nv vc, .slice iA ni ic] 26)))
  rw [hW0] at hb0 hr0
  have H := Lib.hid (hN.below hb0)
  have HX := Lib.hid (box_cells hr0)
  have HB := Lib.hid hb0
  have HW := Lib.hid hW0
  have HNL' : Hid (n.keys.length = nk ∧ n.vals.length = nv ∧ n.kids.length = ni ∧ n.leaf = lf) := ⟨hnk, hnv, hni, hlf⟩
  clear hnk hnv hni hlf hb0 hr0 hW0 hN
  go_enter Tryd.func6, Tryd.ntmps6
  go_wp2_with (go_at_call 20; (with_reducible refine HWk.out.mono ?_); rintro e w1 ⟨rfl, hb1⟩; refine park ?_; intro q hq)
  rw [HW.out] at hb1
  have hB1 := Lib.hid hb1
  clear HWk hb1
  refine hq.out ?_
  clear hq
  obtain ⟨x0, x1, x2, x3⟩ := HX.out _ hB1.out
  have HGr := Lib.hid (HG0.out w1 _ _ _ _ _ _ (H.out.below hB1.out))
  go_wp2_with (go_at_call 8; (with_reducible refine HGr.out.mono ?_); rintro e w2 ⟨rfl, hb2⟩; refine park ?_; intro q hq)
  have hB2 : Hid (Below W0.heap.size W0 w2) := hB1.out.trans (hb2.out.mono hB1.out.size)
  clear x0 x1 x2 x3 HGr hb2 HG0
  refine hq.out ?_
  clear hq
  cases hG : greatB n
  · have hS := greatB_small hG
    clear hG
    have HC1 := Lib.hid (HC0.out hS)
    have HF1 := Lib.hid (HF0.out hS)
    have hnl : n.keys.length ≤ 1000 := by have := hS.k; omega
    have HNL := Lib.hid hnl
    clear HC0 HF0 hS hnl
    obtain ⟨x0, x1, x2, x3⟩ := HX.out _ hB2.out
    have HC := Lib.hid (HC1.out w2 _ _ _ _ _ _ (H.out.below hB2.out))
    go_wp2_with (go_at_call 9; (with_reducible refine HC.out.mono ?_); rintro e w3 ⟨kB, kd, vB, vd, iB, id, rfl, hb3⟩; refine park ?_; intro q hq)
    clear x0 x1 x2 x3 HC
    have hba : Below w3.heap.size w3 (w3.alloc (.cells #[.bool lf, .slice kB nk kd, .slice vB nv vd, .slice iB ni id] 28)) := (Below.refl _ _).alloc (Nat.le_refl _) _
    have hrow := heap_alloc_new w3 (.cells #[.bool lf, .slice kB nk kd, .slice vB nv vd, .slice iB ni id] 28)
    have HE : Hid (∀ w', Below (w3.alloc (.cells #[.bool lf, .slice kB nk kd, .slice vB nv vd, .slice iB ni id] 28)).heap.size (w3.alloc (.cells #[.bool lf, .slice kB nk kd, .slice vB nv vd, .slice iB ni id] 28)) w' → Below W0.heap.size W0 w' ∧ NodeAt w' n kB kd vB vd iB id) := fun w' h => ⟨hB2.out.trans ((hb3.out.2.trans ((hba.trans (h.mono hba.size)).mono hb3.out.2.size)).mono hB2.out.size), hb3.out.1.below (hba.trans (h.mono hba.size))⟩
    have HY := Lib.hid (box_cells hrow)
    have HN4 : Hid (NodeAt (w3.alloc (.cells #[.bool lf, .slice kB nk kd, .slice vB nv vd, .slice iB ni id] 28)) n kB kd vB vd iB id) := hb3.out.1.below hba
    obtain ⟨W4, hW4⟩ : ∃ x, w3.alloc (.cells #[.bool lf, .slice kB nk kd, .slice vB nv vd, .slice iB ni id] 28) = x := ⟨_, rfl⟩
    rw [hW4] at HE HY
    have HW4 := Lib.hid hW4
    have HSz4 : Hid (W4.heap.size = w3.heap.size + 1) := by show _ = _; rw [← hW4]; simp
    have HRx : Hid (∀ w', Below W4.heap.size W4 w' → Calls Tryd.prog 14 #[.agg #[.bool lf, .slice kB nk kd, .slice vB nv vd, .slice iB ni id]] w' fun e w'' => e = .returned (.bool (rightB n)) ∧ Below w'.heap.size w' w'') := fun w' hb => by
      have h := Right_calls (HE.out w' hb).2
      rw [HNL'.out.1, HNL'.out.2.1, HNL'.out.2.2.1, HNL'.out.2.2.2] at h
      exact h
    clear hba hrow hb3 hW4 HC1
    by_cases hR : RightM n
    · by_cases h2 : 2 ≤ n.keys.length
      · have HCt := Lib.hid (Cut_calls HN4.out hR HNL.out h2)
        obtain ⟨hm1, hm2⟩ := midN_bounds h2
        have hkpos : 0 < n.keys.length := by omega
        have HRA : RightM (halfA n) := right_part hR 0 (midN n) (by omega) (by omega)
        have HRB : RightM (halfB n) := right_part hR (midN n) n.keys.length hm2 (Nat.le_refl _)
        have HJn : joinM (halfA n) (atL n.keys (midN n)) (halfB n) = n := join_halves hR (midN n) hm1 hm2
        have hlA : (halfA n).keys.length = midN n := by
          rw [show (halfA n).keys.length = _ from (firstM_shape (partM n 0 (midN n))).2.1]
          show ((n.keys.take (midN n)).drop 0).length = _
          simp; omega
        have hlB : (halfB n).keys.length = n.keys.length - midN n := by
          rw [show (halfB n).keys.length = _ from (firstM_shape (partM n (midN n) n.keys.length)).2.1]
          show ((n.keys.take n.keys.length).drop (midN n)).length = _
          simp
        have hfA : (halfA n).leaf = lf := by rw [show (halfA n).leaf = _ from (firstM_shape (partM n 0 (midN n))).1]; exact HNL'.out.2.2.2
        have hfB : (halfB n).leaf = lf := by rw [show (halfB n).leaf = _ from (firstM_shape (partM n (midN n) n.keys.length)).1]; exact HNL'.out.2.2.2
        have HRt : Hid (∀ w' m kA kc vA vc iA ic, m = halfA n ∨ m = halfB n → NodeAt w' m kA kc vA vc iA ic → Calls Tryd.prog 14 #[.agg #[.bool lf, .slice kA m.keys.length kc, .slice vA m.vals.length vc, .slice iA m.kids.length ic]] w' fun e w'' => e = .returned (.bool true) ∧ Below w'.heap.size w' w'') := fun w' m kA kc vA vc iA ic hm h => by
          have hh := Right_calls h
          rcases hm with rfl | rfl
          · rw [rightB_true HRA, hfA] at hh; exact hh
          · rw [rightB_true HRB, hfB] at hh; exact hh
        have HFt : Hid (∀ w' m kA kc vA vc iA ic, m = halfA n ∨ m = halfB n → NodeAt w' m kA kc vA vc iA ic → Calls Tryd.prog 18 #[.agg #[.bool lf, .slice kA m.keys.length kc, .slice vA m.vals.length vc, .slice iA m.kids.length ic]] w' fun e w'' => e = .returned (.bool (fitsB m)) ∧ Below w'.heap.size w' w'') := fun w' m kA kc vA vc iA ic hm h => by
          have hkl := HNL.out
          have hh := Fits_calls h (by rcases hm with rfl | rfl <;> omega)
          rw [show m.leaf = lf from by rcases hm with rfl | rfl; exact hfA; exact hfB] at hh
          exact hh
        have HJo : Hid (∀ w' kC ke vC ve iC ie kD kg vD vg iD ig, NodeAt w' (halfA n) kC ke vC ve iC ie → NodeAt w' (halfB n) kD kg vD vg iD ig → Calls Tryd.prog 25 #[.agg #[.bool lf, .slice kC (halfA n).keys.length ke, .slice vC (halfA n).vals.length ve, .slice iC (halfA n).kids.length ie], .string (bstr (atL n.keys (midN n))), .agg #[.bool lf, .slice kD (halfB n).keys.length kg, .slice vD (halfB n).vals.length vg, .slice iD (halfB n).kids.length ig]] w' fun e w'' => ∃ kB kd vB vd iB id, e = .returned (.tuple #[.agg #[.bool lf, .slice kB nk kd, .slice vB nv vd, .slice iB ni id], .int .i64 0]) ∧ Hid (NodeOwn w'' w'.heap.size n kB kd vB vd iB id ∧ Below w'.heap.size w' w'')) := fun w' kC ke vC ve iC ie kD kg vD vg iD ig hA hB => by
          have hkl := HNL.out
          have hh := Join_calls (key := atL n.keys (midN n)) hA hB (by rw [hfA, hfB]) HRA HRB (by omega) (by omega) (by rw [HJn]; exact hR)
          rw [HJn, hfA, HNL'.out.1, HNL'.out.2.1, HNL'.out.2.2.1] at hh
          exact hh.mono fun e w'' ⟨a, b, c, d, x, y, h1, h2⟩ => ⟨a, b, c, d, x, y, h1, h2.out.1, h2.out.2⟩
        have HRm : Hid (∀ w' i, i < n.keys.length → NodeAt w' n kB kd vB vd iB id → Calls Tryd.prog 23 #[.agg #[.bool lf, .slice kB nk kd, .slice vB nv vd, .slice iB ni id], .int .i64 (i : Int)] w' fun e w'' => ∃ kC ke vC ve iC ie, e = .returned (.tuple #[.agg #[.bool lf, .slice kC (firstM (delM n i)).keys.length ke, .slice vC (firstM (delM n i)).vals.length ve, .slice iC (firstM (delM n i)).kids.length ie], .int .i64 0]) ∧ Hid (NodeAt w'' (firstM (delM n i)) kC ke vC ve iC ie ∧ Below w'.heap.size w' w'')) := fun w' i hi h => by
          have hh := Remove_calls h hR HNL.out i hi (right_del hR i hi h2)
          rw [HNL'.out.1, HNL'.out.2.1, HNL'.out.2.2.1, HNL'.out.2.2.2] at hh
          exact hh.mono fun e w'' ⟨a, b, c, d, x, y, h1, h2⟩ => ⟨a, b, c, d, x, y, h1, h2.out.1.at', h2.out.2⟩
        have HTx : Hid (∀ w', NodeAt w' n kB kd vB vd iB id → Calls Tryd.prog 16 #[.agg #[.bool lf, .slice kB nk kd, .slice vB nv vd, .slice iB ni id]] w' fun e w'' => e = .returned (.int .i64 (takenN n : Int)) ∧ Below w'.heap.size w' w'') := fun w' h => by
          have hh := Taken_calls h HNL.out
          rw [HNL'.out.1, HNL'.out.2.1, HNL'.out.2.2.1, HNL'.out.2.2.2, show takenB n = takenN n from by unfold takenB; rw [rightB_true hR]; rfl] at hh
          exact hh
        have HTo : Hid (∀ w' i kC ke vC ve iC ie, i < n.keys.length → NodeAt w' (firstM (delM n i)) kC ke vC ve iC ie → Calls Tryd.prog 16 #[.agg #[.bool lf, .slice kC (firstM (delM n i)).keys.length ke, .slice vC (firstM (delM n i)).vals.length ve, .slice iC (firstM (delM n i)).kids.length ie]] w' fun e w'' => e = .returned (.int .i64 (takenN (firstM (delM n i)) : Int)) ∧ Below w'.heap.size w' w'') := fun w' i kC ke vC ve iC ie hi h => by
          have hkl := HNL.out
          obtain ⟨q1, q2, _, _⟩ := firstM_shape (delM n i)
          have hh := Taken_calls h (by rw [q2]; show (n.keys.take i ++ n.keys.drop (i + 1)).length ≤ 1000; rw [List.length_append, List.length_take, List.length_drop]; omega)
          rw [q1, show (delM n i).leaf = lf from HNL'.out.2.2.2, show takenB (firstM (delM n i)) = takenN (firstM (delM n i)) from by unfold takenB; rw [rightB_true (right_del hR i hi h2)]; rfl] at hh
          exact hh
        have HTb : Hid (∀ m : NodeM, RightM m → m.keys.length ≤ 1000 → (takenN m : Int) ≤ 1000000) := fun m hm hl => by
          have := sizeN_le hm m.keys.length (Nat.le_refl _)
          unfold takenN
          omega
        have HEnd : Hid (takenN n ≤ 341 → (∀ i, i < n.keys.length → (takenN n : Int) - (takenN (firstM (delM n i)) : Int) ≤ 97) → fitsB (halfA n) = true ∧ fitsB (halfB n) = true) := fun hT hall => by
          have hcell : ∀ i, i < n.keys.length → 2 + (cellB n i).length ≤ 97 := fun i hi => by
            cases hlf : n.leaf
            · exact cell_inner hR hlf i hi
            · have h1 := taken_del hR hlf i hi
              have h3 := hall i hi
              have h4 : firstM (delM n i) = delM n i := by unfold firstM; rw [if_pos (.inl (by show n.leaf = true; exact hlf))]
              rw [h4] at h3
              omega
          obtain ⟨g1, g2⟩ := halves_small h2 hT hcell
          obtain ⟨p1, p2, p3⟩ := taken_parts hR (midN n) (by omega)
          have f1 := taken_first (partM n 0 (midN n))
          have f2 := taken_first (partM n (midN n) n.keys.length)
          refine ⟨?_, ?_⟩
          · unfold fitsB takenB; rw [rightB_true HRA]; simp only [Bool.true_and, if_true, decide_eq_true_eq]; show takenN (firstM (partM n 0 (midN n))) ≤ 244; omega
          · unfold fitsB takenB; rw [rightB_true HRB]; simp only [Bool.true_and, if_true, decide_eq_true_eq]; show takenN (firstM (partM n (midN n) n.keys.length)) ≤ 244; omega
        have HTd : Hid (∀ i, i < n.keys.length → (takenN (firstM (delM n i)) : Int) ≤ 1000000) := fun i hi => by
          have hkl := HNL.out
          obtain ⟨q1, q2, _, _⟩ := firstM_shape (delM n i)
          exact HTb.out _ (right_del hR i hi h2) (by rw [q2]; show (n.keys.take i ++ n.keys.drop (i + 1)).length ≤ 1000; rw [List.length_append, List.length_take, List.length_drop]; omega)
        have hTn : (takenN n : Int) ≤ 1000000 := HTb.out n hR HNL.out
        have hRd := fun i hi => right_del hR i hi h2
        have HRd := Lib.hid hRd
        obtain ⟨nA, hnA⟩ : ∃ k, halfA n = k := ⟨_, rfl⟩
        obtain ⟨nB, hnB⟩ : ∃ k, halfB n = k := ⟨_, rfl⟩
        rw [hnA] at hlA HRt HFt HJo HEnd HCt
        rw [hnB] at hlB HRt HFt HJo HEnd HCt
        obtain ⟨md, hmd⟩ : ∃ k, midN n = k := ⟨_, rfl⟩
        rw [hmd] at hlA hlB hm1 hm2 HJo
        obtain ⟨lA, hlA'⟩ : ∃ k, nA.keys.length = k := ⟨_, rfl⟩
        obtain ⟨lB, hlB'⟩ : ∃ k, nB.keys.length = k := ⟨_, rfl⟩
        have HLA := Lib.hid hlA'
        have HLB := Lib.hid hlB'
        have hnk := HNL'.out.1
        rw [hnk] at hm2 hlB
        have HMd : Hid (md = lA ∧ lA < nk ∧ 1 ≤ lA ∧ lA + lB = nk) := ⟨by omega, by omega, by omega, by omega⟩
        have t1 : ((lA : Int) == 0) = false := by have := HMd.out; simp; omega
        have t2 : ((lB : Int) == 0) = false := by have := HMd.out; simp; omega
        have t3 : (((lA : Int) + (lB : Int)) != (nk : Int)) = false := by have := HMd.out; simp; omega
        have hkl := HNL.out
        rw [hnk] at hkl
        have lA1 : lA ≤ 1000 := by have := HMd.out; omega
        have lB1 : lB ≤ 1000 := by have := HMd.out; omega
        rw [hlA', hlB'] at HCt
        rw [HNL'.out.1, HNL'.out.2.1, HNL'.out.2.2.1, HNL'.out.2.2.2] at HCt
        clear HRA HRB HJn hlA hlB hfA hfB hnA hnB hm1 hm2 hmd hlA' hlB' hR h2 hkpos hRd hnk
        refine hq.out ?_
        clear hq
        skip
        go_wp2_with (go_at_call 24; (with_reducible refine HCt.out.mono ?_); rintro e w5 ⟨kC, ke, vC, ve, iC, ie, kD, kg, vD, vg, iD, ig, rfl, hb5⟩; refine park ?_; intro q hq)
        obtain ⟨g1, g2, g3⟩ := node2_boxT w5 (.bool lf) (.slice kC lA ke) (.slice vC nA.vals.length ve) (.slice iC nA.kids.length ie) (.bool lf) (.slice kD lB kg) (.slice vD nB.vals.length vg) (.slice iD nB.kids.length ig) 28
        rw [HW4.out] at hb5
        have hB6 := hb5.out.2.2.trans (g1.mono hb5.out.2.2.size)
        have hA6 := hb5.out.1.at'.below g1
        have hD6 := hb5.out.2.1.at'.below g1
        have hRa := HRt.out _ nA kC ke vC ve iC ie (.inl rfl) hA6
        rw [HLA.out] at hRa
        have HRa := Lib.hid hRa
        have hE5 := HE.out w5 hb5.out.2.2
        obtain ⟨z0, z1, z2, z3⟩ := HX.out _ hE5.1
        have hsz := hE5.1.size
        rw [← HW.out] at hsz
        have hpl : w.heap.size < w5.heap.size := by simp at hsz; omega
        have hpn1 : ¬ w.heap.size = w5.heap.size := by omega
        have hpn2 : ¬ w.heap.size = w5.heap.size + 1 := by omega
        have tw : IntKind.i64.wrap ((lA : Int) + (lB : Int)) = (lA : Int) + (lB : Int) := IntWalk.i64_in _ (by omega)
        obtain ⟨W6, hW6⟩ : ∃ x, (w5.alloc (.cells #[.bool lf, .slice kC lA ke, .slice vC nA.vals.length ve, .slice iC nA.kids.length ie] 28)).alloc (.cells #[.bool lf, .slice kD lB kg, .slice vD nB.vals.length vg, .slice iD nB.kids.length ig] 28) = x := ⟨_, rfl⟩
        rw [hW6] at g1 g2 g3 hB6 hA6 hD6
        have HW6 := Lib.hid hW6
        obtain ⟨s, hs⟩ : ∃ s, w5.heap.size = s := ⟨_, rfl⟩
        have HS5 := Lib.hid hs
        rw [hs] at g2 g3
        have HZ : Hid (∀ w', Below W6.heap.size W6 w' → (w'.cell? ⟨s, 0, none⟩ = some (.bool lf) ∧ w'.cell? ⟨s, 1, none⟩ = some (.slice kC lA ke) ∧ w'.cell? ⟨s, 2, none⟩ = some (.slice vC nA.vals.length ve) ∧ w'.cell? ⟨s, 3, none⟩ = some (.slice iC nA.kids.length ie)) ∧ (w'.cell? ⟨s + 1, 0, none⟩ = some (.bool lf) ∧ w'.cell? ⟨s + 1, 1, none⟩ = some (.slice kD lB kg) ∧ w'.cell? ⟨s + 1, 2, none⟩ = some (.slice vD nB.vals.length vg) ∧ w'.cell? ⟨s + 1, 3, none⟩ = some (.slice iD nB.kids.length ig))) := fun w' hb => ⟨row4_cells ((hb.block s (Array.getElem?_eq_some_iff.1 g2).1).trans g2), row4_cells ((hb.block (s + 1) (Array.getElem?_eq_some_iff.1 g3).1).trans g3)⟩
        have HE6 : Hid (∀ w', Below W6.heap.size W6 w' → Below W0.heap.size W0 w' ∧ NodeAt w' n kB kd vB vd iB id ∧ Below W4.heap.size W4 w') := fun w' hb => by
          have h := hB6.trans (hb.mono hB6.size)
          exact ⟨(HE.out w' h).1, (HE.out w' h).2, h⟩
        have HA6 := Lib.hid hA6
        have HD6 := Lib.hid hD6
        have hmdlt : lA < n.keys.length := by have := HMd.out; rw [HNL'.out.1]; omega
        obtain ⟨bk, ok, hkA, _⟩ := H.out.k.spot (by rw [strs_length]; omega)
        subst hkA
        have HK6 : Hid (∀ w', Below W6.heap.size W6 w' → w'.cell? ⟨w.heap.size, 1, none⟩ = some (.slice (some ⟨bk, ok, none⟩) nk kc) ∧ w'.cell? ⟨bk, ok + lA, none⟩ = some (strV (atL n.keys lA))) := fun w' hb => ⟨(HX.out w' (HE6.out w' hb).1).2.1, ((H.out.below (HE6.out w' hb).1).k.strAt lA hmdlt)⟩
        clear hb5 HCt g1 g2 g3 hB6 hA6 hD6 hRa hE5 hsz hs hW6
        refine hq.out ?_
        clear hq
        go_wp2_with (go_at_call 14; (with_reducible refine HRa.out.mono ?_); rintro e w7 ⟨rfl, hb7⟩; refine park ?_; intro q hq)
        rw [HW6.out] at hb7
        simp only [HS5.out] at hq
        have hRb := HRt.out w7 nB kD kg vD vg iD ig (.inr rfl) (HD6.out.below hb7)
        rw [HLB.out] at hRb
        have HRb := Lib.hid hRb
        have HB7 := Lib.hid hb7
        obtain ⟨⟨a0, a1, a2, a3⟩, b0, b1, b2, b3⟩ := HZ.out w7 hb7
        clear hRb hb7 HRa z0 z1 z2 z3 hpl hpn1 hpn2
        refine hq.out ?_
        clear hq
        go_wp2_with (go_at_call 14; (with_reducible refine HRb.out.mono ?_); rintro e w8 ⟨rfl, hb8⟩; refine park ?_; intro q hq)
        have hB8 : Below W6.heap.size W6 w8 := HB7.out.trans (hb8.mono HB7.out.size)
        have HB8 := Lib.hid hB8
        clear hB8 hb8 HB7 HRb a0 a1 a2 a3 b0 b1 b2 b3
        refine hq.out ?_
        clear hq
        go_wp2_with fail
        obtain ⟨y, hy⟩ : ∃ y, bstr (atL n.keys lA) = y := ⟨_, rfl⟩
        have hyv : strV (atL n.keys lA) = .string y := by unfold strV; rw [hy]
        rw [hyv] at HK6
        have HJq : Hid (∀ w', Below W6.heap.size W6 w' → Calls Tryd.prog 25 #[Value.agg #[Value.bool lf, Value.slice kC lA ke, Value.slice vC nA.vals.length ve, Value.slice iC nA.kids.length ie], .string y, Value.agg #[Value.bool lf, Value.slice kD lB kg, Value.slice vD nB.vals.length vg, Value.slice iD nB.kids.length ig]] w' fun e w'' => ∃ kE kf vE vf iE jf, e = .returned (Value.tuple #[Value.agg #[Value.bool lf, Value.slice kE nk kf, Value.slice vE nv vf, Value.slice iE ni jf], Value.int IntKind.i64 0]) ∧ Hid (NodeOwn w'' w'.heap.size n kE kf vE vf iE jf ∧ Below w'.heap.size w' w'')) := fun w' hb => by
          have h := HJo.out w' kC ke vC ve iC ie kD kg vD vg iD ig (HA6.out.below hb) (HD6.out.below hb)
          rw [HLA.out, HLB.out, HMd.out.1, hy] at h
          exact h
        clear hy hyv HJo
        have hlk : lA < nk := HMd.out.2.1
        have hS0 : Hid (Below W6.heap.size W6 w8.drew) := Lib.hid HB8.out.drew
        refine Code.wp_mono (Q := fun e a' w' => e = Exit.normal ∧ ∃ t kE kf vE vf iE jf, a' = ⟨#[Value.agg #[Value.bool lf, Value.slice (some ⟨bk, ok, none⟩) nk kc, Value.slice vA nv vc, Value.slice iA ni ic], Value.pointer (some ⟨w.heap.size, 0, none⟩), Value.bool false, Value.pointer (some ⟨w3.heap.size, 0, none⟩), Value.pointer (some ⟨s, 0, none⟩), Value.pointer (some ⟨s + 1, 0, none⟩), Value.int IntKind.i64 0, Value.pointer (some ⟨t, 0, none⟩), Value.int IntKind.i64 0, undef, undef, undef, Value.bool true, Value.bool false, Value.agg #[Value.bool lf, Value.slice (some ⟨bk, ok, none⟩) nk kc, Value.slice vA nv vc, Value.slice iA ni ic], Value.bool false, Value.agg #[Value.bool lf, Value.slice (some ⟨bk, ok, none⟩) nk kc, Value.slice vA nv vc, Value.slice iA ni ic], Value.agg #[Value.bool lf, Value.slice kB nk kd, Value.slice vB nv vd, Value.slice iB ni id], Value.tuple #[Value.agg #[Value.bool lf, Value.slice kC lA ke, Value.slice vC nA.vals.length ve, Value.slice iC nA.kids.length ie], Value.agg #[Value.bool lf, Value.slice kD lB kg, Value.slice vD nB.vals.length vg, Value.slice iD nB.kids.length ig], Value.int IntKind.i64 0], Value.agg #[Value.bool lf, Value.slice kB nk kd, Value.slice vB nv vd, Value.slice iB ni id], Value.tuple #[Value.agg #[Value.bool lf, Value.slice kC lA ke, Value.slice vC nA.vals.length ve, Value.slice iC nA.kids.length ie], Value.agg #[Value.bool lf, Value.slice kD lB kg, Value.slice vD nB.vals.length vg, Value.slice iD nB.kids.length ig], Value.int IntKind.i64 0], Value.agg #[Value.bool lf, Value.slice kC lA ke, Value.slice vC nA.vals.length ve, Value.slice iC nA.kids.length ie], Value.agg #[Value.bool lf, Value.slice kD lB kg, Value.slice vD nB.vals.length vg, Value.slice iD nB.kids.length ig], Value.int IntKind.i64 0, Value.int IntKind.i64 0, Value.bool false, undef, undef, undef, undef, undef, undef, undef, undef, undef, Value.pointer (some ⟨s, 1, none⟩), Value.slice kC lA ke, Value.int IntKind.i64 (lA : Int), Value.bool false, Value.bool false, Value.pointer (some ⟨s + 1, 1, none⟩), Value.slice kD lB kg, Value.int IntKind.i64 (lB : Int), Value.bool false, Value.bool false, Value.bool false, Value.pointer (some ⟨s, 1, none⟩), Value.slice kC lA ke, Value.int IntKind.i64 (lA : Int), Value.pointer (some ⟨s + 1, 1, none⟩), Value.slice kD lB kg, Value.int IntKind.i64 (lB : Int), Value.int IntKind.i64 ((lA : Int) + (lB : Int)), Value.pointer (some ⟨w.heap.size, 1, none⟩), Value.slice (some ⟨bk, ok, none⟩) nk kc, Value.int IntKind.i64 (nk : Int), Value.bool false, Value.bool false, Value.bool false, Value.agg #[Value.bool lf, Value.slice kC lA ke, Value.slice vC nA.vals.length ve, Value.slice iC nA.kids.length ie], Value.bool true, Value.bool false, Value.bool false, Value.bool false, Value.agg #[Value.bool lf, Value.slice kD lB kg, Value.slice vD nB.vals.length vg, Value.slice iD nB.kids.length ig], Value.bool true, Value.bool false, Value.bool false, Value.tuple #[Value.agg #[Value.bool lf, Value.slice kE nk kf, Value.slice vE nv vf, Value.slice iE ni jf], Value.int IntKind.i64 0], Value.agg #[Value.bool lf, Value.slice kC lA ke, Value.slice vC nA.vals.length ve, Value.slice iC nA.kids.length ie], Value.pointer (some ⟨w.heap.size, 1, none⟩), Value.slice (some ⟨bk, ok, none⟩) nk kc, Value.pointer (some ⟨s, 1, none⟩), Value.slice kC lA ke, Value.int IntKind.i64 (lA : Int), Value.pointer (some ⟨bk, ok + lA, none⟩), Value.string y, Value.agg #[Value.bool lf, Value.slice kD lB kg, Value.slice vD nB.vals.length vg, Value.slice iD nB.kids.length ig], Value.tuple #[Value.agg #[Value.bool lf, Value.slice kE nk kf, Value.slice vE nv vf, Value.slice iE ni jf], Value.int IntKind.i64 0], Value.agg #[Value.bool lf, Value.slice kE nk kf, Value.slice vE nv vf, Value.slice iE ni jf], Value.int IntKind.i64 0, undef, undef, undef, undef, undef, undef, undef, undef, undef, undef, undef, undef, undef, undef, undef, undef, undef, undef, undef, undef, undef, undef, undef, undef, undef, undef, undef, undef, undef, undef, undef, undef, undef, undef, undef, undef, undef, undef, undef, undef, undef, undef], []⟩ ∧ Hid (Below W6.heap.size W6 w' ∧ NodeAt w' n kE kf vE vf iE jf ∧ w'.heap[t]? = some (Obj.cells #[Value.bool lf, Value.slice kE nk kf, Value.slice vE nv vf, Value.slice iE ni jf] 28 (0, 0)))) ?_ ?_
        · rintro e a' w9 ⟨rfl, t, kE, kf, vE, vf, iE, jf, rfl, h9⟩
          have HS9 := Lib.hid (HS0.out w9 _ _ _ _ _ _ _ _ _ _ _ _ h9.out.2.1 (H.out.below (HE6.out w9 h9.out.1).1))
          obtain ⟨t0, t1', t2', t3'⟩ := row4_cells h9.out.2.2
          obtain ⟨x0, x1, x2, x3⟩ := HX.out _ (HE6.out w9 h9.out.1).1
          have HB9 : Hid (Below W6.heap.size W6 w9) := Lib.hid h9.out.1
          clear h9 HJq hS0 HB8
          go_wp2_with (go_at_call 19; (with_reducible refine HS9.out.mono ?_); rintro e w10 ⟨rfl, hb10⟩; refine park ?_; intro q hq)
          have HB10 : Hid (Below W6.heap.size W6 w10) := Lib.hid (HB9.out.trans (hb10.out.mono HB9.out.size))
          clear t0 t1' t2' t3' x0 x1 x2 x3 HS9 hb10 HB9
          refine hq.out ?_
          clear hq
          obtain ⟨x0, x1, x2, x3⟩ := HX.out _ (HE6.out w10 HB10.out).1
          go_wp2_with fail
          go_loopw [92] (fun i wr => ∃ j : Nat, j ≤ nk ∧ i = .int .i64 (j : Int) ∧ Hid (Below W6.heap.size W6 wr ∧ ∀ i, i < j → (takenN n : Int) - (takenN (firstM (delM n i)) : Int) ≤ 97)) (fun i _ => nk - (intOf i).toNat)
          case atStart => exact ⟨0, Nat.zero_le _, rfl, HB10.out, fun i hi => absurd hi (Nat.not_lt_zero _)⟩
          case round =>
            obtain ⟨j, hj, rfl, HV⟩ := hrel
            clear x0 x1 x2 x3
            by_cases hlt : j < nk
            · have hjn : j < n.keys.length := by rw [HNL'.out.1]; exact hlt
              have HRj := Lib.hid (HRm.out wr j hjn (HE6.out wr HV.out.1).2.1)
              have HTj : Hid (∀ w' kC ke vC ve iC ie, NodeAt w' (firstM (delM n j)) kC ke vC ve iC ie → Calls Tryd.prog 16 #[.agg #[.bool lf, .slice kC (firstM (delM n j)).keys.length ke, .slice vC (firstM (delM n j)).vals.length ve, .slice iC (firstM (delM n j)).kids.length ie]] w' fun e w'' => e = .returned (.int .i64 (takenN (firstM (delM n j)) : Int)) ∧ Below w'.heap.size w' w'') := fun w' kC ke vC ve iC ie h => HTo.out w' j kC ke vC ve iC ie hjn h
              have hTj := HTd.out j hjn
              obtain ⟨T, hT⟩ : ∃ T : Int, (takenN n : Int) = T := ⟨_, rfl⟩
              obtain ⟨M, hM⟩ : ∃ M, firstM (delM n j) = M := ⟨_, rfl⟩
              have HV2 := HV.out.2
              have HM := Lib.hid hM
              have HT := Lib.hid hT
              rw [hM] at HRj HTj hTj
              obtain ⟨T1, hT1⟩ : ∃ T1 : Int, (takenN M : Int) = T1 := ⟨_, rfl⟩
              have HT1 := Lib.hid hT1
              obtain ⟨mk, hmk⟩ : ∃ k, M.keys.length = k := ⟨_, rfl⟩
              obtain ⟨mv, hmv⟩ : ∃ k, M.vals.length = k := ⟨_, rfl⟩
              obtain ⟨mi, hmi⟩ : ∃ k, M.kids.length = k := ⟨_, rfl⟩
              rw [hmk, hmv, hmi] at HRj HTj
              rw [hT1] at HTj hTj
              have tw2 : IntKind.i64.wrap (T - T1) = T - T1 := IntWalk.i64_in _ (by rw [hT] at hTn; have z0 : 0 ≤ T := (by omega); have z1 : 0 ≤ T1 := (by omega); omega)
              have tj : IntKind.i64.wrap ((j : Int) + 1) = (j : Int) + 1 := IntWalk.i64_in _ (by omega)
              obtain ⟨y0, y1, y2, y3⟩ := HY.out wr (HE6.out wr HV.out.1).2.2
              clear hT hM hT1 hmk hmv hmi HV2
              go_wp2_with (go_at_call 23; (with_reducible refine HRj.out.mono ?_); rintro e w12 ⟨kF, kg', vF, vg', iF, ig', rfl, h12⟩; refine park ?_; intro q hq)
              have hba : Below w12.heap.size w12 (w12.alloc (.cells #[.bool lf, .slice kF mk kg', .slice vF mv vg', .slice iF mi ig'] 28)) := (Below.refl _ _).alloc (Nat.le_refl _) _
              have hrow := heap_alloc_new w12 (.cells #[.bool lf, .slice kF mk kg', .slice vF mv vg', .slice iF mi ig'] 28)
              have hN13 := h12.out.1.below hba
              have hB12 : Below W6.heap.size W6 w12 := HV.out.1.trans (h12.out.2.mono HV.out.1.size)
              have hB13 := hB12.trans (hba.mono hB12.size)
              obtain ⟨W13, hW13⟩ : ∃ x, w12.alloc (.cells #[.bool lf, .slice kF mk kg', .slice vF mv vg', .slice iF mi ig'] 28) = x := ⟨_, rfl⟩
              rw [hW13] at hrow hN13 hB13
              have J1 : Hid (∀ w', Hid (Below W13.heap.size W13 w') → Calls Tryd.prog 16 #[.agg #[.bool lf, .slice kB nk kd, .slice vB nv vd, .slice iB ni id]] w' fun e w'' => e = .returned (.int .i64 T) ∧ Hid (Below W13.heap.size W13 w'')) := fun w' h => (HTx.out w' (HE6.out w' (hB13.trans (h.out.mono hB13.size))).2.1).mono fun e w'' ⟨h1, h2⟩ => ⟨by rw [← HT.out]; exact h1, h.out.trans (h2.mono h.out.size)⟩
              have J2 : Hid (∀ w', Hid (Below W13.heap.size W13 w') → Calls Tryd.prog 16 #[.agg #[.bool lf, .slice kF mk kg', .slice vF mv vg', .slice iF mi ig']] w' fun e w'' => e = .returned (.int .i64 T1) ∧ Hid (Below W13.heap.size W13 w'')) := fun w' h => (HTj.out w' _ _ _ _ _ _ (hN13.below h.out)).mono fun e w'' ⟨h1, h2⟩ => ⟨h1, h.out.trans (h2.mono h.out.size)⟩
              have HK : Hid (∀ w', Hid (Below W13.heap.size W13 w') → (w'.cell? ⟨w3.heap.size, 0, none⟩ = some (.bool lf) ∧ w'.cell? ⟨w3.heap.size, 1, none⟩ = some (.slice kB nk kd) ∧ w'.cell? ⟨w3.heap.size, 2, none⟩ = some (.slice vB nv vd) ∧ w'.cell? ⟨w3.heap.size, 3, none⟩ = some (.slice iB ni id)) ∧ (w'.cell? ⟨w12.heap.size, 0, none⟩ = some (.bool lf) ∧ w'.cell? ⟨w12.heap.size, 1, none⟩ = some (.slice kF mk kg') ∧ w'.cell? ⟨w12.heap.size, 2, none⟩ = some (.slice vF mv vg') ∧ w'.cell? ⟨w12.heap.size, 3, none⟩ = some (.slice iF mi ig'))) := fun w' h => ⟨HY.out w' (HE6.out w' (hB13.trans (h.out.mono hB13.size))).2.2, row4_cells ((h.out.block _ (Array.getElem?_eq_some_iff.1 hrow).1).trans hrow)⟩
              have HBel : Hid (∀ w', Hid (Below W13.heap.size W13 w') → Below W6.heap.size W6 w') := fun w' h => hB13.trans (h.out.mono hB13.size)
              obtain ⟨Wd, fx, hne, hfx, hxf, hx0⟩ := class_of (fun w' => Hid (Below W13.heap.size W13 w')) W13.drew (Lib.hid (Below.refl _ _).drew)
              have HFX := Lib.hid hfx
              have L1 : Hid (∀ x, Calls Tryd.prog 16 #[.agg #[.bool lf, .slice kB nk kd, .slice vB nv vd, .slice iB ni id]] (fx x) fun e w'' => e = .returned (.int .i64 T) ∧ ∃ y, w'' = fx y) := fun x => (J1.out _ (hfx x)).mono fun e w'' ⟨h1, h2⟩ => ⟨h1, hxf _ h2⟩
              have L2 : Hid (∀ x, Calls Tryd.prog 16 #[.agg #[.bool lf, .slice kF mk kg', .slice vF mv vg', .slice iF mi ig']] (fx x) fun e w'' => e = .returned (.int .i64 T1) ∧ ∃ y, w'' = fx y) := fun x => (J2.out _ (hfx x)).mono fun e w'' ⟨h1, h2⟩ => ⟨h1, hxf _ h2⟩
              have f0 : ∀ x, (fx x).cell? ⟨w3.heap.size, 0, none⟩ = some (.bool lf) := fun x => (HK.out _ (hfx x)).1.1
              have f1 : ∀ x, (fx x).cell? ⟨w3.heap.size, 1, none⟩ = some (.slice kB nk kd) := fun x => (HK.out _ (hfx x)).1.2.1
              have f2 : ∀ x, (fx x).cell? ⟨w3.heap.size, 2, none⟩ = some (.slice vB nv vd) := fun x => (HK.out _ (hfx x)).1.2.2.1
              have f3 : ∀ x, (fx x).cell? ⟨w3.heap.size, 3, none⟩ = some (.slice iB ni id) := fun x => (HK.out _ (hfx x)).1.2.2.2
              have f4 : ∀ x, (fx x).cell? ⟨w12.heap.size, 0, none⟩ = some (.bool lf) := fun x => (HK.out _ (hfx x)).2.1
              have f5 : ∀ x, (fx x).cell? ⟨w12.heap.size, 1, none⟩ = some (.slice kF mk kg') := fun x => (HK.out _ (hfx x)).2.2.1
              have f6 : ∀ x, (fx x).cell? ⟨w12.heap.size, 2, none⟩ = some (.slice vF mv vg') := fun x => (HK.out _ (hfx x)).2.2.2.1
              have f7 : ∀ x, (fx x).cell? ⟨w12.heap.size, 3, none⟩ = some (.slice iF mi ig') := fun x => (HK.out _ (hfx x)).2.2.2.2
              have hx0' := hx0
              rw [← hW13] at hx0'
              have HX0 := Lib.hid hx0'
              clear hfx hxf hx0 hx0' HK J1 J2 hW13 hrow hN13 hB12 hB13 hba h12 y0 y1 y2 y3 HRj HTj
              obtain ⟨gT, hgT⟩ : ∃ b, decide (T - T1 > 97) = b := ⟨_, rfl⟩
              refine hq.out ?_
              clear hq
              go_wp2_with fail
              refine wp_region_class_lit fx (by kernel_rfl) (by kernel_rfl) HX0.out ?_
              repeat (go_big_quiet_step (first | (go_at_call 16; first | (with_reducible exact (L1.out _)) | (with_reducible exact (L2.out _)))))
              refine wpQuiet_nil ?_
              intro w14 hw14
              obtain ⟨x14, rfl⟩ := hw14
              clear f0 f1 f2 f3 f4 f5 f6 f7 L1 L2 HX0
              have HB14 : Hid (Below W6.heap.size W6 (fx x14)) := Lib.hid (HBel.out _ (HFX.out x14))
              cases gT
              · go_wp2_with fail
                go_roundw
                case rel =>
                  refine ⟨j + 1, Nat.succ_le_of_lt hlt, congrArg (Value.int .i64) (Int.natCast_succ j).symm, HB14.out, fun i hi => ?_⟩
                  rcases Nat.lt_or_ge i j with h | h
                  · exact HV.out.2 i h
                  · obtain rfl : i = j := by omega
                    rw [HM.out, HT.out, HT1.out]
                    have := of_decide_eq_false hgT
                    omega
                case measure =>
                  simp [intOf]; omega
              · go_wp2_with fail
                go_ret
                exact ⟨by simp, HB.out.trans ((HE6.out _ HB14.out).1.mono HB.out.size)⟩
            · obtain rfl : nk = j := by omega
              have hall : ∀ i, i < n.keys.length → (takenN n : Int) - (takenN (firstM (delM n i)) : Int) ≤ 97 := fun i hi => HV.out.2 i (by rw [← HNL'.out.1]; exact hi)
              have HBv : Hid (Below W6.heap.size W6 wr) := Lib.hid HV.out.1
              have HTv := Lib.hid (HTx.out wr (HE6.out wr HV.out.1).2.1)
              obtain ⟨y0, y1, y2, y3⟩ := HY.out wr (HE6.out wr HV.out.1).2.2
              by_cases h341 : takenN n ≤ 341
              · obtain ⟨ha, hb⟩ := HEnd.out h341 hall
                have dT : decide ((takenN n : Int) > 341) = false := decide_eq_false (by omega)
                have HFa : Hid (∀ w', Below W6.heap.size W6 w' → Calls Tryd.prog 18 #[.agg #[.bool lf, .slice kC lA ke, .slice vC nA.vals.length ve, .slice iC nA.kids.length ie]] w' fun e w'' => e = .returned (.bool true) ∧ Below w'.heap.size w' w'') := fun w' h => by
                  have hh := HFt.out w' nA kC ke vC ve iC ie (.inl rfl) (HA6.out.below h)
                  rw [HLA.out, ha] at hh
                  exact hh
                have HFb : Hid (∀ w', Below W6.heap.size W6 w' → Calls Tryd.prog 18 #[.agg #[.bool lf, .slice kD lB kg, .slice vD nB.vals.length vg, .slice iD nB.kids.length ig]] w' fun e w'' => e = .returned (.bool true) ∧ Below w'.heap.size w' w'') := fun w' h => by
                  have hh := HFt.out w' nB kD kg vD vg iD ig (.inr rfl) (HD6.out.below h)
                  rw [HLB.out, hb] at hh
                  exact hh
                clear hall ha hb HV h341
                go_wp2_with (go_at_call 16; (with_reducible refine HTv.out.mono ?_); rintro e w15 ⟨rfl, hb15⟩; refine park ?_; intro q hq)
                have HB15 : Hid (Below W6.heap.size W6 w15) := Lib.hid (HBv.out.trans (hb15.mono HBv.out.size))
                obtain ⟨⟨a0, a1, a2, a3⟩, b0, b1, b2, b3⟩ := HZ.out w15 HB15.out
                have HFa' := Lib.hid (HFa.out w15 HB15.out)
                clear hb15 HBv HTv y0 y1 y2 y3 HFa
                refine hq.out ?_
                clear hq
                go_wp2_with (go_at_call 18; (with_reducible refine HFa'.out.mono ?_); rintro e w16 ⟨rfl, hb16⟩; refine park ?_; intro q hq)
                have HB16 : Hid (Below W6.heap.size W6 w16) := Lib.hid (HB15.out.trans (hb16.mono HB15.out.size))
                clear a0 a1 a2 a3 b0 b1 b2 b3
                obtain ⟨⟨a0, a1, a2, a3⟩, b0, b1, b2, b3⟩ := HZ.out w16 HB16.out
                have HFb' := Lib.hid (HFb.out w16 HB16.out)
                clear hb16 HB15 HFa' HFb
                refine hq.out ?_
                clear hq
                go_wp2_with (go_at_call 18; (with_reducible refine HFb'.out.mono ?_); rintro e w17 ⟨rfl, hb17⟩; have HB17 : Hid (Below W6.heap.size W6 w17) := Lib.hid (HB16.out.trans (hb17.mono HB16.out.size)); clear hb17)
                go_ret
                exact ⟨by simp, HB.out.trans ((HE6.out _ HB17.out).1.mono HB.out.size)⟩
              · have dT : decide ((takenN n : Int) > 341) = true := decide_eq_true (by omega)
                clear hall HV
                go_wp2_with (go_at_call 16; (with_reducible refine HTv.out.mono ?_); rintro e w15 ⟨rfl, hb15⟩; have HB15 : Hid (Below W6.heap.size W6 w15) := Lib.hid (HBv.out.trans (hb15.mono HBv.out.size)); clear hb15)
                go_ret
                exact ⟨by simp, HB.out.trans ((HE6.out _ HB15.out).1.mono HB.out.size)⟩
        · skip
          refine wp_region_M (fun w' => Hid (Below W6.heap.size W6 w')) 15 (by as_aux_lemma => kernel_rfl) ?_
          refine mTake (i := 0) (v := Value.agg #[Value.bool lf, Value.slice kC lA ke, Value.slice vC nA.vals.length ve, Value.slice iC nA.kids.length ie]) (some 69) [0, 9, 10, 12, 15] (by as_aux_lemma => kernel_rfl) rfl rfl (by decide) (by as_aux_lemma => kernel_rfl) rfl rfl (by as_aux_lemma => kernel_rfl) (by as_aux_lemma => kernel_rfl) (by as_aux_lemma => kernel_rfl) (fun _ _ _ h => nomatch h.1) (Or.inl ⟨by rfl, fun w h => by ((obtain ⟨⟨h0, h1, h2, h3⟩, h4, h5, h6, h7⟩ := HZ.out _ h.out; obtain ⟨k1, k2⟩ := HK6.out _ h.out); go_simp)⟩) hS0 ?_
          try simp only [Act.put, List.setIfInBounds_toArray, List.set_cons_zero, List.set_cons_succ]
          refine mAnyTake (i := 1) (v := Value.pointer (some ⟨w.heap.size, 1, none⟩)) (some 70) [1, 2, 6, 7, 9, 10, 12, 15] (by as_aux_lemma => kernel_rfl) rfl rfl (by decide) (by as_aux_lemma => kernel_rfl) rfl rfl (by as_aux_lemma => kernel_rfl) (by as_aux_lemma => kernel_rfl) (by as_aux_lemma => kernel_rfl) (fun _ _ _ h => nomatch h.1) (Or.inl ⟨by rfl, fun w => by go_simp⟩) hS0 ?_
          try simp only [Act.put, List.setIfInBounds_toArray, List.set_cons_zero, List.set_cons_succ]
          refine mTake (i := 2) (v := Value.slice (some ⟨bk, ok, none⟩) nk kc) (some 71) [2, 6, 7, 9, 10, 12, 15] (by as_aux_lemma => kernel_rfl) rfl rfl (by decide) (by as_aux_lemma => kernel_rfl) rfl rfl (by as_aux_lemma => kernel_rfl) (by as_aux_lemma => kernel_rfl) (by as_aux_lemma => kernel_rfl) (fun _ _ _ h => nomatch h.1) (Or.inl ⟨by rfl, fun w h => by ((obtain ⟨⟨h0, h1, h2, h3⟩, h4, h5, h6, h7⟩ := HZ.out _ h.out; obtain ⟨k1, k2⟩ := HK6.out _ h.out); go_simp)⟩) hS0 ?_
          try simp only [Act.put, List.setIfInBounds_toArray, List.set_cons_zero, List.set_cons_succ]
          refine mAnyTake (i := 3) (v := Value.pointer (some ⟨s, 1, none⟩)) (some 72) [3, 4, 5, 6, 7, 9, 10, 12, 15] (by as_aux_lemma => kernel_rfl) rfl rfl (by decide) (by as_aux_lemma => kernel_rfl) rfl rfl (by as_aux_lemma => kernel_rfl) (by as_aux_lemma => kernel_rfl) (by as_aux_lemma => kernel_rfl) (fun _ _ _ h => nomatch h.1) (Or.inl ⟨by rfl, fun w => by go_simp⟩) hS0 ?_
          try simp only [Act.put, List.setIfInBounds_toArray, List.set_cons_zero, List.set_cons_succ]
          refine mTake (i := 4) (v := Value.slice kC lA ke) (some 73) [4, 5, 6, 7, 9, 10, 12, 15] (by as_aux_lemma => kernel_rfl) rfl rfl (by decide) (by as_aux_lemma => kernel_rfl) rfl rfl (by as_aux_lemma => kernel_rfl) (by as_aux_lemma => kernel_rfl) (by as_aux_lemma => kernel_rfl) (fun _ _ _ h => nomatch h.1) (Or.inl ⟨by rfl, fun w h => by ((obtain ⟨⟨h0, h1, h2, h3⟩, h4, h5, h6, h7⟩ := HZ.out _ h.out; obtain ⟨k1, k2⟩ := HK6.out _ h.out); go_simp)⟩) hS0 ?_
          try simp only [Act.put, List.setIfInBounds_toArray, List.set_cons_zero, List.set_cons_succ]
          refine mAnyTake (i := 5) (v := Value.int IntKind.i64 (lA : Int)) (some 74) [5, 6, 7, 9, 10, 12, 15] (by as_aux_lemma => kernel_rfl) rfl rfl (by decide) (by as_aux_lemma => kernel_rfl) rfl rfl (by as_aux_lemma => kernel_rfl) (by as_aux_lemma => kernel_rfl) (by as_aux_lemma => kernel_rfl) (fun _ _ _ h => nomatch h.1) (Or.inl ⟨by rfl, fun w => by go_simp⟩) hS0 ?_
          try simp only [Act.put, List.setIfInBounds_toArray, List.set_cons_zero, List.set_cons_succ]
          refine mAnyTake (i := 6) (v := Value.pointer (some ⟨bk, ok + lA, none⟩)) (some 75) [6, 7, 9, 10, 12, 15] (by as_aux_lemma => kernel_rfl) rfl rfl (by decide) (by as_aux_lemma => kernel_rfl) rfl rfl (by as_aux_lemma => kernel_rfl) (by as_aux_lemma => kernel_rfl) (by as_aux_lemma => kernel_rfl) (fun _ _ _ h => nomatch h.1) (Or.inl ⟨by rfl, fun w => by go_simp⟩) hS0 ?_
          try simp only [Act.put, List.setIfInBounds_toArray, List.set_cons_zero, List.set_cons_succ]
          refine mTake (i := 7) (v := Value.string y) (some 76) [7, 9, 10, 12, 15] (by as_aux_lemma => kernel_rfl) rfl rfl (by decide) (by as_aux_lemma => kernel_rfl) rfl rfl (by as_aux_lemma => kernel_rfl) (by as_aux_lemma => kernel_rfl) (by as_aux_lemma => kernel_rfl) (fun _ _ _ h => nomatch h.1) (Or.inl ⟨by rfl, fun w h => by ((obtain ⟨⟨h0, h1, h2, h3⟩, h4, h5, h6, h7⟩ := HZ.out _ h.out; obtain ⟨k1, k2⟩ := HK6.out _ h.out); go_simp)⟩) hS0 ?_
          try simp only [Act.put, List.setIfInBounds_toArray, List.set_cons_zero, List.set_cons_succ]
          refine mTake (i := 8) (v := Value.agg #[Value.bool lf, Value.slice kD lB kg, Value.slice vD nB.vals.length vg, Value.slice iD nB.kids.length ig]) (some 77) [8, 9, 10, 12, 15] (by as_aux_lemma => kernel_rfl) rfl rfl (by decide) (by as_aux_lemma => kernel_rfl) rfl rfl (by as_aux_lemma => kernel_rfl) (by as_aux_lemma => kernel_rfl) (by as_aux_lemma => kernel_rfl) (fun _ _ _ h => nomatch h.1) (Or.inl ⟨by rfl, fun w h => by ((obtain ⟨⟨h0, h1, h2, h3⟩, h4, h5, h6, h7⟩ := HZ.out _ h.out; obtain ⟨k1, k2⟩ := HK6.out _ h.out); go_simp)⟩) hS0 ?_
          try simp only [Act.put, List.setIfInBounds_toArray, List.set_cons_zero, List.set_cons_succ]
          refine mTwo (i := 9) (j := 13) (by as_aux_lemma => kernel_rfl) rfl rfl (fun K hK => ?_) (fun K hK => ?_)
          · have HK := Lib.hid hK
            clear hK
            rw [if_pos (by rfl)]
            refine wp_goCall 25 _ _ (by rfl) Tryd.func25 (by kernel_rfl) (by kernel_rfl) _ (by simp [Act.eval]) (HJq.out _ hS0.out) ?_
            rintro e w9 ⟨kE, kf, vE, vf, iE, jf, rfl, h9⟩
            refine ⟨_, rfl, ?_⟩
            have hS9 : Hid (Below W6.heap.size W6 w9) := Lib.hid (hS0.out.trans (h9.out.2.mono hS0.out.size))
            refine HK.out _ _ (.inr hS9) ?_
            clear HK
            try simp only [Act.put, List.setIfInBounds_toArray, List.set_cons_zero, List.set_cons_succ]
            refine mAnyTake (i := 10) (v := Value.tuple #[Value.agg #[Value.bool lf, Value.slice kE nk kf, Value.slice vE nv vf, Value.slice iE ni jf], Value.int IntKind.i64 0]) (some 68) [10, 12, 15] (by as_aux_lemma => kernel_rfl) rfl rfl (by decide) (by as_aux_lemma => kernel_rfl) rfl rfl (by as_aux_lemma => kernel_rfl) (by as_aux_lemma => kernel_rfl) (by as_aux_lemma => kernel_rfl) (fun _ _ _ h => nomatch h.1) (Or.inl ⟨by rfl, fun w => by go_simp⟩) hS9 ?_
            try simp only [Act.put, List.setIfInBounds_toArray, List.set_cons_zero, List.set_cons_succ]
            refine mAnyTake (i := 11) (v := Value.agg #[Value.bool lf, Value.slice kE nk kf, Value.slice vE nv vf, Value.slice iE ni jf]) (some 79) [11, 14, 15] (by as_aux_lemma => kernel_rfl) rfl rfl (by decide) (by as_aux_lemma => kernel_rfl) rfl rfl (by as_aux_lemma => kernel_rfl) (by as_aux_lemma => kernel_rfl) (by as_aux_lemma => kernel_rfl) (fun _ _ _ h => nomatch h.1) (Or.inl ⟨by rfl, fun w => by go_simp⟩) hS9 ?_
            try simp only [Act.put, List.setIfInBounds_toArray, List.set_cons_zero, List.set_cons_succ]
            refine mAnyTake (i := 12) (v := Value.int IntKind.i64 0) (some 80) [12, 15] (by as_aux_lemma => kernel_rfl) rfl rfl (by decide) (by as_aux_lemma => kernel_rfl) rfl rfl (by as_aux_lemma => kernel_rfl) (by as_aux_lemma => kernel_rfl) (by as_aux_lemma => kernel_rfl) (fun _ _ _ h => nomatch h.1) (Or.inl ⟨by rfl, fun w => by go_simp⟩) hS9 ?_
            try simp only [Act.put, List.setIfInBounds_toArray, List.set_cons_zero, List.set_cons_succ]
            refine mOne (i := 13) (by as_aux_lemma => kernel_rfl) rfl (fun K hK => ?_)
            have HK := Lib.hid hK
            clear hK
            rw [if_pos (by rfl)]
            have hba : Below w9.heap.size w9 (w9.alloc (.cells #[.bool false, .slice none 0 0, .slice none 0 0, .slice none 0 0] 28)) := (Below.refl _ _).alloc (Nat.le_refl _) _
            have hS10 : Hid (Below W6.heap.size W6 (w9.alloc (.cells #[.bool false, .slice none 0 0, .slice none 0 0, .slice none 0 0] 28))) := Lib.hid (hS9.out.trans (hba.mono hS9.out.size))
            have hz := heap_alloc_new w9 (.cells #[.bool false, .slice none 0 0, .slice none 0 0, .slice none 0 0] 28)
            have hO := h9.out.1.below hba
            go_wp2_with fail
            refine HK.out _ _ (.inr hS10) ?_
            clear HK
            try simp only [Act.put, List.setIfInBounds_toArray, List.set_cons_zero, List.set_cons_succ]
            refine mOne (i := 14) (by as_aux_lemma => kernel_rfl) rfl (fun K hK => ?_)
            have HK := Lib.hid hK
            clear hK
            rw [if_pos (by rfl)]
            refine wp_storeRow 28 (.tmp 7) (.tmp 79) rfl w9.heap.size (by rfl) [.bool lf, .slice kE nk kf, .slice vE nv vf, .slice iE ni jf] [.bool false, .slice none 0 0, .slice none 0 0, .slice none 0 0] (by rfl) (by kernel_rfl) rfl (by intro u hu; simp only [List.mem_cons, List.mem_nil_iff, or_false] at hu; rcases hu with rfl | rfl | rfl | rfl <;> rfl) hz ?_
            intro w11 h11 hk11
            have hN11 := (hO.keptN hk11 (fun k cs T fz e hc => by have e' : k = _ := e; rw [e', hz] at hc; injection hc with hc; injection hc with _ h4 _; exact h4.symm)).at'
            have hB11 : Hid (Below W6.heap.size W6 w11) := Lib.hid (hS10.out.trans (hk11.below (Below.sizeE hS10.out rfl |> fun h => h) (fun k hk e => by have e' : k = _ := e; have := hS9.out.size; omega)))
            refine HK.out _ _ (.inr hB11) ?_
            clear HK
            try simp only [Act.put, List.setIfInBounds_toArray, List.set_cons_zero, List.set_cons_succ]
            refine mOne (i := 15) (by as_aux_lemma => kernel_rfl) rfl (fun K hK => ?_)
            have HK := Lib.hid hK
            clear hK
            rw [if_pos (by rfl)]
            go_wp2_with fail
            refine HK.out _ _ (by simp) ?_
            clear HK
            try simp only [Act.put, List.setIfInBounds_toArray, List.set_cons_zero, List.set_cons_succ]
            refine mDone (by as_aux_lemma => kernel_rfl) ?_ _
            exact ⟨rfl, w9.heap.size, kE, kf, vE, vf, iE, jf, rfl, Lib.hid ⟨hB11.out, hN11, h11⟩⟩
          · have HK := Lib.hid hK
            clear hK
            rw [if_pos (by rfl)]
            have hba : Below w8.drew.heap.size w8.drew (w8.drew.alloc (.cells #[.bool false, .slice none 0 0, .slice none 0 0, .slice none 0 0] 28)) := (Below.refl _ _).alloc (Nat.le_refl _) _
            have hS9 : Hid (Below W6.heap.size W6 (w8.drew.alloc (.cells #[.bool false, .slice none 0 0, .slice none 0 0, .slice none 0 0] 28))) := Lib.hid (hS0.out.trans (hba.mono hS0.out.size))
            have hz9 := heap_alloc_new w8.drew (.cells #[.bool false, .slice none 0 0, .slice none 0 0, .slice none 0 0] 28)
            go_wp2_with fail
            refine HK.out _ _ (.inr hS9) ?_
            clear HK
            try simp only [Act.put, List.setIfInBounds_toArray, List.set_cons_zero, List.set_cons_succ]
            refine mOne (i := 9) (by as_aux_lemma => kernel_rfl) rfl (fun K hK => ?_)
            have HK := Lib.hid hK
            clear hK
            rw [if_pos (by rfl)]
            refine wp_goCall 25 _ _ (by rfl) Tryd.func25 (by kernel_rfl) (by kernel_rfl) _ (by simp [Act.eval]) (HJq.out _ hS9.out) ?_
            rintro e w10 ⟨kE, kf, vE, vf, iE, jf, rfl, h9⟩
            refine ⟨_, rfl, ?_⟩
            have hS10 : Hid (Below W6.heap.size W6 w10) := Lib.hid (hS9.out.trans (h9.out.2.mono hS9.out.size))
            have hz := (h9.out.2.block _ (Array.getElem?_eq_some_iff.1 hz9).1).trans hz9
            have hO := h9.out.1
            refine HK.out _ _ (.inr hS10) ?_
            clear HK
            try simp only [Act.put, List.setIfInBounds_toArray, List.set_cons_zero, List.set_cons_succ]
            refine mAnyTake (i := 10) (v := Value.tuple #[Value.agg #[Value.bool lf, Value.slice kE nk kf, Value.slice vE nv vf, Value.slice iE ni jf], Value.int IntKind.i64 0]) (some 68) [10, 12, 15] (by as_aux_lemma => kernel_rfl) rfl rfl (by decide) (by as_aux_lemma => kernel_rfl) rfl rfl (by as_aux_lemma => kernel_rfl) (by as_aux_lemma => kernel_rfl) (by as_aux_lemma => kernel_rfl) (fun _ _ _ h => nomatch h.1) (Or.inl ⟨by rfl, fun w => by go_simp⟩) hS10 ?_
            try simp only [Act.put, List.setIfInBounds_toArray, List.set_cons_zero, List.set_cons_succ]
            refine mAnyTake (i := 11) (v := Value.agg #[Value.bool lf, Value.slice kE nk kf, Value.slice vE nv vf, Value.slice iE ni jf]) (some 79) [11, 14, 15] (by as_aux_lemma => kernel_rfl) rfl rfl (by decide) (by as_aux_lemma => kernel_rfl) rfl rfl (by as_aux_lemma => kernel_rfl) (by as_aux_lemma => kernel_rfl) (by as_aux_lemma => kernel_rfl) (fun _ _ _ h => nomatch h.1) (Or.inl ⟨by rfl, fun w => by go_simp⟩) hS10 ?_
            try simp only [Act.put, List.setIfInBounds_toArray, List.set_cons_zero, List.set_cons_succ]
            refine mAnyTake (i := 12) (v := Value.int IntKind.i64 0) (some 80) [12, 15] (by as_aux_lemma => kernel_rfl) rfl rfl (by decide) (by as_aux_lemma => kernel_rfl) rfl rfl (by as_aux_lemma => kernel_rfl) (by as_aux_lemma => kernel_rfl) (by as_aux_lemma => kernel_rfl) (fun _ _ _ h => nomatch h.1) (Or.inl ⟨by rfl, fun w => by go_simp⟩) hS10 ?_
            try simp only [Act.put, List.setIfInBounds_toArray, List.set_cons_zero, List.set_cons_succ]
            refine mOne (i := 14) (by as_aux_lemma => kernel_rfl) rfl (fun K hK => ?_)
            have HK := Lib.hid hK
            clear hK
            rw [if_pos (by rfl)]
            refine wp_storeRow 28 (.tmp 7) (.tmp 79) rfl w8.drew.heap.size (by rfl) [.bool lf, .slice kE nk kf, .slice vE nv vf, .slice iE ni jf] [.bool false, .slice none 0 0, .slice none 0 0, .slice none 0 0] (by rfl) (by kernel_rfl) rfl (by intro u hu; simp only [List.mem_cons, List.mem_nil_iff, or_false] at hu; rcases hu with rfl | rfl | rfl | rfl <;> rfl) hz ?_
            intro w11 h11 hk11
            have hN11 := (hO.keptN hk11 (fun k cs T fz e hc => by have e' : k = _ := e; rw [e', hz] at hc; injection hc with hc; injection hc with _ h4 _; exact h4.symm)).at'
            have hB11 : Hid (Below W6.heap.size W6 w11) := Lib.hid (hS10.out.trans (hk11.below (Below.sizeE hS10.out rfl |> fun h => h) (fun k hk e => by have e' : k = _ := e; have := hS0.out.size; omega)))
            refine HK.out _ _ (.inr hB11) ?_
            clear HK
            try simp only [Act.put, List.setIfInBounds_toArray, List.set_cons_zero, List.set_cons_succ]
            refine mOne (i := 15) (by as_aux_lemma => kernel_rfl) rfl (fun K hK => ?_)
            have HK := Lib.hid hK
            clear hK
            rw [if_pos (by rfl)]
            go_wp2_with fail
            refine HK.out _ _ (by simp) ?_
            clear HK
            try simp only [Act.put, List.setIfInBounds_toArray, List.set_cons_zero, List.set_cons_succ]
            refine mDone (by as_aux_lemma => kernel_rfl) ?_ _
            exact ⟨rfl, w8.drew.heap.size, kE, kf, vE, vf, iE, jf, rfl, Lib.hid ⟨hB11.out, hN11, h11⟩⟩
      · have HCt := Lib.hid (Cut_none HN4.out ⟨hR, by omega⟩ HNL.out)
        have hRx := HRx.out
        rw [rightB_true hR] at hRx
        have HRy := Lib.hid hRx
        rw [HNL'.out.1, HNL'.out.2.1, HNL'.out.2.2.1, HNL'.out.2.2.2] at HCt
        have h2' : nk < 2 := by rw [← HNL'.out.1]; omega
        clear hRx HRx hR h2
        refine hq.out ?_
        clear hq
        go_wp2_with (go_at_call 24; (with_reducible refine HCt.out.mono ?_); rintro e w5 ⟨rfl, hb5⟩; refine park ?_; intro q hq)
        rw [HW4.out] at hb5
        have hbb : Below w5.heap.size w5 ((w5.alloc (.cells #[.bool false, .slice none 0 0, .slice none 0 0, .slice none 0 0] 28)).alloc (.cells #[.bool false, .slice none 0 0, .slice none 0 0, .slice none 0 0] 28)) := ((Below.refl _ _).alloc (Nat.le_refl _) _).alloc (by simp) _
        have hB5 : Below W4.heap.size W4 ((w5.alloc (.cells #[.bool false, .slice none 0 0, .slice none 0 0, .slice none 0 0] 28)).alloc (.cells #[.bool false, .slice none 0 0, .slice none 0 0, .slice none 0 0] 28)) := hb5.out.trans (hbb.mono hb5.out.size)
        have HB5 := Lib.hid hB5
        have HR5 := Lib.hid (HRy.out _ hB5)
        obtain ⟨y0, y1, y2, y3⟩ := HY.out _ hb5.out
        have hpl : w3.heap.size < w5.heap.size := by have h1 := hb5.out.size; rw [HSz4.out] at h1; omega
        have hpn1 : ¬ w3.heap.size = w5.heap.size := by omega
        have hpn2 : ¬ w3.heap.size = w5.heap.size + 1 := by omega
        clear hbb hb5 hB5 HCt HRy
        refine hq.out ?_
        clear hq
        go_wp2_with (go_at_call 14; (with_reducible refine HR5.out.mono ?_); rintro e w6 ⟨rfl, hb6⟩; refine park ?_; intro q hq)
        have hE6 := HE.out w6 (HB5.out.trans (hb6.mono HB5.out.size))
        obtain ⟨z0, z1, z2, z3⟩ := HX.out _ hE6.1
        have HE6 := Lib.hid hE6
        clear hE6 hb6
        refine hq.out ?_
        clear hq
        go_wp2_with fail
        go_ret
        exact ⟨ret_bool (by simp; omega), HB.out.trans (HE6.out.1.mono HB.out.size)⟩
    · have HCt := Lib.hid (Cut_form HN4.out hR HNL.out)
      have hRx := HRx.out
      rw [rightB_false hR] at hRx
      have HRy := Lib.hid hRx
      rw [HNL'.out.1, HNL'.out.2.1, HNL'.out.2.2.1, HNL'.out.2.2.2] at HCt
      clear hRx HRx hR
      refine hq.out ?_
      clear hq
      go_wp2_with (go_at_call 24; (with_reducible refine HCt.out.mono ?_); rintro e w5 ⟨rfl, hb5⟩; refine park ?_; intro q hq)
      rw [HW4.out] at hb5
      have hbb : Below w5.heap.size w5 ((w5.alloc (.cells #[.bool false, .slice none 0 0, .slice none 0 0, .slice none 0 0] 28)).alloc (.cells #[.bool false, .slice none 0 0, .slice none 0 0, .slice none 0 0] 28)) := ((Below.refl _ _).alloc (Nat.le_refl _) _).alloc (by simp) _
      have hB5 : Below W4.heap.size W4 ((w5.alloc (.cells #[.bool false, .slice none 0 0, .slice none 0 0, .slice none 0 0] 28)).alloc (.cells #[.bool false, .slice none 0 0, .slice none 0 0, .slice none 0 0] 28)) := hb5.out.trans (hbb.mono hb5.out.size)
      have HB5 := Lib.hid hB5
      have HR5 := Lib.hid (HRy.out _ hB5)
      obtain ⟨y0, y1, y2, y3⟩ := HY.out _ hb5.out
      have hpl : w3.heap.size < w5.heap.size := by have h1 := hb5.out.size; rw [HSz4.out] at h1; omega
      have hpn1 : ¬ w3.heap.size = w5.heap.size := by omega
      have hpn2 : ¬ w3.heap.size = w5.heap.size + 1 := by omega
      clear hbb hb5 hB5 HCt HRy
      refine hq.out ?_
      clear hq
      go_wp2_with (go_at_call 14; (with_reducible refine HR5.out.mono ?_); rintro e w6 ⟨rfl, hb6⟩; have hE6 := Lib.hid (HE.out w6 (HB5.out.trans (hb6.mono HB5.out.size))); clear hb6)
      go_ret
      exact ⟨rfl, HB.out.trans (hE6.out.1.mono HB.out.size)⟩
  · go_wp2_with fail
    go_ret
    exact ⟨rfl, HB.out.trans (hB2.out.mono HB.out.size)⟩
end Go.Proofs.YthpbioffjapmmaaDoor
namespace Go.Proofs.YthpbioffjapmmaaDoor.nodeHalves
open Go.ChangeShapes Go.WideShapes Go.ChangeAt Go.RowKit Go.Proofs.YthpbioffjapmmaaDoor
open Go.ChangeMaps (open_string shut_string)
set_option linter.unusedVariables false
set_option linter.unusedSimpArgs false
theorem own : ownKnob Tryd.prog.godebug = none := by kernel_rfl
theorem laidOut : laidOutB Tryd.prog = true := by kernel_rfl
theorem door_met (os : Os) (args : Array Value) : laidMetH Tryd.prog Rows.nodeHalvesRow.laid ((World.laidAll Tryd.prog os Rows.nodeHalvesRow.laid).forCall (fun _ _ => 0) ⟨#[], args, []⟩).memory :=
  laidMetH_of_parts (laidMet_laidAll args (by kernel_rfl) (by kernel_rfl)) (by kernel_rfl)
set_option maxRecDepth 100000 in
theorem lifted (os : Os) (started : os.Started) (H : Type) (enc : TypeId × Value → H) :
    ReturnsInHanded {} Tryd.checked os 6 .any (fun w args => (Rows.nodeHalvesSpec.pre enc Tryd.prog Tryd.f6 Rows.nodeHalvesRow.domain false w args ∧ laidMetH Tryd.prog Rows.nodeHalvesRow.laid w) ∧ sizedMet enc Tryd.prog Tryd.f6 (OpenSpec.ofChange Rows.nodeHalvesSpec) false w args) (Rows.nodeHalvesSpec.post enc Tryd.prog Tryd.f6 false true false false) := by
  refine returnsInHanded_of_change_and (C := Tryd.checked) (X := fun w _ => laidMetH Tryd.prog Rows.nodeHalvesRow.laid w) (fun _ _ _ hh h => h.of_heap hh) own started (by kernel_rfl) Tryd.func6
    (ChangeSpec.witness_shaped (enc := enc) (C := Tryd.checked) (os := os) (X := fun w _ => laidMetH Tryd.prog Rows.nodeHalvesRow.laid w) false (World.laidAll Tryd.prog os Rows.nodeHalvesRow.laid) #[.agg #[.bool false, .slice none 0 0, .slice none 0 0, .slice none 0 0]] 8 (World.laidAll_os _ _ _) (World.shaped_of_RefB (by kernel_rfl) (by kernel_rfl)) (by kernel_rfl) (by kernel_rfl) (by kernel_rfl) (door_met os _)) ?_
  intro W base args ds gs before hval0 hW hcnd hsz0 hL _
  have hsz : (DataW.weightsEach Tryd.prog (Tryd.f6.params.toList ++ Rows.nodeHalvesSpec.plain.varTypes Tryd.prog) (ds ++ gs)).all (· ≤ reachBytes) = true := hsz0
  have hval : ∀ (j : Nat) t v, Tryd.f6.params[j]? = some t → args[j]? = some v → Value.okWide Tryd.prog W .any base t v := hval0
  have hW' := hW
  obtain ⟨p, q, hA0, hV, rfl, hfz, hnd⟩ := hW
  have hA : DataW.TrodAll enc Tryd.prog W 0 (fun _ => true) true Tryd.f6.params.toList args.toList ds p := hA0
  rw [Tryd.params6] at hA hval hsz
  obtain ⟨v0, vs0, d0, ds0, p0, q0, hargs, rfl, rfl, h0, r0⟩ := trodAll_cons hA
  obtain ⟨rfl, rfl, rfl⟩ := trodAll_nil r0
  obtain rfl : args = #[v0] := by cases args; simp_all
  obtain ⟨rfl, rfl⟩ := trodVars_none hV
  have k0 := h0
  have lt0 : ∀ x ∈ p0, x.block < W.heap.size := by obtain ⟨m, hm⟩ := k0; exact DataW.trod_lt m _ _ _ hm
  obtain ⟨n0, kA0, kc0, vA0, vc0, iA0, ic0, rfl, hN0⟩ := open_node nodeR_fields nodeR_types nodeR_one (by kernel_rfl) Tryd.underlying4 Tryd.underlying22 Tryd.underlying9 (by kernel_rfl) Tryd.underlying23 Tryd.underlying30 Tryd.underlying5 (by kernel_rfl) (by kernel_rfl) Tryd.underlying24 Tryd.underlying3 (by kernel_rfl) (hval 0 26 v0 rfl rfl) h0
  clear hA0 hval0 hsz0 hsz
  refine (nodeHalves_row n0 kA0 kc0 vA0 vc0 iA0 ic0 W (hL) hN0).mono fun e W' ⟨he, bel⟩ => ?_
  subst he
  exact ⟨_, rfl, _, _, _, [], _, [], hW', trodAll_mk1 (shut_bool Tryd.underlying4 _), (trodAll_cons_mk (Below.trod laidOut (by kernel_rfl) (of_decide_eq_true (by kernel_rfl)) k0 bel lt0) trodAll_mk0), rfl, bel.frame _, fun h => by cases h⟩
theorem over : Rows.nodeHalvesRow.holds Tryd.pinned (OpenSpec.ofChange Rows.nodeHalvesSpec) :=
  OpenClaim.holds_of_wide 6 Tryd.f6 rfl rfl rfl rfl rfl rfl rfl ⟨rfl, rfl, rfl, rfl, rfl⟩ rfl rfl rfl rfl rfl (by kernel_rfl) Tryd.func6 (by kernel_rfl)
    (of_decide_eq_true (by kernel_rfl)) (by unfold Func.isWrapper; first | (rw [if_pos (by decide +kernel)]; kernel_rfl) | (rw [if_neg (by decide +kernel)]; exact ⟨rfl, rfl⟩))
    (fun os started H enc _ => lifted os started H enc)
theorem wants (t : TypeId) (h : t ∈ [26]) : Tryd.prog.wantsStandIn t = false := by
  revert t h; intro t h
  simp only [List.mem_cons, List.mem_nil_iff, or_false] at h
  subst h
  all_goals kernel_rfl
theorem proved : Rows.NodeHalvesCardSaid :=
  Claim7.holds_tied_plain_at .later [] [.data, .pinned] true (true, "da34bb18c784ab9e87ff9316e9269a9866a8281f7037fee7a0c397eb733ed011") false
    over (fun _ h => by cases h) (by kernel_rfl) (fun _ h => by cases h) nodeHalves_row_tie rfl ⟨rfl, rfl⟩ (by kernel_rfl) rfl
    (fun f fn hf hfn => by
      obtain rfl : f = 6 := Option.some.inj ((show Tryd.prog.funcNamed "tabulary/tabularylaw14.NodeHalves" = some 6 by kernel_rfl).symm.trans hf) |>.symm
      obtain rfl : fn = Tryd.f6 := (Option.some.inj (Tryd.func6.symm.trans hfn)).symm
      exact ⟨by kernel_rfl, fun j t ht => by
        rw [Tryd.params6] at ht
        exact wants t (List.mem_of_getElem? (by simpa using ht))⟩)
    (by kernel_rfl)
end Go.Proofs.YthpbioffjapmmaaDoor.nodeHalves
namespace Go.Proofs.YthpbioffjapmmaaDoor
/-- The statement, under a short name. -/
theorem nodeHalves_holds : Rows.NodeHalvesCardSaid := nodeHalves.proved
#print axioms nodeHalves_holds
end Go.Proofs.YthpbioffjapmmaaDoor
