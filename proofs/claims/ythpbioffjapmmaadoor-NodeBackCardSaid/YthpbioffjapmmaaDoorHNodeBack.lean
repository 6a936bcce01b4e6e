/- The statement of NodeBack: for every input the law answers true, and each argument reads afterwards as it read before; the listed variables start as the program's text lays them. -/
import Derived.Test.YthpbioffjapmmaaDoorG5
import Derived.Test.YthpbioffjapmmaaDoorG4
import Derived.Test.YthpbioffjapmmaaDoorRows
import Derived.Test.YthpbioffjapmmaaDoorCards
import Derived.Test.YthpbioffjapmmaaDoorTie
import Derived.WalkKit
import Derived.ProofKit
import Derived.OpenShut
import Derived.ShutString
import Derived.ChangeOld
import Derived.Below
import Derived.SizedLaws
import Derived.ChangeSame
import Derived.ChangeVars
import Derived.JoinedOf
import Derived.RowKit
import Derived.RowKitTokens
import Derived.LaidLaws
import Derived.LaidHandle
import Derived.LaidMore
import Derived.Lib.LaidTab
import Derived.SevenTiedAt
import Derived.Lay
import Derived.Stop.LaidErr
/- The walk of NodeBack. -/
set_option linter.unusedSimpArgs false
set_option linter.unusedVariables false
namespace Go.Proofs.YthpbioffjapmmaaDoor
open Go.RowKit Go.Proofs.YthpbioffjapmmaaDoor.Crc
set_option maxRecDepth 10000 in
set_option maxHeartbeats 2000000 in
theorem nodeBack_row (n : NodeM) (kA : Option Addr) (kc : Nat) (vA : Option Addr) (vc : Nat) (iA : Option Addr) (ic : Nat) (no : Int) (w : World) {X : Prop} (_hx : X) (hN : NodeAt w n kA kc vA vc iA ic) (_g : -9223372036854775808 ≤ no ∧ no ≤ 9223372036854775807) :
    Calls Tryd.prog 4 #[.agg #[.bool n.leaf, .slice kA n.keys.length kc, .slice vA n.vals.length vc, .slice iA n.kids.length ic], .int .i64 no] w fun e w' => e = .returned (.bool true) ∧ Below w.heap.size w w' := by
  obtain ⟨nk, hnk⟩ : ∃ k, n.keys.length = k := ⟨_, rfl⟩
  obtain ⟨nv, hnv⟩ : ∃ k, n.vals.length = k := ⟨_, rfl⟩
  obtain ⟨ni, hni⟩ : ∃ k, n.kids.length = k := ⟨_, rfl⟩
  obtain ⟨lf, hlf⟩ : ∃ k, n.leaf = k := ⟨_, rfl⟩
  have HG0 : Hid (∀ w' kA kc vA vc iA ic, NodeAt w' n kA kc vA vc iA ic → Calls Tryd.prog 8 #[.agg #[.bool lf, .slice kA nk kc, .slice vA nv vc, .slice iA ni ic]] w' fun e w'' => e = .returned (.bool (greatB n)) ∧ Hid (Below w'.heap.size w' w'')) := fun w' kA kc vA vc iA ic h => by
    rw [← hnk, ← hnv, ← hni, ← hlf]; exact great_calls h
  have HC0 : Hid (Small n → ∀ w' kA kc vA vc iA ic, NodeAt w' n kA kc vA vc iA ic → Calls Tryd.prog 9 #[.agg #[.bool lf, .slice kA nk kc, .slice vA nv vc, .slice iA ni ic]] w' fun e w'' => ∃ kB kd vB vd iB id, e = .returned (.agg #[.bool lf, .slice kB nk kd, .slice vB nv vd, .slice iB ni id]) ∧ Hid (NodeAt w'' n kB kd vB vd iB id ∧ Below w'.heap.size w' w'')) := fun hs w' kA kc vA vc iA ic h => by
    rw [← hnk, ← hnv, ← hni, ← hlf]; exact copied_calls h ⟨by have := hs.k; omega, by have := hs.v; omega, by have := hs.i; omega⟩ (fun v hv => by obtain ⟨i, hi, rfl⟩ := List.getElem_of_mem hv; have := hs.vl i hi; rw [atL_eq _ _ hi] at this; omega)
  have HF0 : Hid (Small n → ∀ w' kA kc vA vc iA ic, NodeAt w' n kA kc vA vc iA ic → Calls Tryd.prog 18 #[.agg #[.bool lf, .slice kA nk kc, .slice vA nv vc, .slice iA ni ic]] w' fun e w'' => e = .returned (.bool (fitsB n)) ∧ Below w'.heap.size w' w'') := fun hs w' kA kc vA vc iA ic h => by
    rw [← hnk, ← hnv, ← hni, ← hlf]; exact Fits_calls h (by have := hs.k; omega)
  have HB0 : Hid (Small n → ∀ w' kA kc vA vc iA ic, NodeAt w' n kA kc vA vc iA ic → Calls Tryd.prog 10 #[.int .i64 no, .agg #[.bool lf, .slice kA nk kc, .slice vA nv vc, .slice iA ni ic]] w' (RetBN w' (bytesN no n).1 (bytesN no n).2)) := fun hs w' kA kc vA vc iA ic h => by
    rw [← hnk, ← hnv, ← hni, ← hlf]; exact Bytes_calls no h (by have := hs.k; omega)
  have HB1 : Hid (Small n → ∀ pg, bytesN no n = (pg, 0) → pg.length = 256 → ∀ w' kA kc vA vc iA ic, NodeAt w' n kA kc vA vc iA ic → Calls Tryd.prog 10 #[.int .i64 no, .agg #[.bool lf, .slice kA nk kc, .slice vA nv vc, .slice iA ni ic]] w' fun e w'' => ∃ g c, e = .returned (.tuple #[.slice (some ⟨g, 0, none⟩) 256 c, .int .i64 0]) ∧ Hid (Bytes w'' (some ⟨g, 0, none⟩) pg ∧ 256 ≤ c ∧ c ≤ 9223372036854775807 ∧ Below w'.heap.size w' w'')) := fun hs pg h1 h2 w' kA kc vA vc iA ic h => by
    rw [← hnk, ← hnv, ← hni, ← hlf]; exact Bytes_fit no h (by have := hs.k; omega) h1 h2
  have HP0 : Hid (Small n → RightM n → ∀ pg k, k ≤ 2147483647 → PgL pg k (kindN n) (cellsB n) → ∀ w' g c, Bytes w' (some ⟨g, 0, none⟩) pg → 256 ≤ c → c ≤ 9223372036854775807 → Calls Tryd.prog 21 #[.slice (some ⟨g, 0, none⟩) 256 c] w' fun e w'' => ∃ kB kd vB vd iB id, e = .returned (.tuple #[.agg #[.bool lf, .slice kB nk kd, .slice vB nv vd, .slice iB ni id], .int .i64 0]) ∧ Hid (NodeAt w'' n kB kd vB vd iB id ∧ Below w'.heap.size w' w'')) := fun hs hr pg k hk hP w' g c hb h1 h2 => by
    rw [← hnk, ← hnv, ← hni, ← hlf]; exact Parse_calls hr (by have := hs.k; omega) hP hk hb h1 h2
  have HS0 : Hid (∀ w' kA kc vA vc iA ic kB kd vB vd iB id, NodeAt w' n kA kc vA vc iA ic → NodeAt w' n kB kd vB vd iB id → Calls Tryd.prog 19 #[.agg #[.bool lf, .slice kA nk kc, .slice vA nv vc, .slice iA ni ic], .agg #[.bool lf, .slice kB nk kd, .slice vB nv vd, .slice iB ni id]] w' fun e w'' => e = .returned (.bool true) ∧ Hid (Below w'.heap.size w' w'')) := fun w' kA kc vA vc iA ic kB kd vB vd iB id h h' => by
    have h := Same14_calls h h'
    rw [sameB_true rfl] at h
    rw [← hnk, ← hnv, ← hni, ← hlf]; exact h
  obtain ⟨hb0, hr0⟩ := node_box w (.bool n.leaf) (.slice kA n.keys.length kc) (.slice vA n.vals.length vc) (.slice iA n.kids.length ic) 26
  rw [hnk, hnv, hni, hlf] at hb0 hr0 ⊢
  obtain ⟨W0, hW0⟩ : ∃ x, w.alloc (.cells #[.bool lf, .slice kA nk kc, .slice vA nv vc, .slice iA ni ic] 26) = x := ⟨_, rfl⟩
  have HWk := Lib.hid (works14_calls (w.alloc (.cells #[.bool lf, .slice kA nk kc, .slice vA nv vc, .slice iA ni ic] 26)))
  rw [hW0] at hb0 hr0
  have H := Lib.hid (hN.below hb0)
  have HX := Lib.hid (box_cells hr0)
  have HB := Lib.hid hb0
  have HW := Lib.hid hW0
  clear hnk hnv hni hlf hb0 hr0 hW0 hN _g
  go_enter Tryd.func4, Tryd.ntmps4
  go_wp2_with (go_at_call 20; (with_reducible refine HWk.out.mono ?_); rintro e w1 ⟨rfl, hb1⟩; refine park ?_; intro q hq)
  rw [HW.out] at hb1
  have hB1 := Lib.hid hb1
  clear HWk hb1
  refine hq.out ?_
  clear hq
  obtain ⟨x0, x1, x2, x3⟩ := HX.out _ hB1.out
  have HGr := Lib.hid (HG0.out w1 _ _ _ _ _ _ (H.out.below hB1.out))
  go_wp2_with (go_at_call 8; (with_reducible refine HGr.out.mono ?_); rintro e w2 ⟨rfl, hb2⟩; refine park ?_; intro q hq)
  have hB2 : Hid (Below W0.heap.size W0 w2) := hB1.out.trans (hb2.out.mono hB1.out.size)
  clear x0 x1 x2 x3 HGr hb2 HG0
  refine hq.out ?_
  clear hq
  cases hG : greatB n
  · have hS := greatB_small hG
    clear hG
    have HC1 := Lib.hid (HC0.out hS)
    have HF1 := Lib.hid (HF0.out hS)
    have HBy := Lib.hid (HB0.out hS)
    have HBz := Lib.hid (HB1.out hS)
    have HPa := Lib.hid (HP0.out hS)
    clear HC0 HF0 HB0 HB1 HP0 hS
    obtain ⟨x0, x1, x2, x3⟩ := HX.out _ hB2.out
    have HC := Lib.hid (HC1.out w2 _ _ _ _ _ _ (H.out.below hB2.out))
    go_wp2_with (go_at_call 9; (with_reducible refine HC.out.mono ?_); rintro e w3 ⟨kB, kd, vB, vd, iB, id, rfl, hb3⟩; refine park ?_; intro q hq)
    clear x0 x1 x2 x3 HC
    have hba : Below w3.heap.size w3 (w3.alloc (.cells #[.bool lf, .slice kB nk kd, .slice vB nv vd, .slice iB ni id] 28)) := (Below.refl _ _).alloc (Nat.le_refl _) _
    have hrow := heap_alloc_new w3 (.cells #[.bool lf, .slice kB nk kd, .slice vB nv vd, .slice iB ni id] 28)
    have HE : Hid (∀ w', Below (w3.alloc (.cells #[.bool lf, .slice kB nk kd, .slice vB nv vd, .slice iB ni id] 28)).heap.size (w3.alloc (.cells #[.bool lf, .slice kB nk kd, .slice vB nv vd, .slice iB ni id] 28)) w' → Below W0.heap.size W0 w' ∧ NodeAt w' n kB kd vB vd iB id) := fun w' h => ⟨hB2.out.trans ((hb3.out.2.trans ((hba.trans (h.mono hba.size)).mono hb3.out.2.size)).mono hB2.out.size), hb3.out.1.below (hba.trans (h.mono hba.size))⟩
    have HY := Lib.hid (box_cells hrow)
    obtain ⟨W4, hW4⟩ : ∃ x, w3.alloc (.cells #[.bool lf, .slice kB nk kd, .slice vB nv vd, .slice iB ni id] 28) = x := ⟨_, rfl⟩
    have HN4 : Hid (NodeAt (w3.alloc (.cells #[.bool lf, .slice kB nk kd, .slice vB nv vd, .slice iB ni id] 28)) n kB kd vB vd iB id) := hb3.out.1.below hba
    have HBc := Lib.hid (HBy.out _ _ _ _ _ _ _ HN4.out)
    have HBd := Lib.hid (fun pg h1 h2 => HBz.out pg h1 h2 _ _ _ _ _ _ _ HN4.out)
    rw [hW4] at HE HY
    have HW4 := Lib.hid hW4
    clear hW4 hba hrow hb3 HN4
    refine hq.out ?_
    clear hq
    by_cases hok : (bytesN no n).2 = 0
    · obtain ⟨hf, h0, h1⟩ := bytesN_ok hok
      obtain ⟨pg, hpg, hpl, hP⟩ := bytesN_fit hf h0 h1
      have HBe := Lib.hid (HBd.out pg hpg hpl)
      have HBf := Lib.hid (HBz.out pg hpg hpl)
      have hrt : RightM n := by unfold fitsB at hf; rw [Bool.and_eq_true] at hf; exact rightB_iff.1 hf.1
      have HPb := Lib.hid (HPa.out hrt pg _ (by omega) hP)
      have HFt := Lib.hid HF1.out
      rw [hf] at HFt
      have HPL := Lib.hid hpl.symm
      clear hok hf h0 h1 hpg hpl hP HBc HBd HBy HBz HPa HF1 hrt
      go_wp2_with (go_at_call 10; (with_reducible refine HBe.out.mono ?_); rintro e w5 ⟨g5, c5, rfl, hb5⟩; refine park ?_; intro q hq)
      rw [HW4.out] at hb5
      have hP5 := Lib.hid (HPb.out w5 g5 c5 hb5.out.1 hb5.out.2.1 hb5.out.2.2.1)
      have hB5 : Hid (Below W4.heap.size W4 w5) := hb5.out.2.2.2
      have hY5 : Hid (Bytes w5 (some ⟨g5, 0, none⟩) pg) := hb5.out.1
      clear hb5 HBe HPb
      refine hq.out ?_
      clear hq
      go_wp2_with (go_at_call 21; (with_reducible refine hP5.out.mono ?_); rintro e w6 ⟨kE, ke, vE, ve, iE, ie, rfl, hb6⟩; refine park ?_; intro q hq)
      have hba : Below w6.heap.size w6 (w6.alloc (.cells #[.bool lf, .slice kE nk ke, .slice vE nv ve, .slice iE ni ie] 28)) := (Below.refl _ _).alloc (Nat.le_refl _) _
      have hrow := heap_alloc_new w6 (.cells #[.bool lf, .slice kE nk ke, .slice vE nv ve, .slice iE ni ie] 28)
      have hN7 := hb6.out.1.below hba
      have h57 := hb6.out.2.trans (hba.mono hb6.out.2.size)
      have hB7' := hB5.out.trans (h57.mono hB5.out.size)
      have hY7' := hY5.out.below h57
      have HZ := Lib.hid (box_cells hrow)
      have HB7c := Lib.hid (HBf.out _ _ _ _ _ _ _ hN7)
      obtain ⟨W7, hW7⟩ : ∃ x, w6.alloc (.cells #[.bool lf, .slice kE nk ke, .slice vE nv ve, .slice iE ni ie] 28) = x := ⟨_, rfl⟩
      rw [hW7] at hN7 hB7' hY7' HZ
      have HW7 := Lib.hid hW7
      have HN7 := Lib.hid hN7
      have hB7 := Lib.hid hB7'
      have hY7 := Lib.hid hY7'
      clear hW7 hba hrow hb6 hN7 h57 hB7' hY7' hP5 hY5 hB5 HBf
      refine hq.out ?_
      clear hq
      go_wp2_with (go_at_call 10; (with_reducible refine HB7c.out.mono ?_); rintro e w8 ⟨g8, c8, rfl, hb8⟩; refine park ?_; intro q hq)
      rw [HW7.out] at hb8
      have hB8 : Hid (Below W7.heap.size W7 w8) := hb8.out.2.2.2
      have hY8 : Hid (Bytes w8 (some ⟨g8, 0, none⟩) pg) := hb8.out.1
      have hE8 := Lib.hid (HE.out w8 (hB7.out.trans (hB8.out.mono hB7.out.size)))
      clear hb8 HB7c
      refine hq.out ?_
      clear hq
      obtain ⟨y0, y1, y2, y3⟩ := HY.out _ (hB7.out.trans (hB8.out.mono hB7.out.size))
      have H9 := Lib.hid (HFt.out w8 _ _ _ _ _ _ hE8.out.2)
      go_wp2_with (go_at_call 18; (with_reducible refine H9.out.mono ?_); rintro e w9 ⟨rfl, hb9⟩; refine park ?_; intro q hq)
      clear y0 y1 y2 y3 H9
      have hB9 : Hid (Below W7.heap.size W7 w9) := hB8.out.trans (hb9.mono hB8.out.size)
      have hE9 : Hid (Below W0.heap.size W0 w9) := hE8.out.1.trans (hb9.mono hE8.out.1.size)
      have hY9 : Hid (Bytes w9 (some ⟨g8, 0, none⟩) pg) := hY8.out.below hb9
      have HS9 := Lib.hid (HS0.out w9 _ _ _ _ _ _ _ _ _ _ _ _ (HN7.out.below hB9.out) (H.out.below hE9.out))
      have hb9' := Lib.hid hb9
      clear hb9 hY8
      refine hq.out ?_
      clear hq
      obtain ⟨z0, z1, z2, z3⟩ := HZ.out _ hB9.out
      obtain ⟨x0, x1, x2, x3⟩ := HX.out _ hE9.out
      go_wp2_with (go_at_call 19; (with_reducible refine HS9.out.mono ?_); rintro e w10 ⟨rfl, hb10⟩; refine park ?_; intro q hq)
      clear z0 z1 z2 z3 x0 x1 x2 x3 HS9
      have hE10 : Hid (Below W0.heap.size W0 w10) := hE9.out.trans (hb10.out.mono hE9.out.size)
      have s1 := run_str (w := w10) (c := c8) HPL.out (hY9.out.below hb10.out)
      have s2 := run_str (w := w10) (c := c5) HPL.out ((hY7.out.below hB9.out).below hb10.out)
      refine hq.out ?_
      clear hq
      go_wp2_with fail
      go_ret
      exact ⟨by simp, HB.out.trans (hE10.out.mono HB.out.size)⟩
    · obtain ⟨R, hR⟩ : ∃ R, bytesN no n = R := ⟨_, rfl⟩
      obtain ⟨bl, er⟩ := R
      have hfc : fitsB n = true → no < 0 ∨ 2147483647 < no := fun hf => by
        by_cases hn : no < 0 ∨ 2147483647 < no
        · exact hn
        · obtain ⟨l, h1, _⟩ := bytesN_fit (no := no) hf (by omega) (by omega)
          rw [h1] at hok; exact absurd rfl hok
      rw [hR] at HBc hok
      simp only at HBc hok
      have HBe := Lib.hid HBc.out
      have hne : (er != 0) = true := by simpa using hok
      have HFC := Lib.hid hfc
      clear hR hok HBc HBd HBy HBz HPa hfc
      go_wp2_with (go_at_call 10; (with_reducible refine HBe.out.mono ?_); rintro e w5 ⟨A5, c5, rfl, _, hb5⟩; refine park ?_; intro q hq)
      rw [HW4.out] at hb5
      have hE5 := Lib.hid (HE.out w5 hb5)
      obtain ⟨y0, y1, y2, y3⟩ := HY.out _ hb5
      have H9 := Lib.hid (HF1.out w5 _ _ _ _ _ _ hE5.out.2)
      clear hb5 HBe HF1
      refine hq.out ?_
      clear hq
      cases hf : fitsB n
      · rw [hf] at H9
        clear hf HFC
        go_wp2_with (go_at_call 18; (with_reducible refine H9.out.mono ?_); rintro e w9 ⟨rfl, hb9⟩; have hb9 := Lib.hid hb9)
        go_ret
        exact ⟨rfl, HB.out.trans ((hE5.out.1.trans (hb9.out.mono hE5.out.1.size)).mono HB.out.size)⟩
      · have hc := HFC.out hf
        rw [hf] at H9
        clear hf HFC
        by_cases hl : no < 0
        · have d1 : decide (no < 0) = true := decide_eq_true hl
          go_wp2_with (go_at_call 18; (with_reducible refine H9.out.mono ?_); rintro e w9 ⟨rfl, hb9⟩; have hb9 := Lib.hid hb9)
          go_ret
          exact ⟨rfl, HB.out.trans ((hE5.out.1.trans (hb9.out.mono hE5.out.1.size)).mono HB.out.size)⟩
        · have d1 : decide (no < 0) = false := decide_eq_false hl
          have d2 : decide (no > 2147483647) = true := decide_eq_true (by omega)
          clear hc
          go_wp2_with (go_at_call 18; (with_reducible refine H9.out.mono ?_); rintro e w9 ⟨rfl, hb9⟩; have hb9 := Lib.hid hb9)
          go_ret
          exact ⟨rfl, HB.out.trans ((hE5.out.1.trans (hb9.out.mono hE5.out.1.size)).mono HB.out.size)⟩
  · go_wp2_with fail
    go_ret
    exact ⟨rfl, HB.out.trans (hB2.out.mono HB.out.size)⟩
end Go.Proofs.YthpbioffjapmmaaDoor
namespace Go.Proofs.YthpbioffjapmmaaDoor.nodeBack
open Go.ChangeShapes Go.WideShapes Go.ChangeAt Go.RowKit Go.Proofs.YthpbioffjapmmaaDoor
open Go.ChangeMaps (open_string shut_string)
set_option linter.unusedVariables false
set_option linter.unusedSimpArgs false
theorem own : ownKnob Tryd.prog.godebug = none := by kernel_rfl
theorem laidOut : laidOutB Tryd.prog = true := by kernel_rfl
theorem door_met (os : Os) (args : Array Value) : laidMetH Tryd.prog Rows.nodeBackRow.laid ((World.laidAll Tryd.prog os Rows.nodeBackRow.laid).forCall (fun _ _ => 0) ⟨#[], args, []⟩).memory :=
  laidMetH_of_parts (laidMet_laidAll args (by kernel_rfl) (by kernel_rfl)) (by kernel_rfl)
set_option maxRecDepth 100000 in
theorem lifted (os : Os) (started : os.Started) (H : Type) (enc : TypeId × Value → H) :
    ReturnsInHanded {} Tryd.checked os 4 .any (fun w args => (Rows.nodeBackSpec.pre enc Tryd.prog Tryd.f4 Rows.nodeBackRow.domain false w args ∧ laidMetH Tryd.prog Rows.nodeBackRow.laid w) ∧ sizedMet enc Tryd.prog Tryd.f4 (OpenSpec.ofChange Rows.nodeBackSpec) false w args) (Rows.nodeBackSpec.post enc Tryd.prog Tryd.f4 false true false false) := by
  refine returnsInHanded_of_change_and (C := Tryd.checked) (X := fun w _ => laidMetH Tryd.prog Rows.nodeBackRow.laid w) (fun _ _ _ hh h => h.of_heap hh) own started (by kernel_rfl) Tryd.func4
    (ChangeSpec.witness_shaped (enc := enc) (C := Tryd.checked) (os := os) (X := fun w _ => laidMetH Tryd.prog Rows.nodeBackRow.laid w) false (World.laidAll Tryd.prog os Rows.nodeBackRow.laid) #[.agg #[.bool false, .slice none 0 0, .slice none 0 0, .slice none 0 0], .int .i64 0] 8 (World.laidAll_os _ _ _) (World.shaped_of_RefB (by kernel_rfl) (by kernel_rfl)) (by kernel_rfl) (by kernel_rfl) (by kernel_rfl) (door_met os _)) ?_
  intro W base args ds gs before hval0 hW hcnd hsz0 hL _
  have hsz : (DataW.weightsEach Tryd.prog (Tryd.f4.params.toList ++ Rows.nodeBackSpec.plain.varTypes Tryd.prog) (ds ++ gs)).all (· ≤ reachBytes) = true := hsz0
  have hval : ∀ (j : Nat) t v, Tryd.f4.params[j]? = some t → args[j]? = some v → Value.okWide Tryd.prog W .any base t v := hval0
  have hW' := hW
  obtain ⟨p, q, hA0, hV, rfl, hfz, hnd⟩ := hW
  have hA : DataW.TrodAll enc Tryd.prog W 0 (fun _ => true) true Tryd.f4.params.toList args.toList ds p := hA0
  rw [Tryd.params4] at hA hval hsz
  obtain ⟨v0, vs0, d0, ds0, p0, q0, hargs, rfl, rfl, h0, r0⟩ := trodAll_cons hA
  obtain ⟨v1, vs1, d1, ds1, p1, q1, rfl, rfl, rfl, h1, r1⟩ := trodAll_cons r0
  obtain ⟨rfl, rfl, rfl⟩ := trodAll_nil r1
  obtain rfl : args = #[v0, v1] := by cases args; simp_all
  obtain ⟨rfl, rfl⟩ := trodVars_none hV
  have k0 := h0
  have lt0 : ∀ x ∈ p0, x.block < W.heap.size := by obtain ⟨m, hm⟩ := k0; exact DataW.trod_lt m _ _ _ hm
  obtain ⟨n0, kA0, kc0, vA0, vc0, iA0, ic0, rfl, hN0⟩ := open_node nodeR_fields nodeR_types nodeR_one (by kernel_rfl) Tryd.underlying4 Tryd.underlying22 Tryd.underlying9 (by kernel_rfl) Tryd.underlying23 Tryd.underlying30 Tryd.underlying5 (by kernel_rfl) (by kernel_rfl) Tryd.underlying24 Tryd.underlying3 (by kernel_rfl) (hval 0 26 v0 rfl rfl) h0
  obtain ⟨a1, rfl, rfl, rfl, w1⟩ := open_int Tryd.underlying3 (hval 1 3 v1 rfl rfl) h1
  have g1 : -9223372036854775808 ≤ a1 ∧ a1 ≤ 9223372036854775807 := by simp [Lit.wf, IntKind.min, IntKind.max, IntKind.signed, IntKind.bits] at w1; omega
  clear hA0 hval0 hsz0 hsz
  refine (nodeBack_row n0 kA0 kc0 vA0 vc0 iA0 ic0 a1 W (hL) hN0 g1).mono fun e W' ⟨he, bel⟩ => ?_
  subst he
  exact ⟨_, rfl, _, _, _, [], _, [], hW', trodAll_mk1 (shut_bool Tryd.underlying4 _), (trodAll_cons_mk (Below.trod laidOut (by kernel_rfl) (of_decide_eq_true (by kernel_rfl)) k0 bel lt0) (trodAll_cons_mk (shut_int Tryd.underlying3 w1) trodAll_mk0)), rfl, bel.frame _, fun h => by cases h⟩
theorem over : Rows.nodeBackRow.holds Tryd.pinned (OpenSpec.ofChange Rows.nodeBackSpec) :=
  OpenClaim.holds_of_wide 4 Tryd.f4 rfl rfl rfl rfl rfl rfl rfl ⟨rfl, rfl, rfl, rfl, rfl⟩ rfl rfl rfl rfl rfl (by kernel_rfl) Tryd.func4 (by kernel_rfl)
    (of_decide_eq_true (by kernel_rfl)) (by unfold Func.isWrapper; first | (rw [if_pos (by decide +kernel)]; kernel_rfl) | (rw [if_neg (by decide +kernel)]; exact ⟨rfl, rfl⟩))
    (fun os started H enc _ => lifted os started H enc)
theorem wants (t : TypeId) (h : t ∈ [26, 3]) : Tryd.prog.wantsStandIn t = false := by
  revert t h; intro t h
  simp only [List.mem_cons, List.mem_nil_iff, or_false] at h
  rcases h with rfl | rfl
  all_goals kernel_rfl
theorem proved : Rows.NodeBackCardSaid :=
  Claim7.holds_tied_plain_at .later [] [.data, .pinned] true (true, "da34bb18c784ab9e87ff9316e9269a9866a8281f7037fee7a0c397eb733ed011") false
    over (fun _ h => by cases h) (by kernel_rfl) (fun _ h => by cases h) nodeBack_row_tie rfl ⟨rfl, rfl⟩ (by kernel_rfl) rfl
    (fun f fn hf hfn => by
      obtain rfl : f = 4 := Option.some.inj ((show Tryd.prog.funcNamed "tabulary/tabularylaw14.NodeBack" = some 4 by kernel_rfl).symm.trans hf) |>.symm
      obtain rfl : fn = Tryd.f4 := (Option.some.inj (Tryd.func4.symm.trans hfn)).symm
      exact ⟨by kernel_rfl, fun j t ht => by
        rw [Tryd.params4] at ht
        exact wants t (List.mem_of_getElem? (by simpa using ht))⟩)
    (by kernel_rfl)
end Go.Proofs.YthpbioffjapmmaaDoor.nodeBack
namespace Go.Proofs.YthpbioffjapmmaaDoor
/-- The statement, under a short name. -/
theorem nodeBack_holds : Rows.NodeBackCardSaid := nodeBack.proved
#print axioms nodeBack_holds
end Go.Proofs.YthpbioffjapmmaaDoor
