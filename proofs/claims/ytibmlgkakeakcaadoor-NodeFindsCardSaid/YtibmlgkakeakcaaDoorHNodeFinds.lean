/- The statement of NodeFinds: for every input the law answers true, and each argument reads afterwards as it read before; the listed variables start as the program's text lays them. -/
import Derived.Test.YtibmlgkakeakcaaDoorG5
import Derived.Test.YtibmlgkakeakcaaDoorG4
import Derived.Test.YtibmlgkakeakcaaDoorG9
import Derived.Test.YtibmlgkakeakcaaDoorRows
import Derived.Test.YtibmlgkakeakcaaDoorCards
import Derived.Test.YtibmlgkakeakcaaDoorTie
import Derived.WalkKit
import Derived.ProofKit
import Derived.OpenShut
import Derived.ShutString
import Derived.ChangeOld
import Derived.Below
import Derived.SizedLaws
import Derived.ChangeSame
import Derived.ChangeVars
import Derived.JoinedOf
import Derived.RowKit
import Derived.RowKitTokens
import Derived.LaidLaws
import Derived.LaidHandle
import Derived.LaidMore
import Derived.Lib.LaidTab
import Derived.SevenTiedAt
import Derived.Lay
import Derived.Stop.LaidErr
/- The walk of NodeFinds. -/
set_option linter.unusedSimpArgs false
set_option linter.unusedVariables false
namespace Go.Proofs.YtibmlgkakeakcaaDoor
open Go.RowKit Go.Proofs.YtibmlgkakeakcaaDoor.Crc
set_option maxRecDepth 10000 in
set_option maxHeartbeats 16000000 in
theorem nodeFinds_row (n : NodeM) (kA : Option Addr) (kc : Nat) (vA : Option Addr) (vc : Nat) (iA : Option Addr) (ic : Nat) (key : List UInt8) (dA : Option Addr) (dc : Nat) (ds : List UInt8) (w : World) {X : Prop} (_hx : X) (hN : NodeAt w n kA kc vA vc iA ic)
    (hS : (n.keys.length * 16 ≤ 140737488351232 ∧ n.vals.length * 24 ≤ 140737488351232 ∧ n.kids.length * 8 ≤ 140737488351232) ∧ ∀ x ∈ n.vals, x.length ≤ 140737488351232) (gk : key.length ≤ 9223372036854775807) (hdb : Bytes w dA ds) (hdn : dA = none → dc = 0) (_hdc : ds.length ≤ dc) (_hdl : ds.length ≤ 140737488351232) :
    Calls Tryd.prog 5 #[.agg #[.bool n.leaf, .slice kA n.keys.length kc, .slice vA n.vals.length vc, .slice iA n.kids.length ic], .string (bstr key), .slice dA ds.length dc] w fun e w' => e = .returned (.bool true) ∧ Below w.heap.size w w' := by
  obtain ⟨nk, hnk⟩ : ∃ k, n.keys.length = k := ⟨_, rfl⟩
  obtain ⟨nv, hnv⟩ : ∃ k, n.vals.length = k := ⟨_, rfl⟩
  obtain ⟨ni, hni⟩ : ∃ k, n.kids.length = k := ⟨_, rfl⟩
  obtain ⟨lf, hlf⟩ : ∃ k, n.leaf = k := ⟨_, rfl⟩
  have HG0 : Hid (∀ w' kA kc vA vc iA ic, NodeAt w' n kA kc vA vc iA ic → Calls Tryd.prog 8 #[.agg #[.bool lf, .slice kA nk kc, .slice vA nv vc, .slice iA ni ic]] w' fun e w'' => e = .returned (.bool (greatB n)) ∧ Hid (Below w'.heap.size w' w'')) := fun w' kA kc vA vc iA ic h => by
    rw [← hnk, ← hnv, ← hni, ← hlf]; exact great_calls h
  have HC0 : Hid (∀ w' kA kc vA vc iA ic, NodeAt w' n kA kc vA vc iA ic → Calls Tryd.prog 9 #[.agg #[.bool lf, .slice kA nk kc, .slice vA nv vc, .slice iA ni ic]] w' fun e w'' => ∃ kB kd vB vd iB id, e = .returned (.agg #[.bool lf, .slice kB nk kd, .slice vB nv vd, .slice iB ni id]) ∧ Hid (NodeAt w'' n kB kd vB vd iB id ∧ Below w'.heap.size w' w'')) := fun w' kA kc vA vc iA ic h => by
    rw [← hnk, ← hnv, ← hni, ← hlf]; exact copied_big h hS.1 hS.2
  have HRx : Hid (∀ w' kA kc vA vc iA ic, NodeAt w' n kA kc vA vc iA ic → Calls Tryd.prog 14 #[.agg #[.bool lf, .slice kA nk kc, .slice vA nv vc, .slice iA ni ic]] w' fun e w'' => e = .returned (.bool (rightB n)) ∧ Below w'.heap.size w' w'') := fun w' kA kc vA vc iA ic h => by
    rw [← hnk, ← hnv, ← hni, ← hlf]; exact Right_calls h
  have HF0 : Hid (n.keys.length ≤ 1000 → ∀ w' kA kc vA vc iA ic, NodeAt w' n kA kc vA vc iA ic → Calls Tryd.prog 12 #[.agg #[.bool lf, .slice kA nk kc, .slice vA nv vc, .slice iA ni ic], .string (bstr key)] w' fun e w'' => e = .returned (.tuple #[.int .i64 (findN n key).1, .bool (findN n key).2]) ∧ Hid (Below w'.heap.size w' w'')) := fun hs w' kA kc vA vc iA ic h => by
    rw [← hnk, ← hnv, ← hni, ← hlf]; exact Find_calls key h hs
  have HS0 : Hid (∀ w' kA kc vA vc iA ic kB kd vB vd iB id, NodeAt w' n kA kc vA vc iA ic → NodeAt w' n kB kd vB vd iB id → Calls Tryd.prog 19 #[.agg #[.bool lf, .slice kA nk kc, .slice vA nv vc, .slice iA ni ic], .agg #[.bool lf, .slice kB nk kd, .slice vB nv vd, .slice iB ni id]] w' fun e w'' => e = .returned (.bool true) ∧ Hid (Below w'.heap.size w' w'')) := fun w' kA kc vA vc iA ic kB kd vB vd iB id h h' => by
    have h := Same14_calls h h'
    rw [sameB_true rfl] at h
    rw [← hnk, ← hnv, ← hni, ← hlf]; exact h
  obtain ⟨hb0, hr0⟩ := node_box w (.bool n.leaf) (.slice kA n.keys.length kc) (.slice vA n.vals.length vc) (.slice iA n.kids.length ic) 26
  rw [hnk, hnv, hni, hlf] at hb0 hr0 ⊢
  obtain ⟨W0, hW0⟩ : ∃ x, w.alloc (.cells #[.bool lf, .slice kA nk kc, .slice vA nv vc, .slice iA ni ic] 26) = x := ⟨_, rfl⟩
  have HWk := Lib.hid (works14_calls (w.alloc (.cells #[.bool lf, .slice kA nk kc, .slice vA nv vc, .slice iA ni ic] 26)))
  rw [hW0] at hb0 hr0
  have H := Lib.hid (hN.below hb0)
  have HD := Lib.hid (hdb.below hb0)
  have HDn := Lib.hid hdn
  have HX := Lib.hid (box_cells hr0)
  have HB := Lib.hid hb0
  have HW := Lib.hid hW0
  have HNL' : Hid (n.keys.length = nk ∧ n.vals.length = nv ∧ n.kids.length = ni ∧ n.leaf = lf) := ⟨hnk, hnv, hni, hlf⟩
  obtain ⟨dn, hdn0⟩ : ∃ k, ds.length = k := ⟨_, rfl⟩
  have HDN := Lib.hid hdn0
  obtain ⟨y, hy0⟩ : ∃ y, bstr key = y := ⟨_, rfl⟩
  have HYK := Lib.hid hy0
  obtain ⟨kn, hkn⟩ : ∃ k, y.size = k := ⟨_, rfl⟩
  have HKN : Hid (key.length = kn) := by show _ = _; rw [← hkn, ← hy0, bstr_size]
  rw [hdn0, hy0]
  rw [hy0] at HF0
  clear hnk hnv hni hlf hb0 hr0 hW0 hN hS gk hdb hdn _hdc _hdl hdn0 hy0
  go_enter Tryd.func5, Tryd.ntmps5
  go_wp2_with (go_at_call 20; (with_reducible refine HWk.out.mono ?_); rintro e w1 ⟨rfl, hb1⟩; refine park ?_; intro q hq)
  rw [HW.out] at hb1
  have hB1 := Lib.hid hb1
  clear HWk hb1
  refine hq.out ?_
  clear hq
  obtain ⟨x0, x1, x2, x3⟩ := HX.out _ hB1.out
  have HC := Lib.hid (HC0.out w1 _ _ _ _ _ _ (H.out.below hB1.out))
  go_wp2_with (go_at_call 9; (with_reducible refine HC.out.mono ?_); rintro e w3 ⟨kB, kd, vB, vd, iB, id, rfl, hb3⟩; refine park ?_; intro q hq)
  clear x0 x1 x2 x3 HC
  have hba : Below w3.heap.size w3 (w3.alloc (.cells #[.bool lf, .slice kB nk kd, .slice vB nv vd, .slice iB ni id] 28)) := (Below.refl _ _).alloc (Nat.le_refl _) _
  have hrow := heap_alloc_new w3 (.cells #[.bool lf, .slice kB nk kd, .slice vB nv vd, .slice iB ni id] 28)
  have HE : Hid (∀ w', Below (w3.alloc (.cells #[.bool lf, .slice kB nk kd, .slice vB nv vd, .slice iB ni id] 28)).heap.size (w3.alloc (.cells #[.bool lf, .slice kB nk kd, .slice vB nv vd, .slice iB ni id] 28)) w' → Below W0.heap.size W0 w' ∧ NodeAt w' n kB kd vB vd iB id) := fun w' h => ⟨hB1.out.trans ((hb3.out.2.trans ((hba.trans (h.mono hba.size)).mono hb3.out.2.size)).mono hB1.out.size), hb3.out.1.below (hba.trans (h.mono hba.size))⟩
  have HY := Lib.hid (box_cells hrow)
  obtain ⟨W4, hW4⟩ : ∃ x, w3.alloc (.cells #[.bool lf, .slice kB nk kd, .slice vB nv vd, .slice iB ni id] 28) = x := ⟨_, rfl⟩
  rw [hW4] at HE HY
  have HW4 := Lib.hid hW4
  clear hba hrow hb3 hW4 HC0
  have hE4 := HE.out W4 (Below.refl _ _)
  obtain ⟨x0, x1, x2, x3⟩ := HX.out _ hE4.1
  have HGr := Lib.hid (HG0.out W4 _ _ _ _ _ _ (H.out.below hE4.1))
  rw [← HW4.out] at HGr x0 x1 x2 x3
  clear hE4 HG0
  refine hq.out ?_
  clear hq
  go_wp2_with (go_at_call 8; (with_reducible refine HGr.out.mono ?_); rintro e w5 ⟨rfl, hb5⟩; refine park ?_; intro q hq)
  rw [HW4.out] at hb5
  have hE5 := Lib.hid (HE.out w5 hb5.out)
  have hB5 := Lib.hid hb5.out
  clear hb5 HGr x0 x1 x2 x3
  refine hq.out ?_
  clear hq
  cases hG : greatB n
  case true =>
    clear hG
    go_wp2_with fail
    go_ret
    exact ⟨rfl, HB.out.trans (hE5.out.1.mono HB.out.size)⟩
  have hsm := greatB_small hG
  have hnl : n.keys.length ≤ 1000 := by have := hsm.k; omega
  have HNL := Lib.hid hnl
  have HF1 := Lib.hid (HF0.out hnl)
  have HR5 := Lib.hid (HRx.out w5 _ _ _ _ _ _ hE5.out.2)
  have HSm : Hid (n.keys.length ≤ 200) := hsm.k
  clear hG hsm hnl HF0 HRx
  obtain ⟨y0, y1, y2, y3⟩ := HY.out _ hB5.out
  go_wp2_with (go_at_call 14; (with_reducible refine HR5.out.mono ?_); rintro e w6 ⟨rfl, hb6⟩; refine park ?_; intro q hq)
  have hB6 : Hid (Below W4.heap.size W4 w6) := hB5.out.trans (hb6.mono hB5.out.size)
  have hE6 := Lib.hid (HE.out w6 hB6.out)
  clear hb6 HR5 y0 y1 y2 y3 hE5 hB5
  refine hq.out ?_
  clear hq
  by_cases hR : RightM n
  case neg =>
    rw [rightB_false hR]
    clear hR
    go_wp2_with fail
    go_ret
    exact ⟨rfl, HB.out.trans (hE6.out.1.mono HB.out.size)⟩
  rw [rightB_true hR]
  have HR := Lib.hid hR
  clear hR
  by_cases hkl : (40 : Int) < (kn : Int)
  case pos =>
    go_wp2_with fail
    go_ret
    exact ⟨rfl, HB.out.trans (hE6.out.1.mono HB.out.size)⟩
  replace hkl : (kn : Int) ≤ 40 := by omega
  by_cases hdl : (49 : Int) < (dn : Int)
  case pos =>
    go_wp2_with fail
    go_ret
    exact ⟨rfl, HB.out.trans (hE6.out.1.mono HB.out.size)⟩
  replace hdl : (dn : Int) ≤ 49 := by omega
  have HKL : Hid (key.length ≤ 40) := by show _ ≤ _; rw [HKN.out]; omega
  have HDL : Hid (ds.length ≤ 49) := by show _ ≤ _; rw [HDN.out]; omega
  have HF6 := Lib.hid (HF1.out w6 _ _ _ _ _ _ hE6.out.2)
  obtain ⟨z, hz⟩ : ∃ z, (findN n key).1 = z := ⟨_, rfl⟩
  rw [hz] at HF6
  have HZ := Lib.hid hz
  obtain ⟨y0, y1, y2, y3⟩ := HY.out _ hB6.out
  clear hz HF1
  go_wp2_with (go_at_call 12; (with_reducible refine HF6.out.mono ?_); rintro e w7 ⟨rfl, hb7⟩; refine park ?_; intro q hq)
  have hB7 : Hid (Below W4.heap.size W4 w7) := hB6.out.trans (hb7.out.mono hB6.out.size)
  have hE7 := Lib.hid (HE.out w7 hB7.out)
  clear hb7 HF6 y0 y1 y2 y3 hE6 hB6 hkl hdl
  have hple := placeN_le n.keys key
  refine hq.out ?_
  clear hq
  cases hok : (findN n key).2
  case true =>
    obtain ⟨e1, e2, e3⟩ := findN_yes HR.out hok
    rw [HZ.out] at e1
    obtain ⟨p, hp⟩ : ∃ p, placeN n.keys key = p := ⟨_, rfl⟩
    rw [hp] at e1 e2 e3
    subst e1
    have hlt : p < nk := by rw [← HNL'.out.1]; exact e2
    obtain ⟨bk, ok, hA, _⟩ := H.out.k.spot (by rw [strs_length]; omega)
    subst hA
    have hcell := (H.out.below hE7.out.1).k.strAt p e2
    rw [e3] at hcell
    have hcy : w7.cell? ⟨bk, ok + p, none⟩ = some (.string y) := by rw [hcell, ← HYK.out]; rfl
    obtain ⟨x0, x1, x2, x3⟩ := HX.out _ hE7.out.1
    have t1 : decide ((0 : Int) ≤ (p : Int)) = true := by simp
    have t2 : decide ((p : Int) < (nk : Int)) = true := by simp; omega
    have t3 : decide (p < nk) = true := by simp; omega
    clear hok e2 e3 hp hcell hple
    go_wp2_with fail
    go_ret
    exact ⟨by simp, HB.out.trans (hE7.out.1.mono HB.out.size)⟩
  obtain ⟨e1, e2⟩ := findN_no HR.out hok
  rw [HZ.out, HNL'.out.2.2.2] at e1
  have HNo := Lib.hid e2
  have HRM := Lib.hid (right_ins HR.out HKL.out HDL.out e2)
  have HFn := Lib.hid (find_ins HRM.out)
  have HDe := Lib.hid (del_ins HR.out hple key ds 7)
  have hpos : lf = false → 0 < placeN n.keys key := fun hl => by
    rcases Nat.eq_zero_or_pos (placeN n.keys key) with h0 | h0
    · exfalso
      have h2 := HR.out.2
      rw [HNL'.out.2.2.2, hl] at h2
      simp only [Bool.false_eq_true, if_false] at h2
      have hlt : placeN n.keys key < n.keys.length := by omega
      have hat := placeN_at n.keys key hlt
      rw [h0, h2.2.2.2.1] at hat
      have hkn : key = [] := by cases key with | nil => rfl | cons a b => exact absurd hat (by simp [ltB, Op.bytesLess])
      exact HNo.out ⟨hlt, by rw [h0, h2.2.2.2.1, hkn]⟩
    · exact h0
  obtain ⟨p, hp⟩ : ∃ p, placeN n.keys key = p := ⟨_, rfl⟩
  rw [hp] at e1 hple hpos HRM HFn HDe
  have hpk : p ≤ nk := by rw [← HNL'.out.1]; exact hple
  have hnk1 : nk ≤ 1000 := by rw [← HNL'.out.1]; exact HNL.out
  obtain ⟨M, hM⟩ : ∃ M, insM n p key ds 7 = M := ⟨_, rfl⟩
  have hMl : M.keys.length = n.keys.length + 1 := by rw [← hM]; exact insM_len n p key ds 7
  have hMf : M.leaf = lf := by rw [← hM]; exact HNL'.out.2.2.2
  rw [hM] at HRM HFn HDe
  obtain ⟨mk, hmk⟩ : ∃ k, M.keys.length = k := ⟨_, rfl⟩
  obtain ⟨mv, hmv⟩ : ∃ k, M.vals.length = k := ⟨_, rfl⟩
  obtain ⟨mi, hmi⟩ : ∃ k, M.kids.length = k := ⟨_, rfl⟩
  have HIn : Hid (∀ w' kA kc vA vc iA ic, NodeAt w' n kA kc vA vc iA ic → Bytes w' dA ds → Calls Tryd.prog 22 #[.agg #[.bool lf, .slice kA nk kc, .slice vA nv vc, .slice iA ni ic], .int .i64 (p : Int), .string y, .slice dA dn dc, .int .i64 7] w' fun e w'' => ∃ kB kd vB vd iB id, e = .returned (.tuple #[.agg #[.bool lf, .slice kB mk kd, .slice vB mv vd, .slice iB mi id], .int .i64 0]) ∧ Hid (NodeAt w'' M kB kd vB vd iB id ∧ Below w'.heap.size w' w'')) := fun w' kA kc vA vc iA ic h hd => by
    have hh := InsertN_calls h HR.out HNL.out p hple key hd HDn.out (by have := HDL.out; omega) 7
    rw [hM, outM_right HRM.out, codeN_right HRM.out, HNL'.out.1, HNL'.out.2.1, HNL'.out.2.2.1, HNL'.out.2.2.2, hmk, hmv, hmi, hMf, HYK.out, HDN.out] at hh
    exact hh.mono fun e w'' ⟨a, b, c, d, x, y, h1, h2⟩ => ⟨a, b, c, d, x, y, h1, h2.out.1.at', h2.out.2⟩
  have HF2 : Hid (∀ w' kA kc vA vc iA ic, NodeAt w' M kA kc vA vc iA ic → Calls Tryd.prog 12 #[.agg #[.bool lf, .slice kA mk kc, .slice vA mv vc, .slice iA mi ic], .string y] w' fun e w'' => e = .returned (.tuple #[.int .i64 (p : Int), .bool true]) ∧ Hid (Below w'.heap.size w' w'')) := fun w' kA kc vA vc iA ic h => by
    have hh := Find_calls key h (by rw [hMl]; have hsm := HSm.out; omega)
    rw [HFn.out, hMf, hmk, hmv, hmi, HYK.out] at hh
    exact hh
  have HRe : Hid (∀ w' kA kc vA vc iA ic, NodeAt w' M kA kc vA vc iA ic → Calls Tryd.prog 23 #[.agg #[.bool lf, .slice kA mk kc, .slice vA mv vc, .slice iA mi ic], .int .i64 (p : Int)] w' fun e w'' => ∃ kB kd vB vd iB id, e = .returned (.tuple #[.agg #[.bool lf, .slice kB nk kd, .slice vB nv vd, .slice iB ni id], .int .i64 0]) ∧ Hid (NodeAt w'' n kB kd vB vd iB id ∧ Below w'.heap.size w' w'')) := fun w' kA kc vA vc iA ic h => by
    have hh := Remove_calls h HRM.out (by rw [hMl]; have hsm := HSm.out; omega) p (by rw [hMl]; omega) (by rw [HDe.out]; exact HR.out)
    rw [HDe.out, hMf, hmk, hmv, hmi, HNL'.out.1, HNL'.out.2.1, HNL'.out.2.2.1] at hh
    exact hh.mono fun e w'' ⟨a, b, c, d, x, y, h1, h2⟩ => ⟨a, b, c, d, x, y, h1, h2.out.1.at', h2.out.2⟩
  have hzw : lf = false → wrap64 (z + 1) = (p : Int) := fun hl => by
    have := hpos hl
    rw [hl] at e1
    simp only [Bool.false_eq_true, if_false] at e1
    subst e1
    rw [show (p : Int) - 1 + 1 = (p : Int) from by omega]
    unfold wrap64; omega
  have HZW := Lib.hid hzw
  have HE1 := Lib.hid e1
  have hI7 := Lib.hid (HIn.out w7 _ _ _ _ _ _ hE7.out.2 (HD.out.below hE7.out.1))
  obtain ⟨y0, y1, y2, y3⟩ := HY.out _ hB7.out
  obtain ⟨x0, x1, x2, x3⟩ := HX.out _ hE7.out.1
  clear hok e2 hp hple hpos hM hMl hMf hmk hmv hmi HIn HFn HDe hzw e1 HNo HKL HDL hpk hnk1 HZ
  cases lf
  · have hzw := HZW.out rfl
    clear HE1 HZW
    go_wp2_with (go_at_call 22; (with_reducible refine hI7.out.mono ?_); rintro e w8 ⟨kC, ke, vC, ve, iC, ie, rfl, hb8⟩; refine park ?_; intro q hq)
    have hba : Below w8.heap.size w8 (w8.alloc (.cells #[.bool false, .slice kC mk ke, .slice vC mv ve, .slice iC mi ie] 28)) := (Below.refl _ _).alloc (Nat.le_refl _) _
    have hrow := heap_alloc_new w8 (.cells #[.bool false, .slice kC mk ke, .slice vC mv ve, .slice iC mi ie] 28)
    have hB9 : Hid (Below W4.heap.size W4 (w8.alloc (.cells #[.bool false, .slice kC mk ke, .slice vC mv ve, .slice iC mi ie] 28))) := hB7.out.trans ((hb8.out.2.trans (hba.mono hb8.out.2.size)).mono hB7.out.size)
    have HY9 := Lib.hid (box_cells hrow)
    have HM9 : Hid (NodeAt (w8.alloc (.cells #[.bool false, .slice kC mk ke, .slice vC mv ve, .slice iC mi ie] 28)) M kC ke vC ve iC ie) := hb8.out.1.below hba
    obtain ⟨W9, hW9⟩ : ∃ x, w8.alloc (.cells #[.bool false, .slice kC mk ke, .slice vC mv ve, .slice iC mi ie] 28) = x := ⟨_, rfl⟩
    rw [hW9] at HY9 HM9 hB9
    have HW9 := Lib.hid hW9
    have HF9 := Lib.hid (HF2.out W9 _ _ _ _ _ _ HM9.out)
    rw [← HW9.out] at HF9
    clear hba hrow hb8 hW9 y0 y1 y2 y3 x0 x1 x2 x3 hI7 HF2
    refine hq.out ?_
    clear hq
    go_wp2_with (go_at_call 12; (with_reducible refine HF9.out.mono ?_); rintro e w10 ⟨rfl, hb10⟩; refine park ?_; intro q hq)
    rw [HW9.out] at hb10
    have HM10 := Lib.hid (HRe.out w10 _ _ _ _ _ _ (HM9.out.below hb10.out))
    have hB10 : Hid (Below W4.heap.size W4 w10) := hB9.out.trans (hb10.out.mono hB9.out.size)
    obtain ⟨u0, u1, u2, u3⟩ := HY9.out _ hb10.out
    clear hb10 HF9 HRe HW9
    refine hq.out ?_
    clear hq
    go_wp2_with (go_at_call 23; (with_reducible refine HM10.out.mono ?_); rintro e w11 ⟨kE, kf, vE, vf, iE, jf, rfl, hb11⟩; refine park ?_; intro q hq)
    have hba : Below w11.heap.size w11 (w11.alloc (.cells #[.bool false, .slice kE nk kf, .slice vE nv vf, .slice iE ni jf] 28)) := (Below.refl _ _).alloc (Nat.le_refl _) _
    have hrow := heap_alloc_new w11 (.cells #[.bool false, .slice kE nk kf, .slice vE nv vf, .slice iE ni jf] 28)
    have hB12 : Hid (Below W4.heap.size W4 (w11.alloc (.cells #[.bool false, .slice kE nk kf, .slice vE nv vf, .slice iE ni jf] 28))) := hB10.out.trans ((hb11.out.2.trans (hba.mono hb11.out.2.size)).mono hB10.out.size)
    obtain ⟨v0, v1, v2, v3⟩ := box_cells hrow _ (Below.refl _ _)
    have HN12 : Hid (NodeAt (w11.alloc (.cells #[.bool false, .slice kE nk kf, .slice vE nv vf, .slice iE ni jf] 28)) n kE kf vE vf iE jf) := hb11.out.1.below hba
    have hE12 := Lib.hid (HE.out _ hB12.out)
    have HS12 := Lib.hid (HS0.out _ _ _ _ _ _ _ _ _ _ _ _ _ HN12.out (H.out.below hE12.out.1))
    obtain ⟨x0, x1, x2, x3⟩ := HX.out _ hE12.out.1
    clear hba hrow hb11 u0 u1 u2 u3 HM10
    refine hq.out ?_
    clear hq
    go_wp2_with (go_at_call 19; (with_reducible refine HS12.out.mono ?_); rintro e w13 ⟨rfl, hb13⟩; have hb13 := Lib.hid hb13)
    go_ret
    exact ⟨by simp, HB.out.trans ((hE12.out.1.trans (hb13.out.out.mono hE12.out.1.size)).mono HB.out.size)⟩
  · have hze : z = (p : Int) := by have := HE1.out; simpa using this
    subst hze
    clear HE1 HZW
    go_wp2_with (go_at_call 22; (with_reducible refine hI7.out.mono ?_); rintro e w8 ⟨kC, ke, vC, ve, iC, ie, rfl, hb8⟩; refine park ?_; intro q hq)
    have hba : Below w8.heap.size w8 (w8.alloc (.cells #[.bool true, .slice kC mk ke, .slice vC mv ve, .slice iC mi ie] 28)) := (Below.refl _ _).alloc (Nat.le_refl _) _
    have hrow := heap_alloc_new w8 (.cells #[.bool true, .slice kC mk ke, .slice vC mv ve, .slice iC mi ie] 28)
    have hB9 : Hid (Below W4.heap.size W4 (w8.alloc (.cells #[.bool true, .slice kC mk ke, .slice vC mv ve, .slice iC mi ie] 28))) := hB7.out.trans ((hb8.out.2.trans (hba.mono hb8.out.2.size)).mono hB7.out.size)
    have HY9 := Lib.hid (box_cells hrow)
    have HM9 : Hid (NodeAt (w8.alloc (.cells #[.bool true, .slice kC mk ke, .slice vC mv ve, .slice iC mi ie] 28)) M kC ke vC ve iC ie) := hb8.out.1.below hba
    obtain ⟨W9, hW9⟩ : ∃ x, w8.alloc (.cells #[.bool true, .slice kC mk ke, .slice vC mv ve, .slice iC mi ie] 28) = x := ⟨_, rfl⟩
    rw [hW9] at HY9 HM9 hB9
    have HW9 := Lib.hid hW9
    have HF9 := Lib.hid (HF2.out W9 _ _ _ _ _ _ HM9.out)
    rw [← HW9.out] at HF9
    clear hba hrow hb8 hW9 y0 y1 y2 y3 x0 x1 x2 x3 hI7 HF2
    refine hq.out ?_
    clear hq
    go_wp2_with (go_at_call 12; (with_reducible refine HF9.out.mono ?_); rintro e w10 ⟨rfl, hb10⟩; refine park ?_; intro q hq)
    rw [HW9.out] at hb10
    have HM10 := Lib.hid (HRe.out w10 _ _ _ _ _ _ (HM9.out.below hb10.out))
    have hB10 : Hid (Below W4.heap.size W4 w10) := hB9.out.trans (hb10.out.mono hB9.out.size)
    obtain ⟨u0, u1, u2, u3⟩ := HY9.out _ hb10.out
    clear hb10 HF9 HRe HW9
    refine hq.out ?_
    clear hq
    go_wp2_with (go_at_call 23; (with_reducible refine HM10.out.mono ?_); rintro e w11 ⟨kE, kf, vE, vf, iE, jf, rfl, hb11⟩; refine park ?_; intro q hq)
    have hba : Below w11.heap.size w11 (w11.alloc (.cells #[.bool true, .slice kE nk kf, .slice vE nv vf, .slice iE ni jf] 28)) := (Below.refl _ _).alloc (Nat.le_refl _) _
    have hrow := heap_alloc_new w11 (.cells #[.bool true, .slice kE nk kf, .slice vE nv vf, .slice iE ni jf] 28)
    have hB12 : Hid (Below W4.heap.size W4 (w11.alloc (.cells #[.bool true, .slice kE nk kf, .slice vE nv vf, .slice iE ni jf] 28))) := hB10.out.trans ((hb11.out.2.trans (hba.mono hb11.out.2.size)).mono hB10.out.size)
    obtain ⟨v0, v1, v2, v3⟩ := box_cells hrow _ (Below.refl _ _)
    have HN12 : Hid (NodeAt (w11.alloc (.cells #[.bool true, .slice kE nk kf, .slice vE nv vf, .slice iE ni jf] 28)) n kE kf vE vf iE jf) := hb11.out.1.below hba
    have hE12 := Lib.hid (HE.out _ hB12.out)
    have HS12 := Lib.hid (HS0.out _ _ _ _ _ _ _ _ _ _ _ _ _ HN12.out (H.out.below hE12.out.1))
    obtain ⟨x0, x1, x2, x3⟩ := HX.out _ hE12.out.1
    clear hba hrow hb11 u0 u1 u2 u3 HM10
    refine hq.out ?_
    clear hq
    go_wp2_with (go_at_call 19; (with_reducible refine HS12.out.mono ?_); rintro e w13 ⟨rfl, hb13⟩; have hb13 := Lib.hid hb13)
    go_ret
    exact ⟨by simp, HB.out.trans ((hE12.out.1.trans (hb13.out.out.mono hE12.out.1.size)).mono HB.out.size)⟩
end Go.Proofs.YtibmlgkakeakcaaDoor
namespace Go.Proofs.YtibmlgkakeakcaaDoor.nodeFinds
open Go.ChangeShapes Go.WideShapes Go.ChangeAt Go.RowKit Go.Proofs.YtibmlgkakeakcaaDoor
open Go.ChangeMaps (open_string shut_string)
set_option linter.unusedVariables false
set_option linter.unusedSimpArgs false
theorem own : ownKnob Tryd.prog.godebug = none := by kernel_rfl
theorem laidOut : laidOutB Tryd.prog = true := by kernel_rfl
theorem door_met (os : Os) (args : Array Value) : laidMetH Tryd.prog Rows.nodeFindsRow.laid ((World.laidAll Tryd.prog os Rows.nodeFindsRow.laid).forCall (fun _ _ => 0) ⟨#[], args, []⟩).memory :=
  laidMetH_of_parts (laidMet_laidAll args (by kernel_rfl) (by kernel_rfl)) (by kernel_rfl)
set_option maxRecDepth 100000 in
theorem lifted (os : Os) (started : os.Started) (H : Type) (enc : TypeId × Value → H) :
    ReturnsInHanded {} Tryd.checked os 5 .any (fun w args => (Rows.nodeFindsSpec.pre enc Tryd.prog Tryd.f5 Rows.nodeFindsRow.domain false w args ∧ laidMetH Tryd.prog Rows.nodeFindsRow.laid w) ∧ sizedMet enc Tryd.prog Tryd.f5 (OpenSpec.ofChange Rows.nodeFindsSpec) false w args) (Rows.nodeFindsSpec.post enc Tryd.prog Tryd.f5 false true false false) := by
  refine returnsInHanded_of_change_and (C := Tryd.checked) (X := fun w _ => laidMetH Tryd.prog Rows.nodeFindsRow.laid w) (fun _ _ _ hh h => h.of_heap hh) own started (by kernel_rfl) Tryd.func5
    (ChangeSpec.witness_shaped (enc := enc) (C := Tryd.checked) (os := os) (X := fun w _ => laidMetH Tryd.prog Rows.nodeFindsRow.laid w) false (World.laidAll Tryd.prog os Rows.nodeFindsRow.laid) #[.agg #[.bool false, .slice none 0 0, .slice none 0 0, .slice none 0 0], .string ByteArray.empty, .slice none 0 0] 8 (World.laidAll_os _ _ _) (World.shaped_of_RefB (by kernel_rfl) (by kernel_rfl)) (by kernel_rfl) (by kernel_rfl) (by kernel_rfl) (door_met os _)) ?_
  intro W base args ds gs before hval0 hW hcnd hsz0 hL _
  have hsz : (DataW.weightsEach Tryd.prog (Tryd.f5.params.toList ++ Rows.nodeFindsSpec.plain.varTypes Tryd.prog) (ds ++ gs)).all (· ≤ reachBytes) = true := hsz0
  have hval : ∀ (j : Nat) t v, Tryd.f5.params[j]? = some t → args[j]? = some v → Value.okWide Tryd.prog W .any base t v := hval0
  have hW' := hW
  obtain ⟨p, q, hA0, hV, rfl, hfz, hnd⟩ := hW
  have hA : DataW.TrodAll enc Tryd.prog W 0 (fun _ => true) true Tryd.f5.params.toList args.toList ds p := hA0
  rw [Tryd.params5] at hA hval hsz
  obtain ⟨v0, vs0, d0, ds0, p0, q0, hargs, rfl, rfl, h0, r0⟩ := trodAll_cons hA
  obtain ⟨v1, vs1, d1, ds1, p1, q1, rfl, rfl, rfl, h1, r1⟩ := trodAll_cons r0
  obtain ⟨v2, vs2, d2, ds2, p2, q2, rfl, rfl, rfl, h2, r2⟩ := trodAll_cons r1
  obtain ⟨rfl, rfl, rfl⟩ := trodAll_nil r2
  obtain rfl : args = #[v0, v1, v2] := by cases args; simp_all
  obtain ⟨rfl, rfl⟩ := trodVars_none hV
  have k0 := h0
  have lt0 : ∀ x ∈ p0, x.block < W.heap.size := by obtain ⟨m, hm⟩ := k0; exact DataW.trod_lt m _ _ _ hm
  obtain ⟨n0, kA0, kc0, vA0, vc0, iA0, ic0, rfl, hN0⟩ := open_node nodeR_fields nodeR_types nodeR_one (by kernel_rfl) Tryd.underlying4 Tryd.underlying22 Tryd.underlying9 (by kernel_rfl) Tryd.underlying23 Tryd.underlying30 Tryd.underlying5 (by kernel_rfl) (by kernel_rfl) Tryd.underlying24 Tryd.underlying3 (by kernel_rfl) (hval 0 26 v0 rfl rfl) h0
  have hS0 := node_sized hsz (j := 0) (t := 26) rfl rfl nodeR_fields nodeR_types nodeR_one (by kernel_rfl) Tryd.underlying22 Tryd.underlying9 (by kernel_rfl) Tryd.underlying23 Tryd.underlying30 Tryd.underlying5 (by kernel_rfl) (by kernel_rfl) Tryd.underlying24 Tryd.underlying3 (by kernel_rfl) (by kernel_rfl) (by kernel_rfl) (by kernel_rfl) (by kernel_rfl) (hval 0 26 _ rfl rfl) h0 rfl hN0
  obtain ⟨s1, rfl, rfl, rfl, ws1⟩ := open_string Tryd.underlying9 (hval 1 9 v1 rfl rfl) h1
  obtain ⟨l1, rfl⟩ : ∃ l, s1 = bstr l := ⟨s1.data.toList, (bstr_of s1).symm⟩
  have g1 : l1.length ≤ 9223372036854775807 := by rw [← bstr_size]; unfold maxLen at ws1; omega
  obtain ⟨A2, len2, c2, rfl⟩ := okWide_slice Tryd.underlying30 (hval 2 30 v2 rfl rfl)
  have k2 := h2
  have lt2 : ∀ x ∈ p2, x.block < W.heap.size := by obtain ⟨m, hm⟩ := k2; exact DataW.trod_lt m _ _ _ hm
  obtain ⟨l2, rfl, hb2, hn2, hc2, hl2⟩ := open_bytes hsz (j := 2) (t := 30) rfl rfl Tryd.underlying30 Tryd.underlying5 (by kernel_rfl) (by kernel_rfl) h2
  clear hA0 hval0 hsz0 hsz
  refine (nodeFinds_row n0 kA0 kc0 vA0 vc0 iA0 ic0 l1 A2 c2 l2 W (hL) hN0 hS0 g1 hb2 hn2 hc2 hl2).mono fun e W' ⟨he, bel⟩ => ?_
  subst he
  exact ⟨_, rfl, _, _, _, [], _, [], hW', trodAll_mk1 (shut_bool Tryd.underlying4 _), (trodAll_cons_mk (Below.trod laidOut (by kernel_rfl) (of_decide_eq_true (by kernel_rfl)) k0 bel lt0) (trodAll_cons_mk (shut_string Tryd.underlying9 ws1) (trodAll_cons_mk (Below.trod laidOut (by kernel_rfl) (of_decide_eq_true (by kernel_rfl)) k2 bel lt2) trodAll_mk0))), rfl, bel.frame _, fun h => by cases h⟩
theorem over : Rows.nodeFindsRow.holds Tryd.pinned (OpenSpec.ofChange Rows.nodeFindsSpec) :=
  OpenClaim.holds_of_wide 5 Tryd.f5 rfl rfl rfl rfl rfl rfl rfl ⟨rfl, rfl, rfl, rfl, rfl⟩ rfl rfl rfl rfl rfl (by kernel_rfl) Tryd.func5 (by kernel_rfl)
    (of_decide_eq_true (by kernel_rfl)) (by unfold Func.isWrapper; first | (rw [if_pos (by decide +kernel)]; kernel_rfl) | (rw [if_neg (by decide +kernel)]; exact ⟨rfl, rfl⟩))
    (fun os started H enc _ => lifted os started H enc)
theorem wants (t : TypeId) (h : t ∈ [26, 9, 30]) : Tryd.prog.wantsStandIn t = false := by
  revert t h; intro t h
  simp only [List.mem_cons, List.mem_nil_iff, or_false] at h
  rcases h with rfl | rfl | rfl
  all_goals kernel_rfl
theorem proved : Rows.NodeFindsCardSaid :=
  Claim7.holds_tied_plain_at .later [] [.data, .pinned] true (true, "da34bb18c784ab9e87ff9316e9269a9866a8281f7037fee7a0c397eb733ed011") false
    over (fun _ h => by cases h) (by kernel_rfl) (fun _ h => by cases h) nodeFinds_row_tie rfl ⟨rfl, rfl⟩ (by kernel_rfl) rfl
    (fun f fn hf hfn => by
      obtain rfl : f = 5 := Option.some.inj ((show Tryd.prog.funcNamed "tabulary/tabularylaw14.NodeFinds" = some 5 by kernel_rfl).symm.trans hf) |>.symm
      obtain rfl : fn = Tryd.f5 := (Option.some.inj (Tryd.func5.symm.trans hfn)).symm
      exact ⟨by kernel_rfl, fun j t ht => by
        rw [Tryd.params5] at ht
        exact wants t (List.mem_of_getElem? (by simpa using ht))⟩)
    (by kernel_rfl)
end Go.Proofs.YtibmlgkakeakcaaDoor.nodeFinds
namespace Go.Proofs.YtibmlgkakeakcaaDoor
/-- The statement, under a short name. -/
theorem nodeFinds_holds : Rows.NodeFindsCardSaid := nodeFinds.proved
#print axioms nodeFinds_holds
end Go.Proofs.YtibmlgkakeakcaaDoor
