/- The statement of NodeAsks: for every input the law answers true, and each argument reads afterwards as it read before; the listed variables start as the program's text lays them. -/
import Derived.Test.YthpbioffjapmmaaDoorG1
import Derived.BigQuiet
import Derived.Test.YthpbioffjapmmaaDoorG5
import Derived.Test.YthpbioffjapmmaaDoorG4
import Derived.Test.YthpbioffjapmmaaDoorG3
import Derived.Test.YthpbioffjapmmaaDoorRows
import Derived.Test.YthpbioffjapmmaaDoorCards
import Derived.Test.YthpbioffjapmmaaDoorTie
import Derived.WalkKit
import Derived.ProofKit
import Derived.OpenShut
import Derived.ShutString
import Derived.ChangeOld
import Derived.Below
import Derived.SizedLaws
import Derived.ChangeSame
import Derived.ChangeVars
import Derived.JoinedOf
import Derived.RowKit
import Derived.RowKitTokens
import Derived.LaidLaws
import Derived.LaidHandle
import Derived.LaidMore
import Derived.Lib.LaidTab
import Derived.SevenTiedAt
import Derived.Lay
import Derived.Stop.LaidErr
/- Regions that draw their order and whose operations answer alike in every world of a class: one walk of the text's order. -/
set_option linter.unusedSimpArgs false
set_option linter.unusedVariables false
namespace Go.Proofs.YthpbioffjapmmaaDoor
open Go.RowKit
theorem wp_region_class_lit {P : Program} {id : Nat} {Q : Exit → Act → World → Prop} {a : Act} {w : World} {l : List Oper} {T : Type} (fx : T → World) (hm : P.follows .mixedOrders = true) (hB : Region.lexB .any l.toArray = true) (hC : ∃ x, w.drew = fx x)
    (h : wpQuiet P l.toArray (fun w' => ∃ n, w' = fx n) (fun a' => ∀ w', (∃ n, w' = fx n) → Q .normal a' w') l a) : (Code.region id l.toArray true).wp P Q a w :=
  wp_region_quiet (C := fun w' => ∃ n, w' = fx n) hm hB hC (by simpa using h)
/-- A class of worlds as the values of a function. -/
theorem class_of (S : World → Prop) (w : World) (h : S w) : ∃ (T : Type) (fx : T → World), Nonempty T ∧ (∀ x, S (fx x)) ∧ (∀ w', S w' → ∃ x, w' = fx x) ∧ ∃ x, w = fx x :=
  ⟨{w' : World // S w'}, Subtype.val, ⟨⟨w, h⟩⟩, fun x => x.2, fun w' h' => ⟨⟨w', h'⟩, rfl⟩, ⟨w, h⟩, rfl⟩
end Go.Proofs.YthpbioffjapmmaaDoor
/- The walk of NodeAsks. -/
set_option linter.unusedSimpArgs false
set_option linter.unusedVariables false
namespace Go.Proofs.YthpbioffjapmmaaDoor
open Go.RowKit Go.Proofs.YthpbioffjapmmaaDoor.Crc Go.BigFrame
set_option maxRecDepth 10000 in
set_option maxHeartbeats 4000000 in
theorem nodeAsks_row (n : NodeM) (kA : Option Addr) (kc : Nat) (vA : Option Addr) (vc : Nat) (iA : Option Addr) (ic : Nat) (no : Int) (key : List UInt8) (w : World) {X : Prop} (_hx : X) (hN : NodeAt w n kA kc vA vc iA ic) (_g : -9223372036854775808 ≤ no ∧ no ≤ 9223372036854775807) (hkl : key.length ≤ 9223372036854775807) :
    Calls Tryd.prog 3 #[.agg #[.bool n.leaf, .slice kA n.keys.length kc, .slice vA n.vals.length vc, .slice iA n.kids.length ic], .int .i64 no, .string (bstr key)] w fun e w' => e = .returned (.bool true) ∧ Below w.heap.size w w' := by
  obtain ⟨nk, hnk⟩ : ∃ k, n.keys.length = k := ⟨_, rfl⟩
  obtain ⟨nv, hnv⟩ : ∃ k, n.vals.length = k := ⟨_, rfl⟩
  obtain ⟨ni, hni⟩ : ∃ k, n.kids.length = k := ⟨_, rfl⟩
  obtain ⟨lf, hlf⟩ : ∃ k, n.leaf = k := ⟨_, rfl⟩
  obtain ⟨y, hy⟩ : ∃ y, bstr key = y := ⟨_, rfl⟩
  have hysz : y.size = key.length := by rw [← hy, bstr_size]
  have hym : (y.size : Int) ≤ 9223372036854775807 := by omega
  obtain ⟨F, hF⟩ : ∃ F, findN n key = F := ⟨_, rfl⟩
  obtain ⟨fi, fo⟩ := F
  obtain ⟨R, hR⟩ : ∃ R, bytesN no n = R := ⟨_, rfl⟩
  obtain ⟨bl, er⟩ := R
  obtain ⟨tk, htk⟩ : ∃ t, takenB n = t := ⟨_, rfl⟩
  have HG0 : Hid (∀ w' kA kc vA vc iA ic, NodeAt w' n kA kc vA vc iA ic → Calls Tryd.prog 8 #[.agg #[.bool lf, .slice kA nk kc, .slice vA nv vc, .slice iA ni ic]] w' fun e w'' => e = .returned (.bool (greatB n)) ∧ Hid (Below w'.heap.size w' w'')) := fun w' kA kc vA vc iA ic h => by
    rw [← hnk, ← hnv, ← hni, ← hlf]; exact great_calls h
  have HC0 : Hid (Small n → ∀ w' kA kc vA vc iA ic, NodeAt w' n kA kc vA vc iA ic → Calls Tryd.prog 9 #[.agg #[.bool lf, .slice kA nk kc, .slice vA nv vc, .slice iA ni ic]] w' fun e w'' => ∃ kB kd vB vd iB id, e = .returned (.agg #[.bool lf, .slice kB nk kd, .slice vB nv vd, .slice iB ni id]) ∧ Hid (NodeAt w'' n kB kd vB vd iB id ∧ Below w'.heap.size w' w'')) := fun hs w' kA kc vA vc iA ic h => by
    rw [← hnk, ← hnv, ← hni, ← hlf]; exact copied_calls h ⟨by have := hs.k; omega, by have := hs.v; omega, by have := hs.i; omega⟩ (fun v hv => by obtain ⟨i, hi, rfl⟩ := List.getElem_of_mem hv; have := hs.vl i hi; rw [atL_eq _ _ hi] at this; omega)
  have HB0 : Hid (Small n → ∀ w' kA kc vA vc iA ic, NodeAt w' n kA kc vA vc iA ic → Calls Tryd.prog 10 #[.int .i64 no, .agg #[.bool lf, .slice kA nk kc, .slice vA nv vc, .slice iA ni ic]] w' (RetBN w' bl er)) := fun hs w' kA kc vA vc iA ic h => by
    have h := Bytes_calls no h (by have := hs.k; omega)
    rw [hR] at h
    rw [← hnk, ← hnv, ← hni, ← hlf]; exact h
  have HB1 : Hid (Small n → ∀ w' kA kc vA vc iA ic, NodeAt w' n kA kc vA vc iA ic → Calls Tryd.prog 11 #[.int .i64 no, .agg #[.bool lf, .slice kA nk kc, .slice vA nv vc, .slice iA ni ic]] w' (RetBN w' bl er)) := fun hs w' kA kc vA vc iA ic h => by
    have h := ref14Bytes_calls no h (by have := hs.k; omega)
    rw [hR] at h
    rw [← hnk, ← hnv, ← hni, ← hlf]; exact h
  have HF0 : Hid (Small n → ∀ w' kA kc vA vc iA ic, NodeAt w' n kA kc vA vc iA ic → Calls Tryd.prog 12 #[.agg #[.bool lf, .slice kA nk kc, .slice vA nv vc, .slice iA ni ic], .string y] w' fun e w'' => e = .returned (.tuple #[.int .i64 fi, .bool fo]) ∧ Hid (Below w'.heap.size w' w'')) := fun hs w' kA kc vA vc iA ic h => by
    have h := Find_calls key h (by have := hs.k; omega)
    rw [hF, hy] at h
    rw [← hnk, ← hnv, ← hni, ← hlf]; exact h
  have HF1 : Hid (Small n → ∀ w' kA kc vA vc iA ic, NodeAt w' n kA kc vA vc iA ic → Calls Tryd.prog 13 #[.agg #[.bool lf, .slice kA nk kc, .slice vA nv vc, .slice iA ni ic], .string y] w' fun e w'' => e = .returned (.tuple #[.int .i64 fi, .bool fo]) ∧ Hid (Below w'.heap.size w' w'')) := fun hs w' kA kc vA vc iA ic h => by
    have h := ref14Find_calls key h (by have := hs.k; omega)
    rw [hF, hy] at h
    rw [← hnk, ← hnv, ← hni, ← hlf]; exact h
  have HR0 : Hid (∀ w' kA kc vA vc iA ic, NodeAt w' n kA kc vA vc iA ic → Calls Tryd.prog 14 #[.agg #[.bool lf, .slice kA nk kc, .slice vA nv vc, .slice iA ni ic]] w' fun e w'' => e = .returned (.bool (rightB n)) ∧ Below w'.heap.size w' w'') := fun w' kA kc vA vc iA ic h => by
    rw [← hnk, ← hnv, ← hni, ← hlf]; exact Right_calls h
  have HR1 : Hid (∀ w' kA kc vA vc iA ic, NodeAt w' n kA kc vA vc iA ic → Calls Tryd.prog 15 #[.agg #[.bool lf, .slice kA nk kc, .slice vA nv vc, .slice iA ni ic]] w' fun e w'' => e = .returned (.bool (rightB n)) ∧ Below w'.heap.size w' w'') := fun w' kA kc vA vc iA ic h => by
    rw [← hnk, ← hnv, ← hni, ← hlf]; exact refRight_calls h
  have HT0 : Hid (Small n → ∀ w' kA kc vA vc iA ic, NodeAt w' n kA kc vA vc iA ic → Calls Tryd.prog 16 #[.agg #[.bool lf, .slice kA nk kc, .slice vA nv vc, .slice iA ni ic]] w' fun e w'' => e = .returned (.int .i64 (tk : Int)) ∧ Below w'.heap.size w' w'') := fun hs w' kA kc vA vc iA ic h => by
    rw [← hnk, ← hnv, ← hni, ← hlf, ← htk]; exact Taken_calls h (by have := hs.k; omega)
  have HT1 : Hid (Small n → ∀ w' kA kc vA vc iA ic, NodeAt w' n kA kc vA vc iA ic → Calls Tryd.prog 17 #[.agg #[.bool lf, .slice kA nk kc, .slice vA nv vc, .slice iA ni ic]] w' fun e w'' => e = .returned (.int .i64 (tk : Int)) ∧ Below w'.heap.size w' w'') := fun hs w' kA kc vA vc iA ic h => by
    rw [← hnk, ← hnv, ← hni, ← hlf, ← htk]; exact ref14Taken_calls h (by have := hs.k; omega)
  have HFi0 : Hid (Small n → ∀ w' kA kc vA vc iA ic, NodeAt w' n kA kc vA vc iA ic → Calls Tryd.prog 18 #[.agg #[.bool lf, .slice kA nk kc, .slice vA nv vc, .slice iA ni ic]] w' fun e w'' => e = .returned (.bool (fitsB n)) ∧ Below w'.heap.size w' w'') := fun hs w' kA kc vA vc iA ic h => by
    rw [← hnk, ← hnv, ← hni, ← hlf]; exact Fits_calls h (by have := hs.k; omega)
  have HS0 : Hid (∀ w' kA kc vA vc iA ic kB kd vB vd iB id, NodeAt w' n kA kc vA vc iA ic → NodeAt w' n kB kd vB vd iB id → Calls Tryd.prog 19 #[.agg #[.bool lf, .slice kA nk kc, .slice vA nv vc, .slice iA ni ic], .agg #[.bool lf, .slice kB nk kd, .slice vB nv vd, .slice iB ni id]] w' fun e w'' => e = .returned (.bool true) ∧ Hid (Below w'.heap.size w' w'')) := fun w' kA kc vA vc iA ic kB kd vB vd iB id h h' => by
    have h := Same14_calls h h'
    rw [sameB_true rfl] at h
    rw [← hnk, ← hnv, ← hni, ← hlf]; exact h
  have hfb : fitsB n = (rightB n && decide (tk ≤ 244)) := by unfold fitsB; rw [htk]
  have HFB := Lib.hid hfb
  obtain ⟨hb0, hr0⟩ := node_box w (.bool n.leaf) (.slice kA n.keys.length kc) (.slice vA n.vals.length vc) (.slice iA n.kids.length ic) 26
  rw [hnk, hnv, hni, hlf] at hb0 hr0 ⊢
  rw [hy]
  obtain ⟨W0, hW0⟩ : ∃ x, w.alloc (.cells #[.bool lf, .slice kA nk kc, .slice vA nv vc, .slice iA ni ic] 26) = x := ⟨_, rfl⟩
  have HGr := Lib.hid (HG0.out _ _ _ _ _ _ _ (hN.below hb0))
  rw [hW0] at hb0 hr0
  have H := Lib.hid (hN.below hb0)
  have HX := Lib.hid (box_cells hr0)
  have HB := Lib.hid hb0
  have HW := Lib.hid hW0
  obtain ⟨r, hr⟩ : ∃ r, w.heap.size = r := ⟨_, rfl⟩
  have HR := Lib.hid hr
  obtain ⟨bk, hbk⟩ : ∃ b, decide ((y.size : Int) > 200) = b := ⟨_, rfl⟩
  clear hnk hnv hni hlf hb0 hr0 hW0 hN _g hy hysz hF hR htk hfb hr HG0
  go_enter Tryd.func3, Tryd.ntmps3
  go_wp2_with (go_at_call 8; (with_reducible refine HGr.out.mono ?_); rintro e w2 ⟨rfl, hb2⟩; refine park ?_; intro q hq)
  rw [HW.out] at hb2
  have hB2 : Hid (Below W0.heap.size W0 w2) := hb2.out
  clear HGr hb2
  refine hq.out ?_
  clear hq
  cases hG : greatB n
  · cases bk
    · have hS := greatB_small hG
      clear hG
      have HC1 := Lib.hid (HC0.out hS)
      have HBy := Lib.hid (HB0.out hS)
      have HBz := Lib.hid (HB1.out hS)
      have HFa := Lib.hid (HF0.out hS)
      have HFb := Lib.hid (HF1.out hS)
      have HTa := Lib.hid (HT0.out hS)
      have HTb := Lib.hid (HT1.out hS)
      have HFi := Lib.hid (HFi0.out hS)
      clear HC0 HB0 HB1 HF0 HF1 HT0 HT1 HFi0 hS
      obtain ⟨x0, x1, x2, x3⟩ := HX.out _ hB2.out
      have HC := Lib.hid (HC1.out w2 _ _ _ _ _ _ (H.out.below hB2.out))
      go_wp2_with (go_at_call 9; (with_reducible refine HC.out.mono ?_); rintro e w3 ⟨kB, kd, vB, vd, iB, id, rfl, hb3⟩; refine park ?_; intro q hq)
      clear x0 x1 x2 x3 HC hbk
      have hba : Below w3.heap.size w3 (w3.alloc (.cells #[.bool lf, .slice kB nk kd, .slice vB nv vd, .slice iB ni id] 28)) := (Below.refl _ _).alloc (Nat.le_refl _) _
      have hrow := heap_alloc_new w3 (.cells #[.bool lf, .slice kB nk kd, .slice vB nv vd, .slice iB ni id] 28)
      have HE : Hid (∀ w', Below (w3.alloc (.cells #[.bool lf, .slice kB nk kd, .slice vB nv vd, .slice iB ni id] 28)).heap.size (w3.alloc (.cells #[.bool lf, .slice kB nk kd, .slice vB nv vd, .slice iB ni id] 28)) w' → Below W0.heap.size W0 w' ∧ NodeAt w' n kB kd vB vd iB id) := fun w' h => ⟨hB2.out.trans ((hb3.out.2.trans ((hba.trans (h.mono hba.size)).mono hb3.out.2.size)).mono hB2.out.size), hb3.out.1.below (hba.trans (h.mono hba.size))⟩
      have HY := Lib.hid (box_cells hrow)
      have HN4 : Hid (NodeAt (w3.alloc (.cells #[.bool lf, .slice kB nk kd, .slice vB nv vd, .slice iB ni id] 28)) n kB kd vB vd iB id) := hb3.out.1.below hba
      have HBc := Lib.hid (HBy.out _ _ _ _ _ _ _ HN4.out)
      obtain ⟨W4, hW4⟩ : ∃ x, w3.alloc (.cells #[.bool lf, .slice kB nk kd, .slice vB nv vd, .slice iB ni id] 28) = x := ⟨_, rfl⟩
      rw [hW4] at HE HY
      have HW4 := Lib.hid hW4
      obtain ⟨p, hp⟩ : ∃ p, w3.heap.size = p := ⟨_, rfl⟩
      have HP := Lib.hid hp
      clear hW4 hba hrow hb3 HN4 hp
      refine hq.out ?_
      clear hq
      go_wp2_with (go_at_call 10; (with_reducible refine HBc.out.mono ?_); rintro e w5 ⟨A5, c5, rfl, hO5, hb5⟩; refine park ?_; intro q hq)
      rw [HW4.out] at hb5
      have hB5 := Lib.hid hb5
      have hO5 := Lib.hid hO5.bytes
      have hE5 := Lib.hid (HE.out w5 hb5)
      clear hb5 HBc
      refine hq.out ?_
      clear hq
      obtain ⟨x0, x1, x2, x3⟩ := HX.out _ hE5.out.1
      have HBd := Lib.hid (HBz.out w5 _ _ _ _ _ _ (H.out.below hE5.out.1))
      go_wp2_with (go_at_call 11; (with_reducible refine HBd.out.mono ?_); rintro e w6 ⟨A6, c6, rfl, hO6, hb6⟩; refine park ?_; intro q hq)
      have hB6 : Hid (Below W4.heap.size W4 w6) := hB5.out.trans (hb6.mono hB5.out.size)
      have hO6 := Lib.hid hO6.bytes
      have hO56 : Hid (Bytes w6 A5 bl) := hO5.out.below hb6
      have hE6 := Lib.hid (HE.out w6 hB6.out)
      clear hb6 HBd x0 x1 x2 x3 hO5
      refine hq.out ?_
      clear hq
      obtain ⟨y0, y1, y2, y3⟩ := HY.out _ hB6.out
      have HBe := Lib.hid (HFa.out w6 _ _ _ _ _ _ hE6.out.2)
      rw [HP.out] at y0 y1 y2 y3
      simp only [HP.out]
      go_wp2_with (go_at_call 12; (with_reducible refine HBe.out.mono ?_); rintro e w7 ⟨rfl, hb7⟩; refine park ?_; intro q hq)
      have hB7 : Hid (Below W4.heap.size W4 w7) := hB6.out.trans (hb7.out.mono hB6.out.size)
      have hO57 : Hid (Bytes w7 A5 bl) := hO56.out.below hb7.out
      have hO67 : Hid (Bytes w7 A6 bl) := hO6.out.below hb7.out
      have hE7 := Lib.hid (HE.out w7 hB7.out)
      clear hb7 HBe y0 y1 y2 y3 hO56 hO6
      refine hq.out ?_
      clear hq
      obtain ⟨x0, x1, x2, x3⟩ := HX.out _ hE7.out.1
      have HBf := Lib.hid (HFb.out w7 _ _ _ _ _ _ (H.out.below hE7.out.1))
      go_wp2_with (go_at_call 13; (with_reducible refine HBf.out.mono ?_); rintro e w8 ⟨rfl, hb8⟩; refine park ?_; intro q hq)
      have hB8 : Hid (Below W4.heap.size W4 w8) := hB7.out.trans (hb8.out.mono hB7.out.size)
      have hO58 : Hid (Bytes w8 A5 bl) := hO57.out.below hb8.out
      have hO68 : Hid (Bytes w8 A6 bl) := hO67.out.below hb8.out
      have hE8 := Lib.hid (HE.out w8 hB8.out)
      clear hb8 HBf x0 x1 x2 x3 hO57 hO67
      obtain ⟨bl8, hbl8⟩ : ∃ k, bl.length = k := ⟨_, rfl⟩
      obtain ⟨s8, hs8⟩ : ∃ k, bstr bl = k := ⟨_, rfl⟩
      have HK : Hid (∀ w', Hid (Below w8.heap.size w8 w') → w'.cell? ⟨p, 0, none⟩ = some (.bool lf) ∧ w'.cell? ⟨p, 1, none⟩ = some (.slice kB nk kd) ∧ w'.cell? ⟨p, 2, none⟩ = some (.slice vB nv vd) ∧ w'.cell? ⟨p, 3, none⟩ = some (.slice iB ni id) ∧ w'.cell? ⟨r, 0, none⟩ = some (.bool lf) ∧ w'.cell? ⟨r, 1, none⟩ = some (.slice kA nk kc) ∧ w'.cell? ⟨r, 2, none⟩ = some (.slice vA nv vc) ∧ w'.cell? ⟨r, 3, none⟩ = some (.slice iA ni ic) ∧
          (Go.convert 30 9 (.slice A5 bl8 c5)).run Tryd.prog w' = .ok (.string s8) w' ∧ (Go.convert 30 9 (.slice A6 bl8 c6)).run Tryd.prog w' = .ok (.string s8) w' ∧ Hid (Below w8.heap.size w8 w')) := fun w' h => by
        obtain ⟨u0, u1, u2, u3⟩ := HY.out w' (hB8.out.trans (h.out.mono hB8.out.size))
        obtain ⟨v0, v1, v2, v3⟩ := HX.out w' (hE8.out.1.trans (h.out.mono hE8.out.1.size))
        rw [HP.out] at u0 u1 u2 u3
        rw [HR.out] at v0 v1 v2 v3
        rw [← hs8]
        exact ⟨u0, u1, u2, u3, v0, v1, v2, v3, run_str hbl8.symm (hO58.out.below h.out), run_str hbl8.symm (hO68.out.below h.out), h⟩
      have HNA : Hid (∀ w', Hid (Below w8.heap.size w8 w') → NodeAt w' n kA kc vA vc iA ic ∧ NodeAt w' n kB kd vB vd iB id) := fun w' h => ⟨H.out.below (hE8.out.1.trans (h.out.mono hE8.out.1.size)), hE8.out.2.below h.out⟩
      have HBel : Hid (∀ w', Hid (Below w8.heap.size w8 w') → Below w.heap.size w w') := fun w' h => HB.out.trans ((hE8.out.1.trans (h.out.mono hE8.out.1.size)).mono HB.out.size)
      have J1 : Hid (∀ w', Hid (Below w8.heap.size w8 w') → Calls Tryd.prog 14 #[.agg #[.bool lf, .slice kB nk kd, .slice vB nv vd, .slice iB ni id]] w' fun e w'' => e = .returned (.bool (rightB n)) ∧ Hid (Below w8.heap.size w8 w'')) := fun w' h => (HR0.out w' _ _ _ _ _ _ (HNA.out w' h).2).mono fun e w'' ⟨h1, h2⟩ => ⟨h1, h.out.trans (h2.mono h.out.size)⟩
      have J2 : Hid (∀ w', Hid (Below w8.heap.size w8 w') → Calls Tryd.prog 15 #[.agg #[.bool lf, .slice kA nk kc, .slice vA nv vc, .slice iA ni ic]] w' fun e w'' => e = .returned (.bool (rightB n)) ∧ Hid (Below w8.heap.size w8 w'')) := fun w' h => (HR1.out w' _ _ _ _ _ _ (HNA.out w' h).1).mono fun e w'' ⟨h1, h2⟩ => ⟨h1, h.out.trans (h2.mono h.out.size)⟩
      have J3 : Hid (∀ w', Hid (Below w8.heap.size w8 w') → Calls Tryd.prog 16 #[.agg #[.bool lf, .slice kB nk kd, .slice vB nv vd, .slice iB ni id]] w' fun e w'' => e = .returned (.int .i64 (tk : Int)) ∧ Hid (Below w8.heap.size w8 w'')) := fun w' h => (HTa.out w' _ _ _ _ _ _ (HNA.out w' h).2).mono fun e w'' ⟨h1, h2⟩ => ⟨h1, h.out.trans (h2.mono h.out.size)⟩
      have J4 : Hid (∀ w', Hid (Below w8.heap.size w8 w') → Calls Tryd.prog 17 #[.agg #[.bool lf, .slice kA nk kc, .slice vA nv vc, .slice iA ni ic]] w' fun e w'' => e = .returned (.int .i64 (tk : Int)) ∧ Hid (Below w8.heap.size w8 w'')) := fun w' h => (HTb.out w' _ _ _ _ _ _ (HNA.out w' h).1).mono fun e w'' ⟨h1, h2⟩ => ⟨h1, h.out.trans (h2.mono h.out.size)⟩
      have J5 : Hid (∀ w', Hid (Below w8.heap.size w8 w') → Calls Tryd.prog 18 #[.agg #[.bool lf, .slice kB nk kd, .slice vB nv vd, .slice iB ni id]] w' fun e w'' => e = .returned (.bool (fitsB n)) ∧ Hid (Below w8.heap.size w8 w'')) := fun w' h => (HFi.out w' _ _ _ _ _ _ (HNA.out w' h).2).mono fun e w'' ⟨h1, h2⟩ => ⟨h1, h.out.trans (h2.mono h.out.size)⟩
      have J6 : Hid (∀ w', Hid (Below w8.heap.size w8 w') → Calls Tryd.prog 19 #[.agg #[.bool lf, .slice kB nk kd, .slice vB nv vd, .slice iB ni id], .agg #[.bool lf, .slice kA nk kc, .slice vA nv vc, .slice iA ni ic]] w' fun e w'' => e = .returned (.bool true) ∧ Hid (Below w8.heap.size w8 w'')) := fun w' h => (HS0.out w' _ _ _ _ _ _ _ _ _ _ _ _ (HNA.out w' h).2 (HNA.out w' h).1).mono fun e w'' ⟨h1, h2⟩ => ⟨h1, h.out.trans (h2.out.mono h.out.size)⟩
      have J7 : Hid (∀ w', Hid (Below w8.heap.size w8 w') → Calls Tryd.prog 20 #[] w' fun e w'' => e = .returned (.bool true) ∧ Hid (Below w8.heap.size w8 w'')) := fun w' h => (works14_calls w').mono fun e w'' ⟨h1, h2⟩ => ⟨h1, h.out.trans (h2.mono h.out.size)⟩
      clear HR0 HR1 HTa HTb HFi HS0 HNA H HX HY HE hE8 hB8 HC1 HBy HBz HFa HFb hO58 hO68 hE7 hE6 hE5 hB7 hB6 hB5 hB2
      rw [hbl8] at hq
      clear hbl8 hs8
      have hd0 : Hid (Below w8.heap.size w8 w8.drew) := (Below.refl _ _).drew
      refine hq.out ?_
      clear hq
      simp only [HR.out]
      obtain ⟨bT, hbT⟩ : ∃ b, decide (tk ≤ 244) = b := ⟨_, rfl⟩
      obtain ⟨T, hT⟩ : ∃ T : Int, (tk : Int) = T := ⟨_, rfl⟩
      have dT : decide (T ≤ 244) = bT := by rw [← hbT, ← hT]; simp; omega
      rw [hT] at J3 J4
      clear hT
      have hfb := HFB.out
      rw [hbT] at hfb
      clear hbT HFB
      obtain ⟨Wd, fx, hne, hfx, hxf, hx0⟩ := class_of (fun w' => Hid (Below w8.heap.size w8 w')) w8.drew hd0
      have HFX := Lib.hid hfx
      have L1 : Hid (∀ x, Calls Tryd.prog 14 #[.agg #[.bool lf, .slice kB nk kd, .slice vB nv vd, .slice iB ni id]] (fx x) fun e w'' => e = .returned (.bool (rightB n)) ∧ ∃ y, w'' = fx y) := fun x => (J1.out _ (hfx x)).mono fun e w'' ⟨h1, h2⟩ => ⟨h1, hxf _ h2⟩
      have L2 : Hid (∀ x, Calls Tryd.prog 15 #[.agg #[.bool lf, .slice kA nk kc, .slice vA nv vc, .slice iA ni ic]] (fx x) fun e w'' => e = .returned (.bool (rightB n)) ∧ ∃ y, w'' = fx y) := fun x => (J2.out _ (hfx x)).mono fun e w'' ⟨h1, h2⟩ => ⟨h1, hxf _ h2⟩
      have L3 : Hid (∀ x, Calls Tryd.prog 16 #[.agg #[.bool lf, .slice kB nk kd, .slice vB nv vd, .slice iB ni id]] (fx x) fun e w'' => e = .returned (.int .i64 T) ∧ ∃ y, w'' = fx y) := fun x => (J3.out _ (hfx x)).mono fun e w'' ⟨h1, h2⟩ => ⟨h1, hxf _ h2⟩
      have L4 : Hid (∀ x, Calls Tryd.prog 17 #[.agg #[.bool lf, .slice kA nk kc, .slice vA nv vc, .slice iA ni ic]] (fx x) fun e w'' => e = .returned (.int .i64 T) ∧ ∃ y, w'' = fx y) := fun x => (J4.out _ (hfx x)).mono fun e w'' ⟨h1, h2⟩ => ⟨h1, hxf _ h2⟩
      have L5 : Hid (∀ x, Calls Tryd.prog 18 #[.agg #[.bool lf, .slice kB nk kd, .slice vB nv vd, .slice iB ni id]] (fx x) fun e w'' => e = .returned (.bool (fitsB n)) ∧ ∃ y, w'' = fx y) := fun x => (J5.out _ (hfx x)).mono fun e w'' ⟨h1, h2⟩ => ⟨h1, hxf _ h2⟩
      have L6 : Hid (∀ x, Calls Tryd.prog 19 #[.agg #[.bool lf, .slice kB nk kd, .slice vB nv vd, .slice iB ni id], .agg #[.bool lf, .slice kA nk kc, .slice vA nv vc, .slice iA ni ic]] (fx x) fun e w'' => e = .returned (.bool true) ∧ ∃ y, w'' = fx y) := fun x => (J6.out _ (hfx x)).mono fun e w'' ⟨h1, h2⟩ => ⟨h1, hxf _ h2⟩
      have L7 : Hid (∀ x, Calls Tryd.prog 20 #[] (fx x) fun e w'' => e = .returned (.bool true) ∧ ∃ y, w'' = fx y) := fun x => (J7.out _ (hfx x)).mono fun e w'' ⟨h1, h2⟩ => ⟨h1, hxf _ h2⟩
      have f0 : ∀ x, (fx x).cell? ⟨p, 0, none⟩ = some (.bool lf) := fun x => (HK.out _ (hfx x)).1
      have f1 : ∀ x, (fx x).cell? ⟨p, 1, none⟩ = some (.slice kB nk kd) := fun x => (HK.out _ (hfx x)).2.1
      have f2 : ∀ x, (fx x).cell? ⟨p, 2, none⟩ = some (.slice vB nv vd) := fun x => (HK.out _ (hfx x)).2.2.1
      have f3 : ∀ x, (fx x).cell? ⟨p, 3, none⟩ = some (.slice iB ni id) := fun x => (HK.out _ (hfx x)).2.2.2.1
      have f4 : ∀ x, (fx x).cell? ⟨r, 0, none⟩ = some (.bool lf) := fun x => (HK.out _ (hfx x)).2.2.2.2.1
      have f5 : ∀ x, (fx x).cell? ⟨r, 1, none⟩ = some (.slice kA nk kc) := fun x => (HK.out _ (hfx x)).2.2.2.2.2.1
      have f6 : ∀ x, (fx x).cell? ⟨r, 2, none⟩ = some (.slice vA nv vc) := fun x => (HK.out _ (hfx x)).2.2.2.2.2.2.1
      have f7 : ∀ x, (fx x).cell? ⟨r, 3, none⟩ = some (.slice iA ni ic) := fun x => (HK.out _ (hfx x)).2.2.2.2.2.2.2.1
      have f8 : ∀ x, (Go.convert 30 9 (.slice A5 bl8 c5)).run Tryd.prog (fx x) = .ok (.string s8) (fx x) := fun x => (HK.out _ (hfx x)).2.2.2.2.2.2.2.2.1
      have f9 : ∀ x, (Go.convert 30 9 (.slice A6 bl8 c6)).run Tryd.prog (fx x) = .ok (.string s8) (fx x) := fun x => (HK.out _ (hfx x)).2.2.2.2.2.2.2.2.2.1
      have HX0 := Lib.hid hx0
      clear hfx hxf hx0 HK J1 J2 J3 J4 J5 J6 J7 hd0
      cases hrb : rightB n
      · rw [hrb, Bool.false_and] at hfb
        rw [hrb] at L1 L2
        rw [hfb] at L5
        clear hrb hfb
        go_wp2_with fail
        refine wp_region_class_lit fx (by kernel_rfl) (by kernel_rfl) HX0.out ?_
        repeat (go_big_quiet_step (first | (go_at_call 14; exact (L1.out _)) | (go_at_call 15; exact (L2.out _)) | (go_at_call 16; exact (L3.out _)) | (go_at_call 17; exact (L4.out _)) | (go_at_call 18; exact (L5.out _)) | (go_at_call 19; exact (L6.out _)) | (go_at_call 20; exact (L7.out _))))
        refine wpQuiet_nil ?_
        intro w9 hw9
        obtain ⟨x9, rfl⟩ := hw9
        clear f0 f1 f2 f3 f4 f5 f6 f7 f8 f9
        go_wp2_with fail
        go_ret
        exact ⟨by simp, HBel.out _ (HFX.out x9)⟩
      · rw [hrb, Bool.true_and] at hfb
        rw [hrb] at L1 L2
        rw [hfb] at L5
        clear hrb hfb
        go_wp2_with fail
        refine wp_region_class_lit fx (by kernel_rfl) (by kernel_rfl) HX0.out ?_
        repeat (go_big_quiet_step (first | (go_at_call 14; exact (L1.out _)) | (go_at_call 15; exact (L2.out _)) | (go_at_call 16; exact (L3.out _)) | (go_at_call 17; exact (L4.out _)) | (go_at_call 18; exact (L5.out _)) | (go_at_call 19; exact (L6.out _)) | (go_at_call 20; exact (L7.out _))))
        refine wpQuiet_nil ?_
        intro w9 hw9
        obtain ⟨x9, rfl⟩ := hw9
        clear f0 f1 f2 f3 f4 f5 f6 f7 f8 f9
        go_wp2_with fail
        go_ret
        exact ⟨by simp, HBel.out _ (HFX.out x9)⟩
    · go_wp2_with fail
      go_ret
      exact ⟨rfl, HB.out.trans (hB2.out.mono HB.out.size)⟩
  · go_wp2_with fail
    go_ret
    exact ⟨rfl, HB.out.trans (hB2.out.mono HB.out.size)⟩
end Go.Proofs.YthpbioffjapmmaaDoor
namespace Go.Proofs.YthpbioffjapmmaaDoor.nodeAsks
open Go.ChangeShapes Go.WideShapes Go.ChangeAt Go.RowKit Go.Proofs.YthpbioffjapmmaaDoor
open Go.ChangeMaps (open_string shut_string)
set_option linter.unusedVariables false
set_option linter.unusedSimpArgs false
theorem own : ownKnob Tryd.prog.godebug = none := by kernel_rfl
theorem laidOut : laidOutB Tryd.prog = true := by kernel_rfl
theorem door_met (os : Os) (args : Array Value) : laidMetH Tryd.prog Rows.nodeAsksRow.laid ((World.laidAll Tryd.prog os Rows.nodeAsksRow.laid).forCall (fun _ _ => 0) ⟨#[], args, []⟩).memory :=
  laidMetH_of_parts (laidMet_laidAll args (by kernel_rfl) (by kernel_rfl)) (by kernel_rfl)
set_option maxRecDepth 100000 in
theorem lifted (os : Os) (started : os.Started) (H : Type) (enc : TypeId × Value → H) :
    ReturnsInHanded {} Tryd.checked os 3 .any (fun w args => (Rows.nodeAsksSpec.pre enc Tryd.prog Tryd.f3 Rows.nodeAsksRow.domain false w args ∧ laidMetH Tryd.prog Rows.nodeAsksRow.laid w) ∧ sizedMet enc Tryd.prog Tryd.f3 (OpenSpec.ofChange Rows.nodeAsksSpec) false w args) (Rows.nodeAsksSpec.post enc Tryd.prog Tryd.f3 false true false false) := by
  refine returnsInHanded_of_change_and (C := Tryd.checked) (X := fun w _ => laidMetH Tryd.prog Rows.nodeAsksRow.laid w) (fun _ _ _ hh h => h.of_heap hh) own started (by kernel_rfl) Tryd.func3
    (ChangeSpec.witness_shaped (enc := enc) (C := Tryd.checked) (os := os) (X := fun w _ => laidMetH Tryd.prog Rows.nodeAsksRow.laid w) false (World.laidAll Tryd.prog os Rows.nodeAsksRow.laid) #[.agg #[.bool false, .slice none 0 0, .slice none 0 0, .slice none 0 0], .int .i64 0, .string ByteArray.empty] 8 (World.laidAll_os _ _ _) (World.shaped_of_RefB (by kernel_rfl) (by kernel_rfl)) (by kernel_rfl) (by kernel_rfl) (by kernel_rfl) (door_met os _)) ?_
  intro W base args ds gs before hval0 hW hcnd hsz0 hL _
  have hsz : (DataW.weightsEach Tryd.prog (Tryd.f3.params.toList ++ Rows.nodeAsksSpec.plain.varTypes Tryd.prog) (ds ++ gs)).all (· ≤ reachBytes) = true := hsz0
  have hval : ∀ (j : Nat) t v, Tryd.f3.params[j]? = some t → args[j]? = some v → Value.okWide Tryd.prog W .any base t v := hval0
  have hW' := hW
  obtain ⟨p, q, hA0, hV, rfl, hfz, hnd⟩ := hW
  have hA : DataW.TrodAll enc Tryd.prog W 0 (fun _ => true) true Tryd.f3.params.toList args.toList ds p := hA0
  rw [Tryd.params3] at hA hval hsz
  obtain ⟨v0, vs0, d0, ds0, p0, q0, hargs, rfl, rfl, h0, r0⟩ := trodAll_cons hA
  obtain ⟨v1, vs1, d1, ds1, p1, q1, rfl, rfl, rfl, h1, r1⟩ := trodAll_cons r0
  obtain ⟨v2, vs2, d2, ds2, p2, q2, rfl, rfl, rfl, h2, r2⟩ := trodAll_cons r1
  obtain ⟨rfl, rfl, rfl⟩ := trodAll_nil r2
  obtain rfl : args = #[v0, v1, v2] := by cases args; simp_all
  obtain ⟨rfl, rfl⟩ := trodVars_none hV
  have k0 := h0
  have lt0 : ∀ x ∈ p0, x.block < W.heap.size := by obtain ⟨m, hm⟩ := k0; exact DataW.trod_lt m _ _ _ hm
  obtain ⟨n0, kA0, kc0, vA0, vc0, iA0, ic0, rfl, hN0⟩ := open_node nodeR_fields nodeR_types nodeR_one (by kernel_rfl) Tryd.underlying4 Tryd.underlying22 Tryd.underlying9 (by kernel_rfl) Tryd.underlying23 Tryd.underlying30 Tryd.underlying5 (by kernel_rfl) (by kernel_rfl) Tryd.underlying24 Tryd.underlying3 (by kernel_rfl) (hval 0 26 v0 rfl rfl) h0
  obtain ⟨a1, rfl, rfl, rfl, w1⟩ := open_int Tryd.underlying3 (hval 1 3 v1 rfl rfl) h1
  have g1 : -9223372036854775808 ≤ a1 ∧ a1 ≤ 9223372036854775807 := by simp [Lit.wf, IntKind.min, IntKind.max, IntKind.signed, IntKind.bits] at w1; omega
  obtain ⟨s2, rfl, rfl, rfl, ws2⟩ := open_string Tryd.underlying9 (hval 2 9 v2 rfl rfl) h2
  obtain ⟨l2, rfl⟩ : ∃ l, s2 = bstr l := ⟨s2.data.toList, (bstr_of s2).symm⟩
  have g2 : l2.length ≤ 9223372036854775807 := by rw [← bstr_size]; unfold maxLen at ws2; omega
  clear hA0 hval0 hsz0 hsz
  refine (nodeAsks_row n0 kA0 kc0 vA0 vc0 iA0 ic0 a1 l2 W (hL) hN0 g1 g2).mono fun e W' ⟨he, bel⟩ => ?_
  subst he
  exact ⟨_, rfl, _, _, _, [], _, [], hW', trodAll_mk1 (shut_bool Tryd.underlying4 _), (trodAll_cons_mk (Below.trod laidOut (by kernel_rfl) (of_decide_eq_true (by kernel_rfl)) k0 bel lt0) (trodAll_cons_mk (shut_int Tryd.underlying3 w1) (trodAll_cons_mk (shut_string Tryd.underlying9 ws2) trodAll_mk0))), rfl, bel.frame _, fun h => by cases h⟩
theorem over : Rows.nodeAsksRow.holds Tryd.pinned (OpenSpec.ofChange Rows.nodeAsksSpec) :=
  OpenClaim.holds_of_wide 3 Tryd.f3 rfl rfl rfl rfl rfl rfl rfl ⟨rfl, rfl, rfl, rfl, rfl⟩ rfl rfl rfl rfl rfl (by kernel_rfl) Tryd.func3 (by kernel_rfl)
    (of_decide_eq_true (by kernel_rfl)) (by unfold Func.isWrapper; first | (rw [if_pos (by decide +kernel)]; kernel_rfl) | (rw [if_neg (by decide +kernel)]; exact ⟨rfl, rfl⟩))
    (fun os started H enc _ => lifted os started H enc)
theorem wants (t : TypeId) (h : t ∈ [26, 3, 9]) : Tryd.prog.wantsStandIn t = false := by
  revert t h; intro t h
  simp only [List.mem_cons, List.mem_nil_iff, or_false] at h
  rcases h with rfl | rfl | rfl
  all_goals kernel_rfl
theorem proved : Rows.NodeAsksCardSaid :=
  Claim7.holds_tied_plain_at .later [] [.data, .pinned] true (true, "da34bb18c784ab9e87ff9316e9269a9866a8281f7037fee7a0c397eb733ed011") false
    over (fun _ h => by cases h) (by kernel_rfl) (fun _ h => by cases h) nodeAsks_row_tie rfl ⟨rfl, rfl⟩ (by kernel_rfl) rfl
    (fun f fn hf hfn => by
      obtain rfl : f = 3 := Option.some.inj ((show Tryd.prog.funcNamed "tabulary/tabularylaw14.NodeAsks" = some 3 by kernel_rfl).symm.trans hf) |>.symm
      obtain rfl : fn = Tryd.f3 := (Option.some.inj (Tryd.func3.symm.trans hfn)).symm
      exact ⟨by kernel_rfl, fun j t ht => by
        rw [Tryd.params3] at ht
        exact wants t (List.mem_of_getElem? (by simpa using ht))⟩)
    (by kernel_rfl)
end Go.Proofs.YthpbioffjapmmaaDoor.nodeAsks
namespace Go.Proofs.YthpbioffjapmmaaDoor
/-- The statement, under a short name. -/
theorem nodeAsks_holds : Rows.NodeAsksCardSaid := nodeAsks.proved
#print axioms nodeAsks_holds
end Go.Proofs.YthpbioffjapmmaaDoor
