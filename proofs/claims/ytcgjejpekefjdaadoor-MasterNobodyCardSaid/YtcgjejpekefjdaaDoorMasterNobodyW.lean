/- The walk of MasterNobody. -/
import Derived.Test.YtcgjejpekefjdaaDoorMasterV
set_option linter.unusedSimpArgs false
set_option linter.unusedVariables false
namespace Go.Proofs.YtcgjejpekefjdaaDoor
open Go.RowKit Go.Proofs.YtcgjejpekefjdaaDoor.Crc
open Go.Proofs.YtcgjejpekefjdaaDoor.Dsk
/-- Two things are made: one of the given cells, and the list of no pointer and of it. -/
theorem two_alloc (w : World) (cs : Array Value) (t t2 : TypeId) :
    Below w.heap.size w ((w.alloc (.cells cs t)).alloc (.cells #[.pointer none, .pointer (some ⟨w.heap.size, 0, none⟩)] t2)) ∧
    ((w.alloc (.cells cs t)).alloc (.cells #[.pointer none, .pointer (some ⟨w.heap.size, 0, none⟩)] t2)).heap[w.heap.size]? = some (.cells cs t (0, 0)) ∧
    ((w.alloc (.cells cs t)).alloc (.cells #[.pointer none, .pointer (some ⟨w.heap.size, 0, none⟩)] t2)).heap[w.heap.size + 1]? = some (.cells #[.pointer none, .pointer (some ⟨w.heap.size, 0, none⟩)] t2 (0, 0)) := by
  have hs1 : (w.alloc (.cells cs t)).heap.size = w.heap.size + 1 := by simp
  have a0 := heap_alloc_new w (.cells cs t)
  have b1 := (Below.refl (w.heap.size + 1) (w.alloc (.cells cs t))).alloc (by simp) (.cells #[.pointer none, .pointer (some ⟨w.heap.size, 0, none⟩)] t2)
  have a1 := heap_alloc_new (w.alloc (.cells cs t)) (.cells #[.pointer none, .pointer (some ⟨w.heap.size, 0, none⟩)] t2)
  rw [hs1] at a1
  exact ⟨((Below.refl w.heap.size w).alloc (Nat.le_refl _) _).alloc (by simp) _, (b1.block _ (by omega)).trans a0, a1⟩
set_option maxHeartbeats 400000 in
theorem MOpen_none {p : Option Addr} {w : World} (h : None_ p w) (i : Int) : Calls Tryd.prog 10 #[.pointer p, .int .i64 i] w fun e w' => e = .returned (.tuple #[.pointer none, .int .i64 1]) ∧ w = w' := by
  have HS := Lib.hid (Size_none h)
  clear h
  go_enter Tryd.func10, Tryd.ntmps10
  go_wp2_with (go_at_call 35; refine HS.out.mono ?_; rintro e w' ⟨rfl, rfl⟩)
  go_ret2
  exact ⟨rfl, rfl⟩
/-- A master that is none. -/
structure NoM (p : Option Addr) (w : World) : Prop where
  latest : Calls Tryd.prog 11 #[.pointer p] w fun e w' => ∃ A c, e = .returned (.tuple #[.slice A 0 c, .int .i64 0, .bool false]) ∧ Hid (Below w.heap.size w w')
  slot : Calls Tryd.prog 12 #[.pointer p] w fun e w' => e = .returned (.int .i64 (-1)) ∧ Hid (Below w.heap.size w w')
  save : ∀ (A : Option Addr) (n c : Nat) (ep : Int), Calls Tryd.prog 13 #[.pointer p, .slice A n c, .int .i64 ep] w fun e w' => e = .returned (.int .i64 1) ∧ w = w'
theorem NoM.nil (w : World) : NoM none w :=
  ⟨(Latest_nil w).mono fun e w' ⟨h, h2⟩ => ⟨none, 0, h, by rw [← h2]; exact Below.refl _ _⟩, (Slot_nil w).mono fun e w' ⟨h, h2⟩ => ⟨h, by rw [← h2]; exact Below.refl _ _⟩, fun A n c ep => Save_nil w A n c ep⟩
theorem NoM.zero {w : World} {r : Nat} (h : w.heap[r]? = some (.cells #[.pointer none, .int .i64 0, .int .i64 0, .slice none 0 0, .int .i64 0, .slice none 0 0] 37 (0, 0))) : NoM (some ⟨r, 0, none⟩) w := by
  have hm : MsAt w r none ⟨0, 0, [], 0, []⟩ := ⟨none, 0, none, 0, h, U64o.nil _, U64o.nil _, fun _ => rfl, fun _ => rfl, ⟨Nat.zero_le _, Nat.zero_le _, Nat.zero_le _, Nat.zero_le _, Nat.zero_le _⟩⟩
  exact ⟨(Latest_calls hm).mono fun e w' ⟨A, c, h1, _, _, h2⟩ => ⟨A, c, h1, h2⟩, (Slot_calls hm).mono fun e w' ⟨h1, h2⟩ => ⟨h1, h2⟩, fun A n c ep => Save_none hm A n c ep⟩
set_option maxRecDepth 100000 in
set_option maxHeartbeats 1000000 in
theorem masterNobody_calls (i : Int) (B : Option Addr) (n c : Nat) (ep : Int) (w : World) (hh : HalfIs w) :
    Calls Tryd.prog 3 #[.int .i64 i, .slice B n c, .int .i64 ep] w fun e w' => e = .returned (.bool true) ∧ Below w.heap.size w w' := by
  obtain ⟨hW1, hW2, hW3⟩ := two_alloc w #[.int .i64 0, .map none, .slice none 0 0, .int .i64 0, .bool false, .int .i64 0] 27 23
  obtain ⟨W, hW⟩ : ∃ W, ((w.alloc (.cells #[.int .i64 0, .map none, .slice none 0 0, .int .i64 0, .bool false, .int .i64 0] 27)).alloc (.cells #[.pointer none, .pointer (some ⟨w.heap.size, 0, none⟩)] 23)) = W := ⟨_, rfl⟩
  rw [hW] at hW1 hW2 hW3
  have HH := Lib.hid hh
  have HW1 := Lib.hid hW1
  have HN0 : Hid (∀ wr, Below W.heap.size W wr → wr.cell? ⟨w.heap.size + 1, 0, none⟩ = some (.pointer none) ∧ wr.cell? ⟨w.heap.size + 1, 1, none⟩ = some (.pointer (some ⟨w.heap.size, 0, none⟩)) ∧ None_ (some ⟨w.heap.size, 0, none⟩) wr) := fun wr hb => by
    have e1 := (hb.block _ (Array.getElem?_eq_some_iff.1 hW2).1).trans hW2
    have e2 := (hb.block _ (Array.getElem?_eq_some_iff.1 hW3).1).trans hW3
    exact ⟨by rw [cell_of_row _ _ _ _ _ _ e2]; rfl, by rw [cell_of_row _ _ _ _ _ _ e2]; rfl, None_.zero (by rw [cell_of_row _ _ _ _ _ _ e1]; rfl)⟩
  clear hW1 hW2 hW3 hh
  go_enter Tryd.func3, Tryd.ntmps3
  go_wp2_with fail
  try rw [hW]
  clear hW
  go_loopw [20] (fun s wr => ∃ k : Nat, k ≤ 2 ∧ s = .int .i64 k ∧ Hid (Below W.heap.size W wr)) (fun s _ => 2 - (intOf s).toNat)
  case atStart => exact ⟨0, by omega, rfl, Below.refl _ _⟩
  case round =>
    obtain ⟨k, hk, rfl, HR⟩ := hrel
    obtain ⟨z0, z1, z2⟩ := HN0.out wr HR.out
    by_cases hk0 : k = 0
    · subst hk0
      have HO := Lib.hid (MOpen_none (None_.nil wr) i)
      clear z2
      go_wp2_with (go_at_call 10; refine HO.out.mono ?_; rintro e w' ⟨rfl, rfl⟩)
      go_roundw
      case rel => exact ⟨1, by omega, by go_num, HR⟩
      case measure => simp [intOf]
    by_cases hk1 : k = 1
    · subst hk1
      have HO := Lib.hid (MOpen_none z2 i)
      clear z2
      go_wp2_with (go_at_call 10; refine HO.out.mono ?_; rintro e w' ⟨rfl, rfl⟩)
      go_roundw
      case rel => exact ⟨2, by omega, by go_num, HR⟩
      case measure => simp [intOf]
    obtain rfl : k = 2 := by omega
    rw [show ((2 : Nat) : Int) = (2 : Int) from rfl]
    have HB := Lib.hid (HW1.out.trans (HR.out.mono HW1.out.size))
    obtain ⟨hV1, hV2, hV3⟩ := two_alloc wr #[.pointer none, .int .i64 0, .int .i64 0, .slice none 0 0, .int .i64 0, .slice none 0 0] 37 29
    obtain ⟨V, hV⟩ : ∃ V, ((wr.alloc (.cells #[.pointer none, .int .i64 0, .int .i64 0, .slice none 0 0, .int .i64 0, .slice none 0 0] 37)).alloc (.cells #[.pointer none, .pointer (some ⟨wr.heap.size, 0, none⟩)] 29)) = V := ⟨_, rfl⟩
    rw [hV] at hV1 hV2 hV3
    have HV1 : Hid (Below w.heap.size w V) := HB.out.trans (hV1.mono HB.out.size)
    have HM0 : Hid (∀ wx, Below V.heap.size V wx → wx.cell? ⟨wr.heap.size + 1, 0, none⟩ = some (.pointer none) ∧ wx.cell? ⟨wr.heap.size + 1, 1, none⟩ = some (.pointer (some ⟨wr.heap.size, 0, none⟩)) ∧ NoM (some ⟨wr.heap.size, 0, none⟩) wx) := fun wx hb => by
      have e1 := (hb.block _ (Array.getElem?_eq_some_iff.1 hV2).1).trans hV2
      have e2 := (hb.block _ (Array.getElem?_eq_some_iff.1 hV3).1).trans hV3
      exact ⟨by rw [cell_of_row _ _ _ _ _ _ e2]; rfl, by rw [cell_of_row _ _ _ _ _ _ e2]; rfl, NoM.zero e1⟩
    clear hV1 hV2 hV3 z0 z1 z2 HN0 hk0 hk1 HB HR
    obtain ⟨rs, hrs⟩ : ∃ rs, wr.heap.size = rs := ⟨_, rfl⟩
    rw [hrs] at HM0 hV
    go_wp2_with fail
    go_loopw [41] (fun s wx => ∃ k : Nat, k ≤ 2 ∧ s = .int .i64 k ∧ Hid (Below V.heap.size V wx)) (fun s _ => 2 - (intOf s).toNat)
    case atStart => exact ⟨0, by omega, rfl, Below.refl _ _⟩
    case round =>
      obtain ⟨k, hk, rfl, HR⟩ := hrel
      by_cases hlt : k < 2
      · obtain ⟨z0, z1, z2⟩ := HM0.out _ HR.out
        obtain ⟨p, hp, hpn⟩ : ∃ p, wr.cell? ⟨rs + 1, k, none⟩ = some (.pointer p) ∧ ∀ w', Below V.heap.size V w' → NoM p w' := by
          rcases (show k = 0 ∨ k = 1 by omega) with rfl | rfl
          · exact ⟨none, z0, fun w' _ => NoM.nil w'⟩
          · exact ⟨_, z1, fun w' hb => (HM0.out w' hb).2.2⟩
        have HP := Lib.hid hpn
        have HL := Lib.hid (HP.out wr HR.out).latest
        clear hpn z0 z1 z2 HM0
        go_wp2_with (go_at_call 11; refine HL.out.mono ?_; rintro e w2 ⟨A2, c2, rfl, hb2⟩; refine park ?_; intro q hq)
        refine hq.out ?_
        clear hq HL hp
        have HR2 : Hid (Below V.heap.size V w2) := HR.out.trans (hb2.out.mono HR.out.size)
        have HS := Lib.hid (HP.out w2 HR2.out).slot
        go_wp2_with (go_at_call 12; refine HS.out.mono ?_; rintro e w3 ⟨rfl, hb3⟩; refine park ?_; intro q hq)
        refine hq.out ?_
        clear hq HS
        have HR3 : Hid (Below V.heap.size V w3) := HR2.out.trans (hb3.out.mono HR2.out.size)
        have HSv := Lib.hid ((HP.out w3 HR3.out).save B n c ep)
        clear hb2 hb3 HR HR2
        go_wp2_with (go_at_call 13; refine HSv.out.mono ?_; rintro e w4 ⟨rfl, rfl⟩)
        go_roundw
        case rel => exact ⟨k + 1, by omega, by go_num, HR3⟩
        case measure => simp [intOf]; omega
      · have HB1 : Hid (Below w.heap.size w wr) := HV1.out.trans (HR.out.mono HV1.out.size)
        have HWo := Lib.hid (works10_calls wr (HH.out.below HB1.out))
        go_wp2_with (go_at_call 14; refine HWo.out.mono ?_; rintro e w2 ⟨rfl, hb2⟩; have hb2 := Lib.hid hb2)
        go_ret
        exact ⟨rfl, HB1.out.trans (hb2.out.mono HB1.out.size)⟩
theorem masterNobody_row (i : Int) (B : Option Addr) (c : Nat) (l : List Nat) (ep : Int) (w : World) (hh : HalfIs w) (g0 : -9223372036854775808 ≤ i ∧ i ≤ 9223372036854775807) (hb : U64s w B l) (hn : B = none → c = 0) (hc : l.length ≤ c) (hl : l.length ≤ 140737488351232) (hr : ∀ f ∈ l, f < 18446744073709551616) (g2 : -9223372036854775808 ≤ ep ∧ ep ≤ 9223372036854775807) :
    Calls Tryd.prog 3 #[.int .i64 i, .slice B l.length c, .int .i64 ep] w fun e w' => e = .returned (.bool true) ∧ Below w.heap.size w w' := masterNobody_calls i B l.length c ep w hh
end Go.Proofs.YtcgjejpekefjdaaDoor
