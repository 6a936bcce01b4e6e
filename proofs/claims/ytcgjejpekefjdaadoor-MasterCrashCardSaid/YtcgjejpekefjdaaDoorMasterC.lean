/- Latest. -/
import Derived.Test.YtcgjejpekefjdaaDoorMasterB
import Derived.Deep.RegionHeld3
set_option linter.unusedSimpArgs false
set_option linter.unusedVariables false
namespace Go.Proofs.YtcgjejpekefjdaaDoor
open Go.RowKit Go.Proofs.YtcgjejpekefjdaaDoor.Crc
set_option maxHeartbeats 400000 in
theorem Latest_nil (w : World) : Calls Tryd.prog 11 #[.pointer none] w fun e w' => e = .returned (.tuple #[.slice none 0 0, .int .i64 0, .bool false]) ∧ w = w' := by
  go_enter Tryd.func11, Tryd.ntmps11
  go_wp2_with (go_at_call 12; refine (Slot_nil _).mono ?_; rintro e w' ⟨rfl, rfl⟩)
  go_ret3
  exact ⟨rfl, rfl⟩
set_option maxRecDepth 10000 in
set_option maxHeartbeats 1000000 in
theorem Latest_calls {w : World} {r : Nat} {p : Option Addr} {x : MasM} (h : MsAt w r p x) : Calls Tryd.prog 11 #[.pointer (some ⟨r, 0, none⟩)] w fun e w' =>
    ∃ A c, e = .returned (.tuple #[.slice A x.last.2.length c, .int .i64 (x.last.1 : Int), .bool (decide (0 < x.last.1))]) ∧ (A = none → c = 0) ∧ U64o w' A x.last.2 ∧ Below w.heap.size w w' := by
  have HS := Lib.hid (Slot_calls h)
  have HO := Lib.hid h
  obtain ⟨A0, c0, A1, c1, h1, h2, h3, h4, h5, h6⟩ := h
  by_cases hz : x.e0 = 0 ∧ x.e1 = 0
  · have hs : x.slot = -1 := if_pos hz
    have hl : x.last = (0, []) := if_pos hz
    rw [hs] at HS
    rw [hl]
    clear h1 h2 h3 h4 h5 h6 hs hl hz
    go_enter Tryd.func11, Tryd.ntmps11
    go_wp2_with (go_at_call 12; refine HS.out.mono ?_; rintro e w' ⟨rfl, hb⟩)
    go_ret3
    exact ⟨none, 0, rfl, fun _ => rfl, U64o.nil _, hb⟩
  · by_cases hlt : x.e0 < x.e1
    · have hs : x.slot = 1 := by unfold MasM.slot; rw [if_neg hz, if_pos hlt]
      have hl : x.last = (x.e1, x.f1) := by unfold MasM.last; rw [if_neg hz, if_pos hlt]
      have hd : decide (0 < x.e1) = true := by simp; omega
      rw [hs] at HS
      rw [hl]
      simp only
      rw [hd]
      have H1 : Hid (MsRow w r p x A0 c0 A1 c1 ∧ U64s w A1 x.f1) := ⟨h1, h3.1⟩
      have HR : Hid (∀ w' : World, Below w.heap.size w w' → MsRow w' r p x A0 c0 A1 c1) := fun w' hb => by
        have := H1.out.1
        unfold MsRow at this ⊢
        rw [hb.block r (Array.getElem?_eq_some_iff.1 this).1]; exact this
      have HC : Hid (∀ w', Hid (Below w.heap.size w w') → w'.cell? ⟨r, 4, none⟩ = some (.int .i64 (x.e1 : Int)) ∧ w'.cell? ⟨r, 5, none⟩ = some (.slice A1 x.f1.length c1) ∧ Hid (Below w.heap.size w w')) := fun w' h => ⟨(HR.out w' h.out).cells.2.2.2.2.1, (HR.out w' h.out).cells.2.2.2.2.2, h⟩
      have HCl : Hid (∀ w', Hid (Below w.heap.size w w') → Calls Tryd.prog 38 #[.slice A1 x.f1.length c1] w' fun e w'' => ∃ A' c', e = .returned (.slice A' x.f1.length c') ∧ Hid ((A' = none → c' = 0) ∧ U64o w'' A' x.f1) ∧ Hid (Below w.heap.size w w'')) := fun w' h =>
        (Clone_calls A1 x.f1.length c1 x.f1 w' rfl h5 (H1.out.2.below h.out) (by have := h6.f1; omega)).mono fun _ _ ⟨A', c', e1, e2, e3, _, e4⟩ => ⟨A', c', e1, ⟨e2, e3⟩, h.out.trans (e4.mono h.out.size)⟩
      clear h1 h2 h3 h4 h5 h6 hs hl hz hlt hd
      go_enter Tryd.func11, Tryd.ntmps11
      go_wp2_with (go_at_call 12; refine HS.out.mono ?_; rintro e w' ⟨rfl, hb⟩)
      have HB0 := Lib.hid hb
      clear hb
      have HB1 : Hid (Below w.heap.size w w'.drew) := HB0.out.drew
      go_region_held3 (fun w2 => w2.cell? ⟨r, 4, none⟩ = some (.int .i64 (x.e1 : Int)) ∧ w2.cell? ⟨r, 5, none⟩ = some (.slice A1 x.f1.length c1) ∧ Hid (Below w.heap.size w w2)) (first | assumption | exact HC.out _ HB1 | exact HC.out _ (by assumption)) (first | (go_at_call 38; (with_reducible refine (HCl.out _ (by first | exact HB1 | assumption)).mono ?_); rintro e w4 ⟨A', c', rfl, hu4, hb4⟩))
      go_wp2_with fail
      go_ret3
      exact ⟨A', c', rfl, hu4.out.1, hu4.out.2, hb4.out⟩
    · have hs : x.slot = 0 := by unfold MasM.slot; rw [if_neg hz, if_neg hlt]
      have hl : x.last = (x.e0, x.f0) := by unfold MasM.last; rw [if_neg hz, if_neg hlt]
      have hd : decide (0 < x.e0) = true := by simp; omega
      rw [hs] at HS
      rw [hl]
      simp only
      rw [hd]
      have H1 : Hid (MsRow w r p x A0 c0 A1 c1 ∧ U64s w A0 x.f0) := ⟨h1, h2.1⟩
      have HR : Hid (∀ w' : World, Below w.heap.size w w' → MsRow w' r p x A0 c0 A1 c1) := fun w' hb => by
        have := H1.out.1
        unfold MsRow at this ⊢
        rw [hb.block r (Array.getElem?_eq_some_iff.1 this).1]; exact this
      have HC : Hid (∀ w', Hid (Below w.heap.size w w') → w'.cell? ⟨r, 2, none⟩ = some (.int .i64 (x.e0 : Int)) ∧ w'.cell? ⟨r, 3, none⟩ = some (.slice A0 x.f0.length c0) ∧ Hid (Below w.heap.size w w')) := fun w' h => ⟨(HR.out w' h.out).cells.2.2.1, (HR.out w' h.out).cells.2.2.2.1, h⟩
      have HCl : Hid (∀ w', Hid (Below w.heap.size w w') → Calls Tryd.prog 38 #[.slice A0 x.f0.length c0] w' fun e w'' => ∃ A' c', e = .returned (.slice A' x.f0.length c') ∧ Hid ((A' = none → c' = 0) ∧ U64o w'' A' x.f0) ∧ Hid (Below w.heap.size w w'')) := fun w' h =>
        (Clone_calls A0 x.f0.length c0 x.f0 w' rfl h4 (H1.out.2.below h.out) (by have := h6.f0; omega)).mono fun _ _ ⟨A', c', e1, e2, e3, _, e4⟩ => ⟨A', c', e1, ⟨e2, e3⟩, h.out.trans (e4.mono h.out.size)⟩
      clear h1 h2 h3 h4 h5 h6 hs hl hz hlt hd
      go_enter Tryd.func11, Tryd.ntmps11
      go_wp2_with (go_at_call 12; refine HS.out.mono ?_; rintro e w' ⟨rfl, hb⟩)
      have HB0 := Lib.hid hb
      clear hb
      have HB1 : Hid (Below w.heap.size w w'.drew) := HB0.out.drew
      go_region_held3 (fun w2 => w2.cell? ⟨r, 2, none⟩ = some (.int .i64 (x.e0 : Int)) ∧ w2.cell? ⟨r, 3, none⟩ = some (.slice A0 x.f0.length c0) ∧ Hid (Below w.heap.size w w2)) (first | assumption | exact HC.out _ HB1 | exact HC.out _ (by assumption)) (first | (go_at_call 38; (with_reducible refine (HCl.out _ (by first | exact HB1 | assumption)).mono ?_); rintro e w4 ⟨A', c', rfl, hu4, hb4⟩))
      go_wp2_with fail
      go_ret3
      exact ⟨A', c', rfl, hu4.out.1, hu4.out.2, hb4.out⟩
end Go.Proofs.YtcgjejpekefjdaaDoor
