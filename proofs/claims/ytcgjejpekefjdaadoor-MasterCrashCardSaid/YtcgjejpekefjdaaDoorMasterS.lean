/- Save refuses. -/
import Derived.Test.YtcgjejpekefjdaaDoorMasterC
import Derived.Test.YtcgjejpekefjdaaDoorDiskC
set_option linter.unusedSimpArgs false
set_option linter.unusedVariables false
namespace Go.Proofs.YtcgjejpekefjdaaDoor
open Go.RowKit Go.Proofs.YtcgjejpekefjdaaDoor.Crc
open Go.Proofs.YtcgjejpekefjdaaDoor.Dsk
set_option maxHeartbeats 400000 in
theorem Save_nil (w : World) (A : Option Addr) (n c : Nat) (ep : Int) : Calls Tryd.prog 13 #[.pointer none, .slice A n c, .int .i64 ep] w fun e w' => e = .returned (.int .i64 1) ∧ w = w' := by
  go_enter Tryd.func13, Tryd.ntmps13
  go_wp2
  go_ret
  exact ⟨rfl, rfl⟩
set_option maxHeartbeats 400000 in
theorem Save_none {w : World} {r : Nat} {x : MasM} (h : MsAt w r none x) (A : Option Addr) (n c : Nat) (ep : Int) : Calls Tryd.prog 13 #[.pointer (some ⟨r, 0, none⟩), .slice A n c, .int .i64 ep] w fun e w' => e = .returned (.int .i64 1) ∧ w = w' := by
  obtain ⟨A0, c0, A1, c1, h1, _⟩ := h
  obtain ⟨k0, _⟩ := h1.cells
  clear h1
  go_enter Tryd.func13, Tryd.ntmps13
  go_wp2
  go_ret
  exact ⟨rfl, rfl⟩
set_option maxHeartbeats 1000000 in
theorem Save_inv {w : World} {r : Nat} {a : Addr} {x : MasM} (h : MsAt w r (some a) x) (A : Option Addr) (n c : Nat) (ep : Int) (he : ep ≤ (x.last.1 : Int) ∨ 1000000000 < ep) : Calls Tryd.prog 13 #[.pointer (some ⟨r, 0, none⟩), .slice A n c, .int .i64 ep] w fun e w' => e = .returned (.int .i64 2) ∧ Below w.heap.size w w' := by
  have HL := Lib.hid (Latest_calls h)
  obtain ⟨A0, c0, A1, c1, h1, _⟩ := h
  obtain ⟨k0, _⟩ := h1.cells
  clear h1
  obtain ⟨l, hl⟩ : ∃ l, x.last = l := ⟨_, rfl⟩
  rw [hl] at HL he
  obtain ⟨le, lf⟩ := l
  simp only at HL he
  clear hl
  by_cases h1 : ep ≤ (le : Int)
  · have d1 : decide (ep ≤ (le : Int)) = true := by simp; omega
    clear h1 he
    go_enter Tryd.func13, Tryd.ntmps13
    go_wp2_with (go_at_call 11; refine HL.out.mono ?_; rintro e w' ⟨A2, c2, rfl, _, _, hb⟩)
    go_ret
    exact ⟨rfl, hb⟩
  · have d1 : decide (ep ≤ (le : Int)) = false := by simp; omega
    have d2 : decide (ep > 1000000000) = true := by simp; omega
    clear h1 he
    go_enter Tryd.func13, Tryd.ntmps13
    go_wp2_with (go_at_call 11; refine HL.out.mono ?_; rintro e w' ⟨A2, c2, rfl, _, _, hb⟩)
    go_ret
    exact ⟨rfl, hb⟩
set_option maxHeartbeats 1000000 in
theorem Save_big {w : World} {r : Nat} {a : Addr} {x : MasM} (h : MsAt w r (some a) x) (A : Option Addr) (n c : Nat) (ep : Int) (he : (x.last.1 : Int) < ep ∧ ep ≤ 1000000000) (hn : 20 < n) : Calls Tryd.prog 13 #[.pointer (some ⟨r, 0, none⟩), .slice A n c, .int .i64 ep] w fun e w' => e = .returned (.int .i64 3) ∧ Below w.heap.size w w' := by
  have HL := Lib.hid (Latest_calls h)
  obtain ⟨A0, c0, A1, c1, h1, _⟩ := h
  obtain ⟨k0, _⟩ := h1.cells
  clear h1
  obtain ⟨l, hl⟩ : ∃ l, x.last = l := ⟨_, rfl⟩
  rw [hl] at HL he
  obtain ⟨le, lf⟩ := l
  simp only at HL he
  clear hl
  have d1 : decide (ep ≤ (le : Int)) = false := by simp; omega
  have d2 : decide (ep > 1000000000) = false := by simp; omega
  have d3 : decide ((n : Int) > 20) = true := by simp; omega
  clear he hn
  go_enter Tryd.func13, Tryd.ntmps13
  go_wp2_with (go_at_call 11; refine HL.out.mono ?_; rintro e w' ⟨A2, c2, rfl, _, _, hb⟩)
  go_ret
  exact ⟨rfl, hb⟩
end Go.Proofs.YtcgjejpekefjdaaDoor
