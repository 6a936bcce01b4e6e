/- The disk: disks that are none. -/
import Derived.Test.YtehigfpdeoebdaaDiskC
set_option linter.unusedSimpArgs false
set_option linter.unusedVariables false
namespace Go.Proofs.Ytehigfpdeoebdaa.Dsk
open Go.RowKit
/-- A disk that is none: 'made' says no. -/
def None_ (p : Option Addr) (w : World) : Prop := Calls Try.prog 22 #[.pointer p] w fun e w' => e = .returned (.bool false) ∧ w = w'
theorem None_.nil (w : World) : None_ none w := made_nil w
theorem None_.zero {w : World} {a : Nat} (h : w.cell? ⟨a, 0, none⟩ = some (.int .i64 0)) : None_ (some ⟨a, 0, none⟩) w := made_zero a w h
section
variable {p : Option Addr} {w : World}
set_option maxHeartbeats 400000 in
theorem Read_none (h : None_ p w) (i : Int) : Calls Try.prog 21 #[.pointer p, .int .i64 i] w fun e w' => e = .returned (.tuple #[.slice none 0 0, .int .i64 1]) ∧ w = w' := by
  have H := Lib.hid (show Calls Try.prog 22 #[.pointer p] w fun e w' => e = .returned (.bool false) ∧ w = w' from h)
  clear h
  go_enter Try.func21, Try.ntmps21
  go_wp2_with (go_at_call 22; refine H.out.mono ?_; rintro e w' ⟨rfl, rfl⟩)
  go_ret2
  exact ⟨rfl, rfl⟩
set_option maxHeartbeats 400000 in
theorem Write_none (h : None_ p w) (i : Int) (v : Value) : Calls Try.prog 8 #[.pointer p, .int .i64 i, v] w fun e w' => e = .returned (.int .i64 1) ∧ w = w' := by
  have H := Lib.hid (show Calls Try.prog 22 #[.pointer p] w fun e w' => e = .returned (.bool false) ∧ w = w' from h)
  clear h
  go_enter Try.func8, Try.ntmps8
  go_wp2_with (go_at_call 22; refine H.out.mono ?_; rintro e w' ⟨rfl, rfl⟩)
  go_ret
  exact ⟨rfl, rfl⟩
set_option maxHeartbeats 400000 in
theorem Sync_none (h : None_ p w) : Calls Try.prog 10 #[.pointer p] w fun e w' => e = .returned (.int .i64 1) ∧ w = w' := by
  have H := Lib.hid (show Calls Try.prog 22 #[.pointer p] w fun e w' => e = .returned (.bool false) ∧ w = w' from h)
  clear h
  go_enter Try.func10, Try.ntmps10
  go_wp2_with (go_at_call 22; refine H.out.mono ?_; rintro e w' ⟨rfl, rfl⟩)
  go_ret
  exact ⟨rfl, rfl⟩
set_option maxHeartbeats 400000 in
theorem Cut_none (h : None_ p w) (i : Int) : Calls Try.prog 12 #[.pointer p, .int .i64 i] w fun e w' => e = .returned (.int .i64 1) ∧ w = w' := by
  have H := Lib.hid (show Calls Try.prog 22 #[.pointer p] w fun e w' => e = .returned (.bool false) ∧ w = w' from h)
  clear h
  go_enter Try.func12, Try.ntmps12
  go_wp2_with (go_at_call 22; refine H.out.mono ?_; rintro e w' ⟨rfl, rfl⟩)
  go_ret
  exact ⟨rfl, rfl⟩
set_option maxHeartbeats 400000 in
theorem Size_none (h : None_ p w) : Calls Try.prog 28 #[.pointer p] w fun e w' => e = .returned (.int .i64 0) ∧ w = w' := by
  have H := Lib.hid (show Calls Try.prog 22 #[.pointer p] w fun e w' => e = .returned (.bool false) ∧ w = w' from h)
  clear h
  go_enter Try.func28, Try.ntmps28
  go_wp2_with (go_at_call 22; refine H.out.mono ?_; rintro e w' ⟨rfl, rfl⟩)
  go_ret
  exact ⟨rfl, rfl⟩
set_option maxHeartbeats 400000 in
theorem Steps_none (h : None_ p w) : Calls Try.prog 29 #[.pointer p] w fun e w' => e = .returned (.int .i64 0) ∧ w = w' := by
  have H := Lib.hid (show Calls Try.prog 22 #[.pointer p] w fun e w' => e = .returned (.bool false) ∧ w = w' from h)
  clear h
  go_enter Try.func29, Try.ntmps29
  go_wp2_with (go_at_call 22; refine H.out.mono ?_; rintro e w' ⟨rfl, rfl⟩)
  go_ret
  exact ⟨rfl, rfl⟩
set_option maxHeartbeats 400000 in
theorem Pending_none (h : None_ p w) : Calls Try.prog 31 #[.pointer p] w fun e w' => e = .returned (.slice none 0 0) ∧ w = w' := by
  have H := Lib.hid (show Calls Try.prog 22 #[.pointer p] w fun e w' => e = .returned (.bool false) ∧ w = w' from h)
  clear h
  go_enter Try.func31, Try.ntmps31
  go_wp2_with (go_at_call 22; refine H.out.mono ?_; rintro e w' ⟨rfl, rfl⟩)
  go_ret
  exact ⟨rfl, rfl⟩
set_option maxRecDepth 100000 in
set_option maxHeartbeats 400000 in
theorem Lose_none (h : ∀ w', Below w.heap.size w w' → None_ p w') (x y z : Value) : Calls Try.prog 14 #[.pointer p, .agg #[x, y, z]] w fun e w' => e = .returned (.tuple #[.pointer none, .int .i64 1]) ∧ Below w.heap.size w w' := by
  have hB : Below w.heap.size w (w.alloc (.cells #[x, y, z] 33)) := (Below.refl _ _).alloc (Nat.le_refl _) _
  have HB := Lib.hid hB
  have H := Lib.hid (show Calls Try.prog 22 #[.pointer p] (w.alloc (.cells #[x, y, z] 33)) fun e w' => e = .returned (.bool false) ∧ w.alloc (.cells #[x, y, z] 33) = w' from h _ hB)
  clear h hB
  go_enter Try.func14, Try.ntmps14
  go_wp2_with (first | (go_at_call 22; refine H.out.mono ?_; rintro e w' ⟨rfl, rfl⟩))
  go_ret2
  exact ⟨rfl, HB.out⟩
end
end Go.Proofs.Ytehigfpdeoebdaa.Dsk
