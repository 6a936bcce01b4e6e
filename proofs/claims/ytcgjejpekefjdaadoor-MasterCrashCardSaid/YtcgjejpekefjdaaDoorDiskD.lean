/- The disk: disks that are none. -/
import Derived.Test.YtcgjejpekefjdaaDoorDiskC
set_option linter.unusedSimpArgs false
set_option linter.unusedVariables false
namespace Go.Proofs.YtcgjejpekefjdaaDoor.Dsk
open Go.RowKit
/-- A disk that is none: 'made' says no. -/
def None_ (p : Option Addr) (w : World) : Prop := Calls Tryd.prog 44 #[.pointer p] w fun e w' => e = .returned (.bool false) ∧ w = w'
theorem None_.nil (w : World) : None_ none w := made_nil w
theorem None_.zero {w : World} {a : Nat} (h : w.cell? ⟨a, 0, none⟩ = some (.int .i64 0)) : None_ (some ⟨a, 0, none⟩) w := made_zero a w h
section
variable {p : Option Addr} {w : World}
set_option maxHeartbeats 400000 in
theorem Read_none (h : None_ p w) (i : Int) : Calls Tryd.prog 36 #[.pointer p, .int .i64 i] w fun e w' => e = .returned (.tuple #[.slice none 0 0, .int .i64 1]) ∧ w = w' := by
  have H := Lib.hid (show Calls Tryd.prog 44 #[.pointer p] w fun e w' => e = .returned (.bool false) ∧ w = w' from h)
  clear h
  go_enter Tryd.func36, Tryd.ntmps36
  go_wp2_with (go_at_call 44; refine H.out.mono ?_; rintro e w' ⟨rfl, rfl⟩)
  go_ret2
  exact ⟨rfl, rfl⟩
set_option maxHeartbeats 400000 in
theorem Write_none (h : None_ p w) (i : Int) (v : Value) : Calls Tryd.prog 41 #[.pointer p, .int .i64 i, v] w fun e w' => e = .returned (.int .i64 1) ∧ w = w' := by
  have H := Lib.hid (show Calls Tryd.prog 44 #[.pointer p] w fun e w' => e = .returned (.bool false) ∧ w = w' from h)
  clear h
  go_enter Tryd.func41, Tryd.ntmps41
  go_wp2_with (go_at_call 44; refine H.out.mono ?_; rintro e w' ⟨rfl, rfl⟩)
  go_ret
  exact ⟨rfl, rfl⟩
set_option maxHeartbeats 400000 in
theorem Sync_none (h : None_ p w) : Calls Tryd.prog 42 #[.pointer p] w fun e w' => e = .returned (.int .i64 1) ∧ w = w' := by
  have H := Lib.hid (show Calls Tryd.prog 44 #[.pointer p] w fun e w' => e = .returned (.bool false) ∧ w = w' from h)
  clear h
  go_enter Tryd.func42, Tryd.ntmps42
  go_wp2_with (go_at_call 44; refine H.out.mono ?_; rintro e w' ⟨rfl, rfl⟩)
  go_ret
  exact ⟨rfl, rfl⟩
set_option maxHeartbeats 400000 in
theorem Cut_none (h : None_ p w) (i : Int) : Calls Tryd.prog 17 #[.pointer p, .int .i64 i] w fun e w' => e = .returned (.int .i64 1) ∧ w = w' := by
  have H := Lib.hid (show Calls Tryd.prog 44 #[.pointer p] w fun e w' => e = .returned (.bool false) ∧ w = w' from h)
  clear h
  go_enter Tryd.func17, Tryd.ntmps17
  go_wp2_with (go_at_call 44; refine H.out.mono ?_; rintro e w' ⟨rfl, rfl⟩)
  go_ret
  exact ⟨rfl, rfl⟩
set_option maxHeartbeats 400000 in
theorem Size_none (h : None_ p w) : Calls Tryd.prog 35 #[.pointer p] w fun e w' => e = .returned (.int .i64 0) ∧ w = w' := by
  have H := Lib.hid (show Calls Tryd.prog 44 #[.pointer p] w fun e w' => e = .returned (.bool false) ∧ w = w' from h)
  clear h
  go_enter Tryd.func35, Tryd.ntmps35
  go_wp2_with (go_at_call 44; refine H.out.mono ?_; rintro e w' ⟨rfl, rfl⟩)
  go_ret
  exact ⟨rfl, rfl⟩
set_option maxHeartbeats 400000 in
theorem Steps_none (h : None_ p w) : Calls Tryd.prog 32 #[.pointer p] w fun e w' => e = .returned (.int .i64 0) ∧ w = w' := by
  have H := Lib.hid (show Calls Tryd.prog 44 #[.pointer p] w fun e w' => e = .returned (.bool false) ∧ w = w' from h)
  clear h
  go_enter Tryd.func32, Tryd.ntmps32
  go_wp2_with (go_at_call 44; refine H.out.mono ?_; rintro e w' ⟨rfl, rfl⟩)
  go_ret
  exact ⟨rfl, rfl⟩
set_option maxHeartbeats 400000 in
theorem Pending_none (h : None_ p w) : Calls Tryd.prog 34 #[.pointer p] w fun e w' => e = .returned (.slice none 0 0) ∧ w = w' := by
  have H := Lib.hid (show Calls Tryd.prog 44 #[.pointer p] w fun e w' => e = .returned (.bool false) ∧ w = w' from h)
  clear h
  go_enter Tryd.func34, Tryd.ntmps34
  go_wp2_with (go_at_call 44; refine H.out.mono ?_; rintro e w' ⟨rfl, rfl⟩)
  go_ret
  exact ⟨rfl, rfl⟩
set_option maxRecDepth 100000 in
set_option maxHeartbeats 400000 in
theorem Lose_none (h : ∀ w', Below w.heap.size w w' → None_ p w') (x y z : Value) : Calls Tryd.prog 18 #[.pointer p, .agg #[x, y, z]] w fun e w' => e = .returned (.tuple #[.pointer none, .int .i64 1]) ∧ Below w.heap.size w w' := by
  have hB : Below w.heap.size w (w.alloc (.cells #[x, y, z] 54)) := (Below.refl _ _).alloc (Nat.le_refl _) _
  have HB := Lib.hid hB
  have H := Lib.hid (show Calls Tryd.prog 44 #[.pointer p] (w.alloc (.cells #[x, y, z] 54)) fun e w' => e = .returned (.bool false) ∧ w.alloc (.cells #[x, y, z] 54) = w' from h _ hB)
  clear h hB
  go_enter Tryd.func18, Tryd.ntmps18
  go_wp2_with (first | (go_at_call 44; refine H.out.mono ?_; rintro e w' ⟨rfl, rfl⟩))
  go_ret2
  exact ⟨rfl, HB.out⟩
end
end Go.Proofs.YtcgjejpekefjdaaDoor.Dsk
