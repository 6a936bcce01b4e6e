/- The walk of the chapter's examples. -/
import Derived.Test.YtgodnmlggomaaaaDoorCrcWalk2
import Derived.Deep.RegionHeld3
import Derived.Lib.SlBytesConst
namespace Go.Proofs.YtgodnmlggomaaaaDoor.Crc
open Go.RowKit Go.Proofs.YtgodnmlggomaaaaDoor
set_option linter.unusedSimpArgs false
set_option linter.unusedVariables false

def digits : List UInt8 := [49, 50, 51, 52, 53, 54, 55, 56, 57]
theorem HalfIs.below {w w' : World} (h : HalfIs w) (hb : Below w.heap.size w w') : HalfIs w' := fun i hi =>
  (hb.cell (World.block_lt_of_cell? w _ (h i hi))).trans (h i hi)

theorem ex1 : crc digits = 0xcbf43926#32 := by decide +kernel
theorem ex2 : crc [] = 0#32 := by decide
theorem ex3 : join (crc (digits.take 4)) (crc (digits.drop 4)) 5 = 0xcbf43926#32 := by
  have := crc_append (digits.take 4) (digits.drop 4)
  rw [List.take_append_drop, ex1] at this
  exact this.symm
theorem ex4 : sealB [] = [0, 0, 0, 0] := by decide

set_option maxHeartbeats 1000000 in
set_option maxRecDepth 100000 in
theorem works_calls (w : World) (hh : HalfIs w) :
    Calls Tryd.prog 12 #[] w fun e w' => e = .returned (.bool true) ∧ Below w.heap.size w w' := by
  have HH := Lib.hid hh
  clear hh
  go_enter Tryd.func12, Tryd.ntmps12
  have kc := fun (w : World) (C : Array Value) (n c : Nat) => Lib.run_convert_bytes_const (P := Tryd.prog) w 22 5 C n c Tryd.underlying22 Tryd.underlying5
  go_wp2_with fail
  generalize hW1 : w.alloc _ = w1
  have HB1 : Hid (Below w.heap.size w w1) := by rw [← hW1]; exact (Below.refl _ _).alloc (Nat.le_refl _) _
  have HD : Hid (Bytes w1 (some ⟨w.heap.size, 0, none⟩) digits) := by
    rw [← hW1]; exact bytes_of_block (heap_alloc_new w _) rfl
  clear hW1
  refine (Seal_calls none 0 [] w1 (HH.out.below HB1.out) (Bytes.nil _ _) (fun _ => rfl) (by decide)).mono ?_
  rintro e w2 hret
  rw [ex4] at hret
  obtain ⟨A, c, rfl, hown, hb⟩ := hret
  obtain ⟨g, rfl⟩ : ∃ g, A = some ⟨g, 0, none⟩ := by
    rcases hown.form with ⟨h, _⟩ | ⟨g, c', h, _⟩
    · simp at h
    · simp at h; exact ⟨g, h.1⟩
  have hc0 : w2.cell? ⟨g, 0, none⟩ = some (.int .u8 0) := (hown.cells 0 (by decide)).1
  have HB2 := Lib.hid (HB1.out.trans (hb.mono HB1.out.size))
  have HD2 := Lib.hid (HD.out.below hb)
  clear hown hb kc
  have b1 : (n32 (crc digits) == 3421780262) = true := by decide +kernel
  have b2 : (n32 (crc []) == 0) = true := by decide +kernel
  have b3 : (n32 (join (crc (digits.take 4)) (crc (digits.drop 4)) 5) == 3421780262) = true := by rw [ex3]; decide +kernel
  have FH : ∀ w' : World, (w'.cell? ⟨g, 0, none⟩ = some (.int .u8 0) ∧ Hid (Below w2.heap.size w2 w')) → HalfIs w' := fun w' h => HH.out.below (HB2.out.trans (h.2.out.mono HB2.out.size))
  have FD : ∀ w' : World, (w'.cell? ⟨g, 0, none⟩ = some (.int .u8 0) ∧ Hid (Below w2.heap.size w2 w')) → Bytes w' (some ⟨w.heap.size, 0, none⟩) digits := fun w' h => HD2.out.below h.2.out
  have FH := Lib.hid FH
  have FD := Lib.hid FD
  have C1 := Lib.hid (fun w' h => Sum_calls' (some ⟨w.heap.size, 0, none⟩) 9 digits 9 w' rfl (FH.out w' h) (FD.out w' h) (by decide))
  have C2 := Lib.hid (fun w' h => Sum_calls' none 0 [] 0 w' rfl (FH.out w' h) (Bytes.nil _ _) (by decide))
  have C3 := Lib.hid (fun w' h => Sum_calls' (some ⟨w.heap.size, 0, none⟩) 9 (digits.take 4) 4 w' rfl (FH.out w' h) ((FD.out w' h).take 4) (by decide))
  have C4 := Lib.hid (fun w' h => Sum_calls' (some ⟨w.heap.size, 4, none⟩) 5 (digits.drop 4) 5 w' rfl (FH.out w' h) ((FD.out w' h).drop 4) (by decide))
  have C5 := Lib.hid (fun w' (h : w'.cell? ⟨g, 0, none⟩ = some (.int .u8 0) ∧ Hid (Below w2.heap.size w2 w')) => (Join_calls (crc (digits.take 4)) (crc (digits.drop 4)) 5 w' (by decide)).mono (fun e w'' (k : _ ∧ _) => show e = .returned (.int .u32 (n32 (join (crc (digits.take 4)) (crc (digits.drop 4)) 5))) ∧ (w''.cell? ⟨g, 0, none⟩ = some (.int .u8 0) ∧ Hid (Below w2.heap.size w2 w'')) from ⟨k.1, (k.2.cell (World.block_lt_of_cell? w' _ h.1)).trans h.1, h.2.out.trans (k.2.mono h.2.out.size)⟩))
  go_wp2_with fail
  go_region_held3 (fun w' => w'.cell? ⟨g, 0, none⟩ = some (.int .u8 0) ∧ Hid (Below w2.heap.size w2 w')) (first | exact ⟨hc0, (Below.refl _ _).drew⟩ | assumption) (first | (go_at_call 10; (with_reducible refine (C1.out _ (by assumption)).mono ?_); rintro e w' ⟨rfl, rfl⟩) | (go_at_call 10; (with_reducible refine (C2.out _ (by assumption)).mono ?_); rintro e w' ⟨rfl, rfl⟩) | (go_at_call 10; (with_reducible refine (C3.out _ (by assumption)).mono ?_); rintro e w' ⟨rfl, rfl⟩) | (go_at_call 10; (with_reducible refine (C4.out _ (by assumption)).mono ?_); rintro e w' ⟨rfl, rfl⟩) | (go_at_call 13; (with_reducible refine (C5.out _ (by assumption)).mono ?_); rintro e w' ⟨rfl, hj⟩))
  rename_i hq
  go_wp2
  go_ret
  exact ⟨rfl, HB2.out.trans (hq.2.out.mono HB2.out.size)⟩
end Go.Proofs.YtgodnmlggomaaaaDoor.Crc
