/- The disk: Cut, Steps; what a disk answers that is off. -/
import Derived.Test.YtehigfpdeoebdaaDiskS
set_option linter.unusedSimpArgs false
set_option linter.unusedVariables false
namespace Go.Proofs.Ytehigfpdeoebdaa.Dsk
open Go.RowKit
section
variable {w : World} {base a m : Nat} {wv : Value} {d : DiskM}
set_option maxRecDepth 100000 in
set_option maxHeartbeats 400000 in
theorem Write_off (h : DiskAt w base a m wv d) (i : Int) (hi : 0 ≤ i ∧ i < d.size) (ho : d.isOff = true) (A : Option Addr) (c : Nat) :
    Calls Try.prog 8 #[.pointer (some ⟨a, 0, none⟩), .int .i64 i, .slice A 256 c] w fun e w' => e = .returned (.int .i64 10) ∧ w = w' := by
  have hh := has_calls h i
  have hf := off_calls h
  rw [show decide (0 ≤ i ∧ i < d.size) = true by simpa using hi] at hh
  rw [ho] at hf
  have HM := Lib.hid (made_calls h)
  have HH := Lib.hid hh
  have HF := Lib.hid hf
  clear h hh hf
  go_enter Try.func8, Try.ntmps8
  go_wp2_with (first | (go_at_call 22; refine HM.out.mono ?_; rintro e w' ⟨rfl, rfl⟩) | (go_at_call 23; refine HH.out.mono ?_; rintro e w' ⟨rfl, rfl⟩) | (go_at_call 24; refine HF.out.mono ?_; rintro e w' ⟨rfl, rfl⟩))
  go_ret
  exact ⟨rfl, rfl⟩
set_option maxHeartbeats 400000 in
theorem Sync_off (h : DiskAt w base a m wv d) (ho : d.isOff = true) : Calls Try.prog 10 #[.pointer (some ⟨a, 0, none⟩)] w fun e w' => e = .returned (.int .i64 10) ∧ w = w' := by
  have hf := off_calls h
  rw [ho] at hf
  have HM := Lib.hid (made_calls h)
  have HF := Lib.hid hf
  clear h hf
  go_enter Try.func10, Try.ntmps10
  go_wp2_with (first | (go_at_call 22; refine HM.out.mono ?_; rintro e w' ⟨rfl, rfl⟩) | (go_at_call 24; refine HF.out.mono ?_; rintro e w' ⟨rfl, rfl⟩))
  go_ret
  exact ⟨rfl, rfl⟩
set_option maxHeartbeats 400000 in
theorem Read_off (h : DiskAt w base a m wv d) (i : Int) (hi : 0 ≤ i ∧ i < d.size) (ho : d.isOff = true) :
    Calls Try.prog 21 #[.pointer (some ⟨a, 0, none⟩), .int .i64 i] w fun e w' => e = .returned (.tuple #[.slice none 0 0, .int .i64 10]) ∧ w = w' := by
  have hh := has_calls h i
  have hf := off_calls h
  rw [show decide (0 ≤ i ∧ i < d.size) = true by simpa using hi] at hh
  rw [ho] at hf
  have HM := Lib.hid (made_calls h)
  have HH := Lib.hid hh
  have HF := Lib.hid hf
  clear h hh hf
  go_enter Try.func21, Try.ntmps21
  go_wp2_with (first | (go_at_call 22; refine HM.out.mono ?_; rintro e w' ⟨rfl, rfl⟩) | (go_at_call 23; refine HH.out.mono ?_; rintro e w' ⟨rfl, rfl⟩) | (go_at_call 24; refine HF.out.mono ?_; rintro e w' ⟨rfl, rfl⟩))
  go_ret2
  exact ⟨rfl, rfl⟩
set_option maxHeartbeats 400000 in
theorem Steps_calls (h : DiskAt w base a m wv d) : Calls Try.prog 29 #[.pointer (some ⟨a, 0, none⟩)] w fun e w' => e = .returned (.int .i64 d.steps) ∧ w = w' := by
  have HM := Lib.hid (made_calls h)
  have c3 := h.c3
  clear h
  go_enter Try.func29, Try.ntmps29
  go_wp2_with (go_at_call 22; refine HM.out.mono ?_; rintro e w' ⟨rfl, rfl⟩)
  go_ret
  exact ⟨rfl, rfl⟩
set_option maxHeartbeats 400000 in
theorem Cut_calls (h : DiskAt w base a m wv d) (n : Int) (hn : 0 ≤ n ∧ n ≤ 9223372036854775807) (ho : d.isOff = false) :
    Calls Try.prog 12 #[.pointer (some ⟨a, 0, none⟩), .int .i64 n] w fun e w' => e = .returned (.int .i64 0) ∧ DiskAt w' base a m wv { d with cut := true, left := n } ∧ Kept (· = a) w w' := by
  have hf := off_calls h
  rw [ho] at hf
  have HM := Lib.hid (made_calls h)
  have HF := Lib.hid hf
  have c4 := h.c4
  have c5 := h.c5
  have f4 := h.fr 4
  have f5 := h.fr 5
  have e0 : decide (n < (0 : Int)) = false := by simp; omega
  have o := h.ok
  have hD : DiskAt ((w.setCell ⟨a, 4, none⟩ (.bool true)).setCell ⟨a, 5, none⟩ (.int .i64 n)) base a m wv { d with cut := true, left := n } := by
    have k1 : DiskAt (w.setCell ⟨a, 4, none⟩ (.bool true)) base a m wv { d with cut := true } := h.put 4 _ _ ⟨o.hlen, o.wlen, o.size, o.bud, o.steps, o.left⟩ rfl rfl rfl rfl
    exact k1.put 5 _ _ ⟨o.hlen, o.wlen, o.size, o.bud, o.steps, hn⟩ rfl rfl rfl rfl
  have HD := Lib.hid hD
  clear h hf hD o
  go_enter Try.func12, Try.ntmps12
  go_wp2_with (first | (go_at_call 22; refine HM.out.mono ?_; rintro e w' ⟨rfl, rfl⟩) | (go_at_call 24; refine HF.out.mono ?_; rintro e w' ⟨rfl, rfl⟩))
  go_ret
  exact ⟨rfl, HD.out, (Kept.set1 w a 4 _).trans (Kept.set1 _ a 5 _)⟩
end
end Go.Proofs.Ytehigfpdeoebdaa.Dsk
