/- Pages: words, ends of cells; the walks of page.word, cells, end. -/
import Derived.Test.YtibhoekbjgoanaaDoorCodec
import Derived.Test.YtibhoekbjgoanaaDoorZero
import Derived.Test.YtibhoekbjgoanaaDoorArr
import Derived.Deep.QuietTactic
import Derived.BigQuiet
set_option linter.unusedSimpArgs false
set_option linter.unusedVariables false
namespace Go.Proofs.YtibhoekbjgoanaaDoor
open Go.RowKit Go.Proofs.YtibhoekbjgoanaaDoor.Crc
/-- A number of two bytes, the higher ahead. -/
def wordB (l : List UInt8) (i : Nat) : Nat := (at8 l i).toNat * 256 + (at8 l (i + 1)).toNat
theorem wordB_le (l : List UInt8) (i : Nat) : wordB l i ≤ 65535 := by
  unfold wordB
  have h1 := (at8 l i).toNat_lt
  have h2 := (at8 l (i + 1)).toNat_lt
  omega
theorem i64_or_nat (a b : Nat) (ha : a < 9223372036854775808) (hb : b < 9223372036854775808) : bits .or .i64 (a : Int) (b : Int) = ((a ||| b : Nat) : Int) := by
  have hx : a ||| b < 2 ^ 63 := Nat.or_lt_two_pow (by omega) (by omega)
  show IntKind.i64.wrap ((BitVec.ofInt 64 (a : Int) ||| BitVec.ofInt 64 (b : Int)).toNat : Int) = _
  rw [BitVec.ofInt_natCast, BitVec.ofInt_natCast, BitVec.toNat_or, BitVec.toNat_ofNat, BitVec.toNat_ofNat, Nat.mod_eq_of_lt (by omega), Nat.mod_eq_of_lt (by omega)]
  exact IntWalk.i64_in _ (by omega)
theorem or_word (x y : UInt8) : bits .or .i64 ((x.toNat : Int) * 256) (y.toNat : Int) = ((x.toNat * 256 + y.toNat : Nat) : Int) := by
  have hx := x.toNat_lt
  have hy := y.toNat_lt
  have h := i64_or_nat (x.toNat * 256) y.toNat (by omega) (by omega)
  rw [Int.natCast_mul] at h
  have h2 := Nat.two_pow_add_eq_or_of_lt (i := 8) (b := y.toNat) (by omega) x.toNat
  rw [show (2 : Nat) ^ 8 = 256 from rfl, Nat.mul_comm 256 x.toNat] at h2
  rw [h2]
  exact h
set_option maxHeartbeats 400000 in
theorem word_calls (A : Option Addr) (n c : Nat) (l : List UInt8) (i : Nat) (w : World) (hn : n = l.length) (hb : Bytes w A l) (hi : i + 1 < n) (hs : n ≤ 140737488355328) :
    Calls Tryd.prog 56 #[.slice A n c, .int .i64 (i : Int)] w fun e w' => e = .returned (.int .i64 (wordB l i : Int)) ∧ ∃ m, w' = w.drewN m := by
  obtain ⟨b, o, rfl⟩ := hb.spot (by omega)
  obtain ⟨ad, h, x1⟩ := hb i (by omega)
  cases h
  obtain ⟨ad, h, x2⟩ := hb (i + 1) (by omega)
  cases h
  rw [Addr.add_lit] at x1 x2
  have HW := Lib.hid (or_word (at8 l i) (at8 l (i + 1)))
  have e1 : IntKind.i64.wrap ((i : Int) + 1) = (i : Int) + 1 := IntWalk.i64_in _ (by omega)
  have e2 : 0 ≤ (i : Int) + 1 := by omega
  have e3 : ((i : Int) + 1).toNat = i + 1 := by omega
  have e4 : (i : Int) + 1 < (n : Int) := by omega
  have e5 : (i : Int) < (n : Int) := by omega
  obtain ⟨u1, u2⟩ := ltu8 (at8 l i)
  obtain ⟨u3, u4⟩ := ltu8 (at8 l (i + 1))
  clear hb hn hi
  unfold wordB
  rw [← HW.out]
  go_enter Tryd.func56, Tryd.ntmps56
  go_wp2_with fail
  go_quiet (fail)
  go_wp2_with fail
  go_ret
  exact ⟨rfl, _, rfl⟩
theorem kept_drewN (w : World) (m : Nat) : Below w.heap.size w (w.drewN m) := below_drewN _ _
set_option maxHeartbeats 400000 in
theorem cellsAt_calls (A : Option Addr) (n c : Nat) (l : List UInt8) (w : World) (hn : n = l.length) (hb : Bytes w A l) (hi : 5 < n) (hs : n ≤ 140737488355328) :
    Calls Tryd.prog 53 #[.slice A n c] w fun e w' => e = .returned (.int .i64 (8 + 2 * ((at8 l 5).toNat : Int))) ∧ w = w' := by
  obtain ⟨b, o, rfl⟩ := hb.spot (by omega)
  obtain ⟨ad, h, x1⟩ := hb 5 (by omega)
  cases h
  rw [Addr.add_lit] at x1
  obtain ⟨u1, u2⟩ := ltu8 (at8 l 5)
  have e4 : (5 : Int) < (n : Int) := by omega
  clear hb hn
  go_enter Tryd.func53, Tryd.ntmps53
  go_wp2_with fail
  go_ret
  exact ⟨rfl, rfl⟩
/-- Where a cell ends. -/
def endB (l : List UInt8) (i : Int) : Nat := if i < 0 then 0 else wordB l (8 + 2 * i.toNat)
theorem endB_le (l : List UInt8) (i : Int) : endB l i ≤ 65535 := by
  unfold endB; split
  · omega
  · exact wordB_le _ _
set_option maxHeartbeats 400000 in
theorem end_calls (A : Option Addr) (n c : Nat) (l : List UInt8) (i : Int) (w : World) (hn : n = l.length) (hb : Bytes w A l) (hi : -1 ≤ i) (hi2 : i < 0 ∨ 9 + 2 * i < n) (hs : n ≤ 140737488355328) :
    Calls Tryd.prog 54 #[.slice A n c, .int .i64 i] w fun e w' => e = .returned (.int .i64 (endB l i : Int)) ∧ ∃ m, w' = w.drewN m := by
  by_cases h0 : i < 0
  · have d1 : decide (i < 0) = true := by simpa using h0
    have e : endB l i = 0 := by unfold endB; rw [if_pos h0]
    rw [e]
    clear hb hn h0 e hi2
    go_enter Tryd.func54, Tryd.ntmps54
    go_wp2_with fail
    go_ret
    exact ⟨rfl, 0, rfl⟩
  · have d1 : decide (i < 0) = false := by simpa using h0
    have e : endB l i = wordB l (8 + 2 * i.toNat) := by unfold endB; rw [if_neg h0]
    rw [e]
    obtain ⟨k, rfl⟩ := Int.eq_ofNat_of_zero_le (Int.not_lt.1 h0)
    rw [Int.toNat_natCast]
    have hw := word_calls A n c l (8 + 2 * k) w hn hb (by omega) hs
    have e2 : (((8 + 2 * k : Nat)) : Int) = 8 + 2 * (k : Int) := by omega
    rw [e2] at hw
    have HW := Lib.hid hw
    clear hw hb hn h0 e e2
    go_enter Tryd.func54, Tryd.ntmps54
    go_wp2_with (go_at_call 56; refine HW.out.mono ?_; rintro e w' ⟨rfl, m, rfl⟩)
    go_ret
    exact ⟨rfl, m, rfl⟩
end Go.Proofs.YtibhoekbjgoanaaDoor
