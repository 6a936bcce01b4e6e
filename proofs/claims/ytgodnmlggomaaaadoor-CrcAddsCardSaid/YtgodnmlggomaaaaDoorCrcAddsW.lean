/- The walk of CrcAdds. -/
import Derived.Test.YtgodnmlggomaaaaDoorCrcLaw
namespace Go.Proofs.YtgodnmlggomaaaaDoor.Crc
open Go.RowKit Go.Proofs.YtgodnmlggomaaaaDoor
set_option linter.unusedSimpArgs false
set_option linter.unusedVariables false
attribute [local go_sem] signed_u32 xor32

theorem Noughts0_calls (n : Int) (w : World) (hn : n ≤ 9223372036854775807) :
    Calls Tryd.prog 14 #[.int .u32 0, .int .i64 n] w fun e w' => e = .returned (.int .u32 (n32 (noughts 0#32 n))) ∧ Below w.heap.size w w' :=
  Noughts_calls 0#32 n w hn
theorem Join0_calls (b : BitVec 32) (n : Int) (w : World) (hn : n ≤ 9223372036854775807) :
    Calls Tryd.prog 13 #[.int .u32 0, .int .u32 (n32 b), .int .i64 n] w fun e w' => e = .returned (.int .u32 (n32 (join 0#32 b n))) ∧ Below w.heap.size w w' :=
  Join_calls 0#32 b n w hn

set_option maxHeartbeats 1000000 in
set_option maxRecDepth 100000 in
theorem CrcAdds_walk (a b : BitVec 32) (x y : Int) (w : World) (hh : HalfIs w) (_g : -9223372036854775808 ≤ x ∧ x ≤ 9223372036854775807) (_g' : -9223372036854775808 ≤ y ∧ y ≤ 9223372036854775807) :
    Calls Tryd.prog 6 #[.int .u32 (n32 a), .int .u32 (n32 b), .int .i64 x, .int .i64 y] w fun e w' => e = .returned (.bool true) ∧ Below w.heap.size w w' := by
  have HH := Lib.hid hh
  clear hh _g _g'
  obtain ⟨n, hn, e1⟩ := mod_pick x 4611686018427387904 (by decide)
  obtain ⟨m, hm, e2⟩ := mod_pick y 4611686018427387904 (by decide)
  have e1' : (IntKind.u64.wrap x).tmod (4611686018427387904 : Int) = (n : Int) := e1
  have e2' : (IntKind.u64.wrap y).tmod (4611686018427387904 : Int) = (m : Int) := e2
  clear e1 e2
  have q1 : (n32 (noughts (noughts a n) m) != n32 (noughts a ((n : Int) + m))) = false := by
    rw [noughts_noughts _ _ _ (by omega) (by omega)]; simp
  have q2 : (n32 (noughts a 0) != n32 a) = false := by rw [noughts_none a 0 (by omega)]; simp
  have q3 : (n32 (noughts a (-1)) != n32 a) = false := by rw [noughts_none a (-1) (by omega)]; simp
  have q4 : (n32 (join a b n) == n32 (noughts a n ^^^ b ^^^ noughts 0#32 n)) = true := by rw [join_noughts]; simp
  have q5 : (n32 (join 0#32 b n) == n32 b) = true := by rw [join_zero]; simp
  go_enter Tryd.func6, Tryd.ntmps6
  have h0 := hid0 w
  go_wp2_with (first | (go_at_call 12; refine (from0 (by assumption) (works_calls _ HH.out)).mono ?_; rintro e w1 ⟨rfl, hb1⟩) | (go_at_call 14; (first | (with_reducible refine (from0 (by assumption) (Noughts_calls _ _ _ (by omega))).mono ?_) | (with_reducible refine (from0 (by assumption) (Noughts0_calls _ _ (by omega))).mono ?_)); rintro e w1 ⟨rfl, hb1⟩) | (go_at_call 13; (first | (with_reducible refine (from0 (by assumption) (Join_calls _ _ _ _ (by omega))).mono ?_) | (with_reducible refine (from0 (by assumption) (Join0_calls _ _ _ (by omega))).mono ?_)); rintro e w1 ⟨rfl, hb1⟩))
  go_ret
  exact ⟨rfl, by assumption⟩
end Go.Proofs.YtgodnmlggomaaaaDoor.Crc
