/- The walks of CrcSums and CrcJoins. -/
import Derived.Test.YtgodnmlggomaaaaDoorCrcRef
namespace Go.Proofs.YtgodnmlggomaaaaDoor.Crc
open Go.RowKit Go.Proofs.YtgodnmlggomaaaaDoor
set_option linter.unusedSimpArgs false
set_option linter.unusedVariables false

set_option maxHeartbeats 1000000 in
theorem CrcSums_walk (A : Option Addr) (c : Nat) (l : List UInt8) (w : World) (hh : HalfIs w) (hb : Bytes w A l) (hnil : A = none → c = 0) (hc : l.length ≤ c) (hl : l.length ≤ 140737488351232) :
    Calls Tryd.prog 3 #[.slice A l.length c] w fun e w' => e = .returned (.bool true) ∧ Below w.heap.size w w' := by
  have HH := Lib.hid hh
  have HB := Lib.hid hb
  clear hh hb hnil
  have h0 := hid0 w
  have q : (n32 (crc l) == n32 (crc l)) = true := by simp
  go_enter Tryd.func3, Tryd.ntmps3
  by_cases hbig : 5000 < l.length
  · go_wp2
    go_ret
    exact ⟨rfl, Below.refl _ _⟩
  · have hs : l.length ≤ 5000 := by omega
    go_wp2_with (first | (go_at_call 10; refine (Sum_calls A c l _ HH.out HB.out (by unfold maxLen; omega)).mono ?_; rintro e w' ⟨rfl, rfl⟩) | (go_at_call 11; refine (refSum_calls A c _ l _ rfl HB.out (by omega)).mono ?_; rintro e w' ⟨rfl, rfl⟩) | (go_at_call 12; refine (works_calls _ HH.out).mono ?_; rintro e w1 ⟨rfl, hb1⟩))
    go_ret
    exact ⟨rfl, hb1⟩

set_option maxHeartbeats 1000000 in
theorem CrcJoins_walk (a b : BitVec 32) (n : Int) (w : World) (hh : HalfIs w) (hn : -9223372036854775808 ≤ n ∧ n ≤ 9223372036854775807) :
    Calls Tryd.prog 5 #[.int .u32 (n32 a), .int .u32 (n32 b), .int .i64 n] w fun e w' => e = .returned (.bool true) ∧ Below w.heap.size w w' := by
  obtain ⟨_, hn⟩ := hn
  have HH := Lib.hid hh
  clear hh
  have h0 := hid0 w
  have q1 : (n32 (noughts a n) == n32 (noughts a n)) = true := by simp
  have q2 : (n32 (join a b n) == n32 (join a b n)) = true := by simp
  go_enter Tryd.func5, Tryd.ntmps5
  by_cases hbig : 3000 < n
  · go_wp2
    go_ret
    exact ⟨rfl, Below.refl _ _⟩
  · have hs : n ≤ 3000 := by omega
    go_wp2_with (first | (go_at_call 14; refine (from0 (by assumption) (Noughts_calls _ _ _ (by omega))).mono ?_; rintro e w' ⟨rfl, hb1⟩) | (go_at_call 15; refine (from0 (by assumption) (refNoughts_calls _ _ _ (by omega))).mono ?_; rintro e w' ⟨rfl, hb1⟩) | (go_at_call 13; refine (from0 (by assumption) (Join_calls _ _ _ _ (by omega))).mono ?_; rintro e w' ⟨rfl, hb1⟩) | (go_at_call 16; refine (from0 (by assumption) (refJoin_calls _ _ _ _ (by omega))).mono ?_; rintro e w' ⟨rfl, hb1⟩) | (go_at_call 12; refine (from0 (by assumption) (works_calls _ (HH.out.below (show Below w.heap.size w _ from by assumption)))).mono ?_; rintro e w1 ⟨rfl, hb1⟩))
    go_ret
    exact ⟨rfl, by assumption⟩
end Go.Proofs.YtgodnmlggomaaaaDoor.Crc
