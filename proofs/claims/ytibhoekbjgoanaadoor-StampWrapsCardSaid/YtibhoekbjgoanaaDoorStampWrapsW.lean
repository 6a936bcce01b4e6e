/- The walk of StampWraps. -/
import Derived.Test.YtibhoekbjgoanaaDoorStampL
import Derived.Test.YtibhoekbjgoanaaDoorStampRW
set_option linter.unusedSimpArgs false
set_option linter.unusedVariables false
namespace Go.Proofs.YtibhoekbjgoanaaDoor
open Go.RowKit Go.Proofs.YtibhoekbjgoanaaDoor.Crc
set_option maxRecDepth 100000 in
set_option maxHeartbeats 1000000 in
theorem stampWraps_row (st0 : Int) (k : UInt8) (A : Option Addr) (c : Nat) (l : List UInt8) (w : World) (hh : HalfIs w) (hst : 0 ≤ st0 ∧ st0 ≤ 18446744073709551615) (hb : Bytes w A l) (hnil : A = none → c = 0) (hc : l.length ≤ c) (hl : l.length ≤ 140737488351232) :
    Calls Tryd.prog 4 #[.int .u64 st0, .int .u8 (k.toNat : Int), .slice A l.length c] w fun e w' => e = .returned (.bool true) ∧ Below w.heap.size w w' := by
  obtain ⟨st, rfl⟩ := Int.eq_ofNat_of_zero_le hst.1
  have HSt := Lib.hid hst.2
  have HH := Lib.hid hh
  have HB := Lib.hid hb
  have HN := Lib.hid hnil
  clear hst hh hb hnil
  obtain ⟨k1, k2⟩ := ltu8 k
  go_enter Tryd.func4, Tryd.ntmps4
  by_cases hbig : 1000 < l.length
  · go_wp2_with fail
    go_ret
    exact ⟨rfl, Below.refl _ _⟩
  · have hs : l.length ≤ 1000 := by omega
    go_wp2_with (with_reducible refine park_append ?_; intro q hq)
    refine hq.out ?_
    clear hq
    refine wpList_append_bytes rfl _ _ rfl w.heap.size _ [] rfl (OwnB.lit w _ (Nat.le_refl _) [] [] rfl 0 rfl (by decide)) A l.length c l rfl rfl HN.out (HB.out.alloc _) (by simp; omega) (by simp) ?_
    intro v2 w2 hown2 hg2 _
    have HB2 := Lib.hid (((Below.refl w.heap.size w).alloc (Nat.le_refl _) _).grown hg2 (by simp) (fun k hk => by cases hk; exact Nat.le_refl _))
    have HO2 : Hid (OwnB w2 w.heap.size v2 l) := by have := hown2; rw [List.nil_append] at this; exact this
    clear hown2 hg2
    obtain ⟨A2, c2, rfl, hn2, hlc, hmc⟩ := HO2.out.sl
    have HN2 := Lib.hid hn2
    clear hn2
    have HW := Lib.hid (Wrap_calls st HSt.out k A2 l.length c2 l w2 (HH.out.below HB2.out) rfl HO2.out.bytes HN2.out hl)
    go_wp2_with (go_at_call 17; refine HW.out.mono ?_; rintro e w3 ⟨A3, c3, rfl, hO3, hb3⟩; refine park ?_; intro q hq)
    have HB3 := Lib.hid (HB2.out.trans (hb3.mono HB2.out.size))
    have HO3 := Lib.hid hO3
    have HO23 := Lib.hid (HO2.out.below hb3)
    clear hO3 hb3 HW HO2 HB2
    refine hq.out ?_
    clear hq
    have HR := Lib.hid (refWrap_calls st HSt.out k A l.length c l w3 rfl (HB.out.below HB3.out) HN.out hl)
    go_wp2_with (go_at_call 18; refine HR.out.mono ?_; rintro e w4 ⟨A4, c4, rfl, hO4, hb4⟩; refine park ?_; intro q hq)
    have HB4 := Lib.hid (HB3.out.trans (hb4.mono HB3.out.size))
    have s4 := run_str (c := c4) rfl hO4.bytes
    have s3 := run_str (c := c3) rfl (HO3.out.below hb4).bytes
    have s2 := run_str (c := c2) rfl (HO23.out.below hb4).bytes
    have s0 := run_str (c := c) rfl (HB.out.below HB4.out)
    clear hO4 hb4 HR HO3 HO23 HB3
    refine hq.out ?_
    clear hq
    generalize (wrapR st k l).1 = x at *
    generalize (wrapR st k l).2 = y at *
    have HWk := Lib.hid (works7_calls w4 (HH.out.below HB4.out))
    go_wp2_with (go_at_call 19; refine HWk.out.mono ?_; rintro e w9 ⟨rfl, hb9⟩; have hb9 := Lib.hid hb9)
    go_ret
    exact ⟨rfl, HB4.out.trans (hb9.out.mono HB4.out.size)⟩
end Go.Proofs.YtibhoekbjgoanaaDoor
