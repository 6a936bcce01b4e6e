/- The walk of PageOpens. -/
import Derived.Test.YtibhoekbjgoanaaDoorPagePC
import Derived.Test.YtibhoekbjgoanaaDoorPageU
set_option linter.unusedSimpArgs false
set_option linter.unusedVariables false
namespace Go.Proofs.YtibhoekbjgoanaaDoor
open Go.RowKit Go.Proofs.YtibhoekbjgoanaaDoor.Crc
attribute [local irreducible] sealP openP
set_option maxRecDepth 100000 in
set_option maxHeartbeats 1000000 in
theorem pageOpens_row (A : Option Addr) (c : Nat) (l : List UInt8) (no : Int) (w : World) (hh : HalfIs w) (hb : Bytes w A l) (hnil : A = none → c = 0) (hc : l.length ≤ c) (hl : l.length ≤ 140737488351232) (_g : -9223372036854775808 ≤ no ∧ no ≤ 9223372036854775807) :
    Calls Tryd.prog 10 #[.slice A l.length c, .int .i64 no] w fun e w' => e = .returned (.bool true) ∧ Below w.heap.size w w' := by
  have HH := Lib.hid hh
  have HB := Lib.hid hb
  have HN := Lib.hid hnil
  clear hh hb hnil _g
  go_enter Tryd.func10, Tryd.ntmps10
  by_cases hbig : 400 < l.length
  · have d1 : decide ((l.length : Int) > 400) = true := by simp; omega
    go_wp2_with fail
    go_ret
    exact ⟨rfl, Below.refl _ _⟩
  · have d1 : decide ((l.length : Int) > 400) = false := by simp; omega
    have hs : l.length ≤ 400 := by omega
    go_wp2_with (with_reducible refine park_append ?_; intro q hq)
    refine hq.out ?_
    clear hq
    refine wpList_append_bytes rfl _ _ rfl w.heap.size _ [] rfl (OwnB.lit w _ (Nat.le_refl _) [] [] rfl 0 rfl (by decide)) A l.length c l rfl rfl HN.out (HB.out.alloc _) (by simp; omega) (by simp) ?_
    intro v2 w2 hown2 hg2 _
    have HB2 := Lib.hid (((Below.refl w.heap.size w).alloc (Nat.le_refl _) _).grown hg2 (by simp) (fun k hk => by cases hk; exact Nat.le_refl _))
    have HO2 : Hid (OwnB w2 w.heap.size v2 l) := by have := hown2; rw [List.nil_append] at this; exact this
    clear hown2 hg2
    obtain ⟨A2, c2, rfl, _, hlc, hmc⟩ := HO2.out.sl
    have HS1 := Lib.hid (SealP_calls A2 l.length c2 l w2 (HH.out.below HB2.out) rfl HO2.out.bytes hlc hmc (by omega))
    have HS2 := Lib.hid (fun (w' : World) (h : Below w.heap.size w w') => refPSeal_calls A l.length c l w' rfl (HB.out.below h) hc)
    have HO1 := Lib.hid (fun (w' : World) (h : Below w2.heap.size w2 w') => OpenP_calls A2 l.length c2 l no w' (HH.out.below (HB2.out.trans (h.mono HB2.out.size))) rfl (HO2.out.below h).bytes hlc hmc (by omega))
    have HR1 := Lib.hid (fun (w' : World) (h : Below w.heap.size w w') => refPOpen_calls A l.length c l no w' rfl (HB.out.below h) hc (by omega))
    obtain ⟨S, hS⟩ : ∃ S, sealP l = S := ⟨_, rfl⟩
    obtain ⟨R, hR⟩ : ∃ R, openP l no = R := ⟨_, rfl⟩
    rw [hS] at HS1 HS2
    rw [hR] at HO1 HR1
    obtain ⟨xs, e1⟩ := S
    obtain ⟨us, e2⟩ := R
    have hxl : xs.length ≤ 260 := by
      have : xs = (sealP l).1 := by rw [hS]
      rw [this]
      unfold sealP
      split
      · show (sealB (l.take 252)).length ≤ 260
        rw [sealB_length, List.length_take]; omega
      · simp
    clear hS hR
    go_wp2_with (go_at_call 32; (with_reducible refine HS1.out.mono ?_); rintro e w3 ⟨A3, c3, rfl, hO3, hb3⟩; refine park ?_; intro q hq)
    have HB3 : Hid (Below w.heap.size w w3) := HB2.out.trans (hb3.mono HB2.out.size)
    have H23 : Hid (Below w2.heap.size w2 w3) := hb3
    have HO3 : Hid (OwnB w3 w2.heap.size (.slice A3 xs.length c3) xs) := hO3
    have HO23 := Lib.hid (HO2.out.below hb3)
    clear hO3 hb3 HS1
    refine hq.out ?_
    clear hq
    have HS := Lib.hid (HS2.out w3 HB3.out)
    go_wp2_with (go_at_call 33; (with_reducible refine HS.out.mono ?_); rintro e w4 ⟨A4, c4, rfl, hO4, hb4⟩; refine park ?_; intro q hq)
    have HB4 : Hid (Below w.heap.size w w4) := HB3.out.trans (hb4.mono HB3.out.size)
    have H24 : Hid (Below w2.heap.size w2 w4) := H23.out.trans (hb4.mono H23.out.size)
    have HO4 : Hid (OwnB w4 w3.heap.size (.slice A4 xs.length c4) xs) := hO4
    have HO34 := Lib.hid (HO3.out.below hb4)
    have HO24 := Lib.hid (HO23.out.below hb4)
    clear hO4 hb4 HS HS2 HO3 HO23 HB3 H23
    refine hq.out ?_
    clear hq
    have HO := Lib.hid (HO1.out w4 H24.out)
    go_wp2_with (go_at_call 34; (with_reducible refine HO.out.mono ?_); rintro e w5 ⟨A5, c5, rfl, hO5, hb5⟩; refine park ?_; intro q hq)
    have HB5 : Hid (Below w.heap.size w w5) := HB4.out.trans (hb5.mono HB4.out.size)
    have HO5 : Hid (OwnB w5 w4.heap.size (.slice A5 us.length c5) us) := hO5
    have HO45 := Lib.hid (HO4.out.below hb5)
    have HO35 := Lib.hid (HO34.out.below hb5)
    have HO25 := Lib.hid (HO24.out.below hb5)
    clear hO5 hb5 HO HO1 HO4 HO34 HO24 HB4 H24
    refine hq.out ?_
    clear hq
    have HR := Lib.hid (HR1.out w5 HB5.out)
    go_wp2_with (go_at_call 35; (with_reducible refine HR.out.mono ?_); rintro e w6 ⟨A6, c6, rfl, hO6, hb6⟩; refine park ?_; intro q hq)
    have HB6 : Hid (Below w.heap.size w w6) := HB5.out.trans (hb6.mono HB5.out.size)
    have HO6 : Hid (OwnB w6 w5.heap.size (.slice A6 us.length c6) us) := hO6
    have HO46 := Lib.hid (HO45.out.below hb6)
    have HO36 := Lib.hid (HO35.out.below hb6)
    have HO26 := Lib.hid (HO25.out.below hb6)
    have HO56 := Lib.hid (HO5.out.below hb6)
    clear hO6 hb6 HR HR1 HO5 HO45 HO35 HO25 HB5
    refine hq.out ?_
    clear hq
    obtain ⟨n, hn⟩ : ∃ n, xs.length = n := ⟨_, rfl⟩
    have HNx := Lib.hid hn
    rw [hn] at HO46 HO36 hxl ⊢
    obtain ⟨nu, hnu⟩ : ∃ nu, us.length = nu := ⟨_, rfl⟩
    have HNu := Lib.hid hnu
    rw [hnu] at HO56 HO6 ⊢
    obtain ⟨nl, hnl⟩ : ∃ nl, l.length = nl := ⟨_, rfl⟩
    have HNl := Lib.hid hnl
    rw [hnl] at HO26 ⊢
    clear hn hnu hnl
    go_wp2_with fail
    go_loopw [45] (fun i wr => ∃ k : Nat, k ≤ n ∧ i = .int .i64 (k : Int) ∧ Hid (∃ m, wr = w6.drewN m)) (fun i _ => n - (intOf i).toNat)
    case atStart => exact ⟨0, Nat.zero_le _, rfl, 0, rfl⟩
    case round =>
      obtain ⟨k, hk, rfl, HM⟩ := hrel
      obtain ⟨m, hm⟩ := HM.out
      have hbw : Below w6.heap.size w6 wr := by rw [hm]; exact kept_drewN w6 m
      by_cases hlt : k < n
      · have hB3 := (HO36.out.below hbw).bytes
        have hB4 := (HO46.out.below hbw).bytes
        obtain ⟨b3, o3, rfl⟩ := hB3.spot (by rw [HNx.out]; omega)
        obtain ⟨b4, o4, rfl⟩ := hB4.spot (by rw [HNx.out]; omega)
        obtain ⟨ad, h, x3⟩ := hB3 k (by rw [HNx.out]; exact hlt)
        cases h
        obtain ⟨ad, h, x4⟩ := hB4 k (by rw [HNx.out]; exact hlt)
        cases h
        rw [Addr.add_lit] at x3 x4
        obtain ⟨z, hz⟩ : ∃ z, (at8 xs k).toNat = z := ⟨_, rfl⟩
        rw [hz] at x3 x4
        have q1 : (k : Int) < (n : Int) := by omega
        have q2 : decide (k < n) = true := by simpa using hlt
        have HMm := Lib.hid hm
        clear hB3 hB4 hbw hz hm HM
        go_wp2_with fail
        go_quiet (fail)
        go_wp2_with fail
        go_roundw
        case rel => exact ⟨k + 1, by omega, by go_num, ⟨m + nq, by rw [HMm.out, World.drewN_drewN]⟩⟩
        case measure => simp [intOf]; omega
      · have hkn : k = n := by omega
        have s1 := run_str (w := wr) (m := nu) (c := c5) HNu.out.symm (HO56.out.below hbw).bytes
        have s2 := run_str (w := wr) (m := nu) (c := c6) HNu.out.symm (HO6.out.below hbw).bytes
        have s3 := run_str (w := wr) (m := nl) (c := c2) HNl.out.symm (HO26.out.below hbw).bytes
        have s4 := run_str (w := wr) (m := nl) (c := c) HNl.out.symm ((HB.out.below HB6.out).below hbw)
        have HBr : Hid (Below w.heap.size w wr) := HB6.out.trans (hbw.mono HB6.out.size)
        have HWk := Lib.hid (works9_calls wr)
        clear hbw hm HM hkn
        go_wp2_with (first | (go_at_call 16; (with_reducible refine HWk.out.mono ?_); rintro e w7 ⟨rfl, hb7⟩))
        go_ret
        exact ⟨rfl, HBr.out.trans (hb7.mono HBr.out.size)⟩
end Go.Proofs.YtibhoekbjgoanaaDoor
