/- The walk of PageOnly. -/
import Derived.Test.YtibhoekbjgoanaaDoorPageF
import Derived.Test.YtibhoekbjgoanaaDoorPageU
set_option linter.unusedSimpArgs false
set_option linter.unusedVariables false
namespace Go.Proofs.YtibhoekbjgoanaaDoor
open Go.RowKit Go.Proofs.YtibhoekbjgoanaaDoor.Crc
theorem OwnB.caps {w : World} {base n c : Nat} {A : Option Addr} {l : List UInt8} (h : OwnB w base (.slice A n c) l) : n = l.length ∧ n ≤ c ∧ c ≤ 9223372036854775807 ∧ (A = none → c = 0) := by
  refine ⟨h.len, ?_, ?_, ?_⟩
  · rcases h.form with ⟨h6, h7⟩ | ⟨g', c', h6, _, _, h7⟩
    · injection h6 with _ h8 _; omega
    · injection h6 with _ _ h8; have := h.len; omega
  · rcases h.2 with ⟨h6, _⟩ | ⟨g', cap, cur, h6, _, _, _, h7, _⟩
    · injection h6 with _ _ h8; omega
    · injection h6 with _ _ h8; unfold maxLen at h7; omega
  · rintro rfl; exact (h.nilcap).2.1
theorem OwnRL.slice {w : World} {base : Nat} {v : Value} {ls : List (List UInt8)} (h : OwnRL w base v ls) : ∃ A c, v = .slice A ls.length c ∧ RowsB w A ls ∧ ls.length ≤ c ∧ c ≤ 9223372036854775807 ∧ (A = none → c = 0) := by
  rcases h.form with ⟨rfl, rfl⟩ | ⟨g, c, rfl, _, _, h1, h2⟩
  · exact ⟨none, 0, rfl, h.rows, Nat.le_refl _, by decide, fun _ => rfl⟩
  · exact ⟨_, c, rfl, h.rows, h1, h2, fun h => by cases h⟩
attribute [local irreducible] sealB bodyB pageB
set_option maxHeartbeats 400000 in
set_option maxRecDepth 100000 in
theorem pageOnly_row (A : Option Addr) (c : Nat) (ls : List (List UInt8)) (no : Int) (w : World) (hh : HalfIs w) (hb : RowsB w A ls) (_hnil : A = none → c = 0) (_hc : ls.length ≤ c) (hl : ls.length ≤ 9223372036854775807) (_g : -9223372036854775808 ≤ no ∧ no ≤ 9223372036854775807) :
    Calls Tryd.prog 12 #[.slice A ls.length c, .int .i64 no] w fun e w' => e = .returned (.bool true) ∧ Below w.heap.size w w' := by
  have HH := Lib.hid hh
  have HB := Lib.hid hb
  have HWk := Lib.hid (works9_calls w)
  have HHl := Lib.hid hl
  clear hh hb _hnil _hc _g hl
  go_enter Tryd.func12, Tryd.ntmps12
  go_wp2_with (go_at_call 16; refine HWk.out.mono ?_; rintro e w1 ⟨rfl, hb1⟩; refine park ?_; intro q hq)
  have HB1 := Lib.hid hb1
  clear hb1 HWk
  refine hq.out ?_
  clear hq
  have HMd := Lib.hid (made_calls A ls.length c ls w1 rfl (HB.out.below HB1.out) HHl.out)
  go_wp2_with (go_at_call 24; refine HMd.out.mono ?_; rintro e w2 ⟨r, rfl, hA2, hr2, hb2⟩; refine park ?_; intro q hq)
  have HF := Lib.hid (madeC_fit ls)
  obtain ⟨cs, hcs⟩ : ∃ cs, madeC ls = cs := ⟨_, rfl⟩
  rw [hcs] at hA2 HF
  have HB2 : Hid (Below w.heap.size w w2) := HB1.out.trans (hb2.mono HB1.out.size)
  have HA2 := Lib.hid hA2
  have HP := Lib.hid (pgl_page 9 3 cs HF.out)
  have HCe := Lib.hid (Cells_calls r 0 256 (pageB 9 3 cs) 9 3 cs w2 HA2.out.bytes HP.out (by decide) (by decide) (Nat.le_refl _) (by decide))
  clear HMd hcs hA2 hr2 hb2 HB1
  refine hq.out ?_
  clear hq
  go_wp2_with (go_at_call 28; refine HCe.out.mono ?_; rintro e w3 ⟨v, rfl, hO3, hb3⟩; refine park ?_; intro q hq)
  obtain ⟨A3, c3, rfl, hR3, hc3, hm3, hn3⟩ := hO3.slice
  have hfi := Fill_calls 9 3 A3 cs.length c3 cs w3 rfl hR3 (by omega)
  rw [show fillP 9 3 cs = (pageB 9 3 cs, 0) by unfold fillP; rw [if_neg (by decide), if_pos (show 2 * cs.length + sizC cs ≤ 244 from HF.out)]; rfl, show (((3 : UInt8).toNat : Nat) : Int) = 3 from rfl] at hfi
  have HFi := Lib.hid hfi
  have HB3 : Hid (Below w.heap.size w w3) := HB2.out.trans (hb3.mono HB2.out.size)
  have HA3 := Lib.hid (HA2.out.below hb3)
  clear hfi hO3 hR3 hc3 hm3 hn3 hb3 HCe HB2 HA2
  refine hq.out ?_
  clear hq
  go_wp2_with (go_at_call 13; refine HFi.out.mono ?_; rintro e w4 ⟨A4, c4, rfl, hO4, hb4⟩; refine park ?_; intro q hq)
  have HB4 : Hid (Below w.heap.size w w4) := HB3.out.trans (hb4.mono HB3.out.size)
  have HA4 := Lib.hid (HA3.out.below hb4)
  have HO4 := Lib.hid hO4
  have HPl := Lib.hid (pageB_length 9 3 cs HF.out)
  have hse := SealP_calls (some ⟨r, 0, none⟩) 256 256 (pageB 9 3 cs) w4 (HH.out.below HB4.out) HPl.out.symm HA4.out.bytes (Nat.le_refl _) (by decide) (by decide)
  rw [seal_page 9 3 cs HF.out (by decide) (by decide)] at hse
  have HSe := Lib.hid hse
  clear hO4 hb4 hse HA3 HB3 HFi
  refine hq.out ?_
  clear hq
  go_wp2_with (go_at_call 32; refine HSe.out.mono ?_; rintro e w5 ⟨A5, c5, rfl, hO5, hb5⟩; refine park ?_; intro q hq)
  have HL : Hid ((sealB (bodyB 9 3 cs)).length = 256) := by show _ = _; rw [sealB_length, bodyB_length _ _ _ HF.out]
  obtain ⟨k1, k2, k3, k4⟩ := hO5.caps
  have HB5 : Hid (Below w.heap.size w w5) := HB4.out.trans (hb5.mono HB4.out.size)
  have hop := fun (w' : World) (h : Below w5.heap.size w5 w') (n : Int) => OpenP_calls A5 256 c5 (sealB (bodyB 9 3 cs)) n w' (HH.out.below (HB5.out.trans (h.mono HB5.out.size))) HL.out.symm (hO5.bytes.below h) (by rw [← HL.out]; exact k2) k3 (by decide)
  have hop1 := hop w5 (Below.refl _ _) 9
  rw [open_seal 9 3 cs HF.out (by decide) (by decide), if_pos (by rfl)] at hop1
  have HO1 := Lib.hid hop1
  have HOp := Lib.hid hop
  have HA5 := Lib.hid (HA4.out.below hb5)
  have HO45 := Lib.hid (HO4.out.below hb5)
  have hl5 : (sealB (bodyB 9 3 cs)).length = 256 := HL.out
  clear hO5 hb5 k1 k2 k3 k4 hop hop1 HA4 HO4 HB4 HSe
  refine hq.out ?_
  clear hq
  rw [hl5]
  clear hl5
  go_wp2_with (go_at_call 34; (with_reducible refine HO1.out.mono ?_); rintro e w6 ⟨A6, c6, rfl, hO6, hb6⟩; refine park ?_; intro q hq)
  have hop2 := HOp.out w6 hb6 no
  rw [open_seal 9 3 cs HF.out (by decide) (by decide)] at hop2
  have HB6 : Hid (Below w.heap.size w w6) := HB5.out.trans (hb6.mono HB5.out.size)
  have HA6 := Lib.hid (HA5.out.below hb6)
  have HO46 := Lib.hid (HO45.out.below hb6)
  have HO6 := Lib.hid hO6
  by_cases hno : no = 9
  · have d1 : (no == 9) = true := by simpa using hno
    rw [if_pos (by rw [hno]; rfl)] at hop2
    have HO2 := Lib.hid hop2
    clear hop2 hO6 hb6 HO1 HOp HA5 HO45 HB5 hno
    refine hq.out ?_
    clear hq
    go_wp2_with (go_at_call 34; (with_reducible refine HO2.out.mono ?_); rintro e w7 ⟨A7, c7, rfl, hO7, hb7⟩; refine park ?_; intro q hq)
    have s1 := run_str (c := c4) rfl (HO46.out.bytes.below hb7)
    have s2 := run_str (m := 256) (c := 256) HPl.out.symm (HA6.out.bytes.below hb7)
    have s3 := run_str (c := c6) rfl (HO6.out.bytes.below hb7)
    have HB7 : Hid (Below w.heap.size w w7) := HB6.out.trans (hb7.mono HB6.out.size)
    clear hO7 hb7
    refine hq.out ?_
    clear hq
    go_wp2_with fail
    go_ret
    exact ⟨rfl, HB7.out⟩
  · have d1 : (no == 9) = false := by simpa using hno
    rw [if_neg (by intro h; exact hno h.symm)] at hop2
    have HO2 := Lib.hid hop2
    clear hop2 hO6 hb6 HO1 HOp HA5 HO45 HB5 hno
    refine hq.out ?_
    clear hq
    go_wp2_with (go_at_call 34; (with_reducible refine HO2.out.mono ?_); rintro e w7 ⟨A7, c7, rfl, hO7, hb7⟩; refine park ?_; intro q hq)
    have s1 := run_str (c := c4) rfl (HO46.out.bytes.below hb7)
    have s2 := run_str (m := 256) (c := 256) HPl.out.symm (HA6.out.bytes.below hb7)
    have s3 := run_str (c := c6) rfl (HO6.out.bytes.below hb7)
    have HB7 : Hid (Below w.heap.size w w7) := HB6.out.trans (hb7.mono HB6.out.size)
    clear hO7 hb7
    refine hq.out ?_
    clear hq
    go_wp2_with fail
    go_ret
    exact ⟨rfl, HB7.out⟩
end Go.Proofs.YtibhoekbjgoanaaDoor
