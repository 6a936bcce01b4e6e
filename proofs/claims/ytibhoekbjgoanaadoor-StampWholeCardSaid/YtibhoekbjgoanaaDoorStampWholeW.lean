/- The walk of StampWhole. -/
import Derived.Test.YtibhoekbjgoanaaDoorStampWholeP
import Derived.Deep.CutBlock
set_option linter.unusedSimpArgs false
set_option linter.unusedVariables false
namespace Go.Proofs.YtibhoekbjgoanaaDoor
open Go.RowKit Go.Proofs.YtibhoekbjgoanaaDoor.Crc
/-- What the walk has for the elder sector. -/
def WasR (st : Nat) (a x : List UInt8) (e : Int) : Prop := (st = 0 → x = zsec ∧ e = 0) ∧ (st ≠ 0 → x = (wrapR st 1 a).1 ∧ e = (wrapR st 1 a).2)
theorem wrapR_ok {st : Nat} {k : UInt8} {b : List UInt8} (h : (wrapR st k b).2 = 0) : st ≠ 0 ∧ k ≠ 0 ∧ b.length ≤ 233 ∧ (wrapR st k b).1 = wrapB st k b := by
  unfold wrapR at h ⊢
  by_cases h0 : st = 0 ∨ k = 0
  · rw [if_pos h0] at h; exact absurd h (by decide)
  · rw [if_neg h0] at h ⊢
    by_cases h1 : 233 < b.length
    · rw [if_pos h1] at h; exact absurd h (by decide)
    · rw [if_neg h1]; exact ⟨fun h => h0 (.inl h), fun h => h0 (.inr h), by omega, rfl⟩
theorem WasR.was {st : Nat} {a x : List UInt8} (h : WasR st a x 0) (hlt : st < 18446744073709551616) : Was st a x := by
  by_cases h0 : st = 0
  · exact .inl ⟨h0, (h.1 h0).1⟩
  · obtain ⟨h1, h2⟩ := h.2 h0
    obtain ⟨a1, a2, a3, a4⟩ := wrapR_ok h2.symm
    exact .inr ⟨h0, hlt, a3, by rw [h1, a4]⟩
set_option maxRecDepth 100000 in
set_option maxHeartbeats 600000 in
theorem stampWhole_row (so0 sy0 : Int) (A : Option Addr) (c : Nat) (a : List UInt8) (B : Option Addr) (d : Nat) (b : List UInt8) (at_ : Int) (w : World) (hh : HalfIs w) (hso : 0 ≤ so0 ∧ so0 ≤ 18446744073709551615) (hsy : 0 ≤ sy0 ∧ sy0 ≤ 18446744073709551615)
    (hb : Bytes w A a) (hnil : A = none → c = 0) (_hc : a.length ≤ c) (hl : a.length ≤ 140737488351232) (hb2 : Bytes w B b) (hnil2 : B = none → d = 0) (_hc2 : b.length ≤ d) (hl2 : b.length ≤ 140737488351232) (_hat : -9223372036854775808 ≤ at_ ∧ at_ ≤ 9223372036854775807) :
    Calls Tryd.prog 8 #[.int .u64 so0, .int .u64 sy0, .slice A a.length c, .slice B b.length d, .int .i64 at_] w fun e w' => e = .returned (.bool true) ∧ Below w.heap.size w w' := by
  obtain ⟨so, rfl⟩ := Int.eq_ofNat_of_zero_le hso.1
  obtain ⟨sy, rfl⟩ := Int.eq_ofNat_of_zero_le hsy.1
  have HSo := Lib.hid hso.2
  have HSy := Lib.hid hsy.2
  have HH := Lib.hid hh
  have HA := Lib.hid hb
  have HB := Lib.hid hb2
  have HNA := Lib.hid hnil
  have HNB := Lib.hid hnil2
  clear hso hsy hh hb hb2 hnil hnil2 _hat
  have HWk := Lib.hid (works7_calls w HH.out)
  go_enter Tryd.func8, Tryd.ntmps8
  go_wp2_with (go_at_call 19; refine HWk.out.mono ?_; rintro e w1 ⟨rfl, hb1⟩; refine park ?_; intro q hq)
  have HB1 := Lib.hid hb1
  clear hb1 HWk
  refine hq.out ?_
  clear hq
  have HWx := Lib.hid (Wrap_calls so HSo.out 1 A a.length c a w1 (HH.out.below HB1.out) rfl (HA.out.below HB1.out) HNA.out hl)
  go_wp2_with (go_at_call 17; refine HWx.out.mono ?_; rintro e w2 ⟨A2, c2, rfl, hO2, hb2⟩; refine park ?_; intro q hq)
  have HB2 := Lib.hid (HB1.out.trans (hb2.mono HB1.out.size))
  have HO2 := Lib.hid (hO2.base HB1.out.size)
  clear hO2 hb2 HWx HB1
  refine hq.out ?_
  clear hq
  have HWy := Lib.hid (Wrap_calls sy HSy.out 2 B b.length d b w2 (HH.out.below HB2.out) rfl (HB.out.below HB2.out) HNB.out hl2)
  go_wp2_with (go_at_call 17; refine HWy.out.mono ?_; rintro e w3 ⟨A3, c3, rfl, hO3, hb3⟩; refine park ?_; intro q hq)
  have HB3 := Lib.hid (HB2.out.trans (hb3.mono HB2.out.size))
  have HO3 := Lib.hid (hO3.base HB2.out.size)
  have HO23 := Lib.hid (HO2.out.below hb3)
  clear hO3 hb3 HWy HB2 HO2
  refine hq.out ?_
  clear hq
  go_upto_if 35 with fail
  go_cut [11, 12] (fun xv ev wc => ∃ (Ax : Option Addr) (nx cx : Nat) (er : Int), xv = .slice Ax nx cx ∧ ev = .int .i64 er ∧ Hid (∃ x : List UInt8, nx = x.length ∧ OwnB wc w.heap.size (.slice Ax nx cx) x ∧ OwnB wc w.heap.size (.slice A3 (wrapR sy 2 b).1.length c3) (wrapR sy 2 b).1 ∧ Below w.heap.size w wc ∧ WasR so a x er))
  case first =>
    by_cases h0 : so = 0
    · have t1 : ((so : Int) == 0) = true := by simp [h0]
      have H0 := Lib.hid h0
      clear h0
      go_wp2_with (with_reducible refine park_make ?_; intro q hq)
      refine hq.out ?_
      clear hq
      refine wpList_make_bytes rfl _ _ rfl w.heap.size _ _ 256 rfl rfl rfl rfl (by omega) HB3.out.size ?_
      intro w4 hown4 hg4
      have hb4 : Below w3.heap.size w3 w4 := (Below.refl _ _).grown hg4 (Nat.le_refl _) (fun k hk => by cases hk)
      have HF : Hid (∃ x : List UInt8, 256 = x.length ∧ OwnB w4 w.heap.size (.slice (some ⟨w3.heap.size, 0, none⟩) 256 256) x ∧ OwnB w4 w.heap.size (.slice A3 (wrapR sy 2 b).1.length c3) (wrapR sy 2 b).1 ∧ Below w.heap.size w w4 ∧ WasR so a x 0) :=
        ⟨zsec, zsec_length.symm, hown4, HO3.out.below hb4, HB3.out.trans (hb4.mono HB3.out.size), fun _ => ⟨rfl, rfl⟩, fun h => absurd H0.out h⟩
      clear hown4 hg4 hb4
      go_wp2_with fail
      go_meet
      exact ⟨_, 256, 256, 0, rfl, rfl, HF⟩
    · have t1 : ((so : Int) == 0) = false := by simp [h0]
      have H0 := Lib.hid h0
      clear h0
      go_wp2_with fail
      go_meet
      exact ⟨A2, (wrapR so 1 a).1.length, c2, _, rfl, rfl, _, rfl, HO23.out, HO3.out, HB3.out, fun h => absurd h H0.out, fun _ => ⟨rfl, rfl⟩⟩
  case rest =>
    obtain ⟨Ax, nx, cx, er, rfl, rfl, HF⟩ := hcut
    obtain ⟨x, hnx, hox, hoy, hbe, hwas⟩ := HF.out
    have HX := Lib.hid hox
    have HY := Lib.hid hoy
    have HBE := Lib.hid hbe
    have HNX := Lib.hid hnx
    have HWS := Lib.hid hwas
    clear HF hox hoy hbe hnx hwas HO3 HO23 HB3
    by_cases he : er = 0
    · subst he
      by_cases hf : (wrapR sy 2 b).2 = 0
      · by_cases heq : so = sy
        · subst heq
          have t2 : ((so : Int) == (so : Int)) = true := by simp
          rw [hf]
          go_wp2_with fail
          go_ret
          exact ⟨rfl, HBE.out⟩
        · have t2 : ((so : Int) == (sy : Int)) = false := by simp; omega
          obtain ⟨y1, _, y3, y4⟩ := wrapR_ok hf
          rw [y4] at HY ⊢
          rw [hf]
          have hso : so < 18446744073709551616 := by have : (so : Int) ≤ 18446744073709551615 := HSo.out; omega
          have hsy : sy < 18446744073709551616 := by have : (sy : Int) ≤ 18446744073709551615 := HSy.out; omega
          have hw := HWS.out.was hso
          have HLaw := Lib.hid (whole_law so sy a b x (wrapB sy 2 b) at_ hw rfl y1 hsy hso y3 heq)
          have hxl := hw.length
          have hyl := wrapB_length sy 2 b (by omega)
          obtain ⟨y, hy⟩ : ∃ y, wrapB sy 2 b = y := ⟨_, rfl⟩
          rw [hy] at HY HLaw hyl ⊢
          have HTl := Lib.hid (torn_length x y at_ hxl hyl)
          have hnx256 : nx = 256 := by rw [HNX.out]; exact hxl
          subst hnx256
          rw [hyl] at HY ⊢
          have HXl := Lib.hid hxl
          have HYl := Lib.hid hyl
          clear y1 y3 y4 hsy hso hw hf heq hxl hyl hy HWS
          obtain ⟨Ax', cx', hx1, hx2, hx3, hx4⟩ := HX.out.sl
          injection hx1 with hx5 hxx hx6
          clear hxx
          subst hx5; subst hx6
          obtain ⟨Ay', cy', hy1, hy2, hy3, hy4⟩ := HY.out.sl
          injection hy1 with hy5 hyy hy6
          clear hyy
          subst hy5; subst hy6
          rw [HXl.out] at hx3
          rw [HYl.out] at hy3
          have HTo := Lib.hid (Torn_calls Ax 256 cx x A3 256 c3 y at_ wc HXl.out.symm HX.out.bytes hx3 hx2 HYl.out.symm HY.out.bytes hy3 hy2 (by decide) (by decide))
          clear hx2 hx3 hx4 hy2 hy3 hy4
          obtain ⟨t, ht⟩ : ∃ t, tornB x y at_ = t := ⟨_, rfl⟩
          rw [ht] at HTo HLaw HTl
          clear ht
          go_wp2_with (go_at_call 22; refine HTo.out.mono ?_; rintro e w5 ⟨A5, c5, rfl, hO5, hb5⟩; refine park ?_; intro q hq)
          have HB5 := Lib.hid (HBE.out.trans (hb5.mono HBE.out.size))
          have HX5 := Lib.hid (HX.out.below hb5)
          have HY5 := Lib.hid (HY.out.below hb5)
          have HT5 := Lib.hid hO5
          clear hO5 hb5 HTo HBE HX HY
          refine hq.out ?_
          clear hq
          have htl : t.length = 256 := HTl.out
          rw [htl] at HT5 ⊢
          obtain ⟨A5', c5', h51, _, h53, h54⟩ := HT5.out.sl
          injection h51 with h55 h5x h56
          clear h5x
          subst h55; subst h56
          have hop := Open7_calls A5 256 c5 t w5 (HH.out.below HB5.out) htl.symm HT5.out.bytes (by rw [htl] at h53; exact h53) h54
          clear h53 h54 htl
          obtain ⟨r, hr⟩ : ∃ r, openS t = r := ⟨_, rfl⟩
          rw [hr] at hop HLaw
          obtain ⟨r1, r2, r3, r4⟩ := r
          have HOp := Lib.hid hop
          clear hop hr
          go_wp2_with (go_at_call 20; refine HOp.out.mono ?_; rintro e w6 ⟨A6, c6, rfl, hO6, hb6⟩; refine park ?_; intro q hq)
          have HB6 := Lib.hid (HB5.out.trans (hb6.mono HB5.out.size))
          have sT : (convert 23 9 (.slice A5 256 c5)).run Tryd.prog w6 = .ok (.string (bstr t)) w6 := run_str HTl.out.symm (HT5.out.below hb6).bytes
          have sY : (convert 23 9 (.slice A3 256 c3)).run Tryd.prog w6 = .ok (.string (bstr y)) w6 := run_str HYl.out.symm (HY5.out.below hb6).bytes
          have sX : (convert 23 9 (.slice Ax 256 cx)).run Tryd.prog w6 = .ok (.string (bstr x)) w6 := run_str HXl.out.symm (HX5.out.below hb6).bytes
          have sR : (convert 23 9 (.slice A6 r3.length c6)).run Tryd.prog w6 = .ok (.string (bstr r3)) w6 := run_str rfl hO6.bytes
          have sA : (convert 23 9 (.slice A a.length c)).run Tryd.prog w6 = .ok (.string (bstr a)) w6 := run_str rfl (HA.out.below HB6.out)
          have sB : (convert 23 9 (.slice B b.length d)).run Tryd.prog w6 = .ok (.string (bstr b)) w6 := run_str rfl (HB.out.below HB6.out)
          clear hO6 hb6 HOp HB5 HX5 HY5 HT5
          refine hq.out ?_
          clear hq
          have eTY : ((bstr t).toList == (bstr y).toList) = (t == y) := by rw [bstr_toList, bstr_toList]
          have eTX : ((bstr t).toList == (bstr x).toList) = (t == x) := by rw [bstr_toList, bstr_toList]
          by_cases h1 : t = y
          · have h := HLaw.out.1 h1
            injection h with e1 h
            injection h with e2 h
            injection h with e3 e4
            rw [show (t == y) = true by simpa using h1] at eTY
            clear h1 eTX
            subst e1 e2 e3 e4
            generalize bstr t = bt at *
            generalize bstr y = by_ at *
            go_wp2_with fail
            go_ret
            exact ⟨by simp, HB6.out⟩
          · rw [show (t == y) = false by simpa using h1] at eTY
            by_cases h2 : t = x
            · have h := HLaw.out.2.1 h2
              rw [show (t == x) = true by simpa using h2] at eTX
              by_cases hz : so = 0
              · have hr := h.1 hz
                injection hr with e1 hr
                injection hr with e2 hr
                injection hr with e3 e4
                have t5 : ((so : Int) == 0) = true := by simp [hz]
                clear h1 h2 h hz
                subst e1 e2 e3 e4
                generalize bstr t = bt at *
                go_wp2_with fail
                go_ret
                exact ⟨by simp, HB6.out⟩
              · have hr := h.2 hz
                injection hr with e1 hr
                injection hr with e2 hr
                injection hr with e3 e4
                have t5 : ((so : Int) == 0) = false := by simp [hz]
                clear h1 h2 h hz
                subst e1 e2 e3 e4
                generalize bstr t = bt at *
                go_wp2_with fail
                go_ret
                exact ⟨by simp, HB6.out⟩
            · obtain ⟨er, her, hr⟩ := HLaw.out.2.2 h1 h2
              rw [show (t == x) = false by simpa using h2] at eTX
              injection hr with e1 hr
              injection hr with e2 hr
              injection hr with e3 e4
              have t5 : (er != 0) = true := by simpa using her
              clear h1 h2 her
              subst e1 e2 e3 e4
              go_wp2_with fail
              go_ret
              exact ⟨by simp, HB6.out⟩
      · have t2 : ((wrapR sy 2 b).2 != 0) = true := by simpa using hf
        clear hf
        go_wp2_with fail
        go_ret
        exact ⟨rfl, HBE.out⟩
    · have t2 : (er != 0) = true := by simpa using he
      clear he
      go_wp2_with fail
      go_ret
      exact ⟨rfl, HBE.out⟩
end Go.Proofs.YtibhoekbjgoanaaDoor
