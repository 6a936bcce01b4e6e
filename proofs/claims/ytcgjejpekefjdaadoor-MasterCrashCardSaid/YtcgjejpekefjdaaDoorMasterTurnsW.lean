/- The walk of MasterTurns. -/
import Derived.Test.YtcgjejpekefjdaaDoorMasterV
import Derived.Test.YtcgjejpekefjdaaDoorU64Kit
import Derived.Test.YtcgjejpekefjdaaDoorIntKit
set_option linter.unusedSimpArgs false
set_option linter.unusedVariables false
namespace Go.Proofs.YtcgjejpekefjdaaDoor
open Go.RowKit Go.Proofs.YtcgjejpekefjdaaDoor.Crc
open Go.Proofs.YtcgjejpekefjdaaDoor.Dsk
/-- Behind so many saves. -/
structure TurnI (w wr : World) (a m r : Nat) (t ep tu : Nat) (wv : Value) (d : DiskM) (x : MasM) : Prop where
  md : MD wr w.heap.size a m r wv d x
  fr : Fr d t
  last : x.last.1 = ep
  nx : x.nx = tu
  pos : x.pos = 1
  be : Below w.heap.size w wr
  ep : ep ≤ 1000 * t
/-- A row of a list of lists that came in. -/
theorem RowsU.at {w : World} {A : Option Addr} {ls : List (List Nat)} (h : RowsU w A ls) (t : Nat) (ht : t < ls.length) (wr : World) (hb : Below w.heap.size w wr) :
    ∃ ad B c fs, A = some ad ∧ ls[t] = fs ∧ (∀ w', Below w.heap.size w w' → w'.cell? (ad.add t) = some (.slice B fs.length c)) ∧ (∀ w', Below w.heap.size w w' → U64s w' B fs) ∧ (B = none → c = 0) ∧ (∀ f ∈ fs, f < 18446744073709551616) ∧ (∀ b, B = some b → fs = [] ∨ b.block < w.heap.size) := by
  obtain ⟨ad, B, c, h1, h2, h3, h4, h5, h6, h7⟩ := h t ht
  refine ⟨ad, B, c, ls[t], h1, rfl, fun w' hb' => (hb'.cell (World.block_lt_of_cell? w _ h2)).trans h2, fun w' hb' => h3.below hb', h4, h7, fun b hB => ?_⟩
  rcases hl : ls[t] with _ | ⟨f, r⟩
  · exact .inl rfl
  · right
    obtain ⟨ad', hA, hc⟩ := h3 0 (by rw [hl]; exact Nat.succ_pos _)
    rw [hB] at hA; cases hA
    have := World.block_lt_of_cell? w _ hc
    rwa [add_block] at this
theorem wrap1000 (p : Nat) (h : p < 1000) : IntKind.i64.wrap (p : Int) = (p : Int) := by simp only [IntKind.wrap, IntKind.bits, IntKind.signed]; simp; omega
theorem wrapS (ep m : Nat) (he : ep ≤ 8000) (hm : m < 1000) : wrap64 (wrap64 ((ep : Int) + 1) + (m : Int)) = ((ep + 1 + m : Nat) : Int) := by unfold wrap64; omega
theorem e1_bd {ep mm e1 : Nat} (h : ep + 1 + mm = e1) (hm : mm < 1000) : ep < e1 ∧ e1 ≤ ep + 1000 := by omega
theorem e9_bd {l ep e1 : Nat} (h0 : l = ep) (h : ep < e1 ∧ e1 ≤ ep + 1000) (hep : ep ≤ 8000) : l < e1 ∧ e1 ≤ 1000000000 := by omega
theorem e9_int {l e1 : Nat} (h : l < e1 ∧ e1 ≤ 1000000000) : (l : Int) < (e1 : Int) ∧ (e1 : Int) ≤ 1000000000 := by omega
theorem turn_bd {t ep e1 : Nat} (h : ep ≤ 1000 * t) (h1 : ep < e1 ∧ e1 ≤ ep + 1000) : e1 ≤ 1000 * (t + 1) ∧ 0 < e1 := by omega
theorem sub_turn {tu : Nat} (h : tu ≤ 1) : 1 - (tu : Int) = ((1 - tu : Nat) : Int) := by omega
theorem wrapS1 (ep : Nat) (he : ep ≤ 8000) : wrap64 ((ep : Int) + 1) = ((ep + 1 : Nat) : Int) := by unfold wrap64; omega
set_option maxRecDepth 100000 in
set_option maxHeartbeats 4000000 in
theorem masterTurns_calls (A : Option Addr) (c : Nat) (ls : List (List Nat)) (B : Option Addr) (c2 : Nat) (js : List Int) (w : World) (hh : HalfIs w) (hb : RowsU w A ls) (hj : Ints w B js) :
    Calls Tryd.prog 4 #[.slice A ls.length c, .slice B js.length c2] w fun e w' => e = .returned (.bool true) ∧ Below w.heap.size w w' := by
  have HO := Lib.hid (opened_calls w hh)
  have HH := Lib.hid hh
  have HL := Lib.hid hb
  have HJ := Lib.hid hj
  clear hh hb hj
  go_enter Tryd.func4, Tryd.ntmps4
  go_wp2_with (go_at_call 15; refine HO.out.mono ?_; rintro e w1 ⟨a, m, r, rfl, h1, b1⟩; refine park ?_; intro q hq)
  refine hq.out ?_
  clear hq HO
  have HWo := Lib.hid (works10_calls w1 (HH.out.below b1.out))
  go_wp2_with (go_at_call 14; refine HWo.out.mono ?_; rintro e w2 ⟨rfl, hb2⟩; refine park ?_; intro q hq)
  refine hq.out ?_
  clear hq HWo
  have HI : Hid (TurnI w w2 a m r 0 0 0 (.slice none 0 0) (newD 3) x0) := ⟨h1.out.below hb2, fr0, rfl, rfl, rfl, b1.out.trans (hb2.mono b1.out.size), Nat.le_refl _⟩
  clear h1 b1 hb2
  go_wp2_with fail
  go_loopw [7, 8, 9] (fun e u i wr => ∃ t ep tu : Nat, t ≤ 8 ∧ e = .int .i64 (ep : Int) ∧ u = .int .i64 (tu : Int) ∧ i = .int .i64 (t : Int) ∧ tu ≤ 1 ∧ Hid (∃ wv d x, TurnI w wr a m r t ep tu wv d x)) (fun _ _ i _ => 8 - (intOf i).toNat)
  case atStart => exact ⟨0, 0, 0, Nat.zero_le _, rfl, rfl, rfl, Nat.zero_le _, _, _, _, HI.out⟩
  case round =>
    obtain ⟨t, ep, tu, ht8, rfl, rfl, rfl, htu, HV⟩ := hrel
    clear HI
    obtain ⟨wv, d, x, hv⟩ := HV.out
    have HV := Lib.hid hv
    clear hv
    by_cases hlen : ¬ t < ls.length
    · have hd1 : decide (t < ls.length) = false := decide_eq_false hlen
      clear hlen
      go_wp2_with fail
      go_ret
      exact ⟨rfl, HV.out.be⟩
    replace hlen := Classical.not_not.1 hlen
    by_cases ht : ¬ t < 8
    · obtain rfl : t = 8 := by omega
      rw [show ((8 : Nat) : Int) = (8 : Int) from rfl]
      go_wp2_with fail
      go_ret
      exact ⟨rfl, HV.out.be⟩
    replace ht := Classical.not_not.1 ht
    have hep : Hid (ep ≤ 8000) := by have := HV.out.ep; show ep ≤ 8000; omega
    obtain ⟨ad, Bt, ct, fs, hAd, hfs, hcell, hU, hnil, hr64, hblk⟩ := HL.out.at t hlen wr HV.out.be
    subst hAd
    have hdl : decide (t < ls.length) = true := decide_eq_true hlen
    have HC := Lib.hid hcell
    have HU := Lib.hid hU
    have HF64 := Lib.hid hr64
    have HBlk := Lib.hid hblk
    have HNil := Lib.hid hnil
    have z0 := HC.out wr HV.out.be
    obtain ⟨n, hn⟩ : ∃ n, fs.length = n := ⟨_, rfl⟩
    rw [hn] at z0
    have HN := Lib.hid hn
    clear hcell hU hnil hr64 hblk hfs hn
    have hlI : (t : Int) < (ls.length : Int) := by omega
    rcases Classical.em (t < js.length) with hj | hj
    case' inl =>
      obtain ⟨aj, hAj, hcj, hzb⟩ := HJ.out t hj
      clear hzb
      obtain ⟨z, hz⟩ : ∃ z, js[t] = z := ⟨_, rfl⟩
      rw [hz] at hcj
      subst hAj
      obtain ⟨mm, hmm, e2⟩ := mod_pick z 1000 (by decide)
      have e2' : (IntKind.u64.wrap z).tmod (1000 : Int) = (mm : Int) := e2
      have ew := wrap1000 mm hmm
      have z1 : wr.cell? (aj.add t) = some (.int .i64 z) := (HV.out.be.cell (World.block_lt_of_cell? w _ hcj)).trans hcj
      have hjI : (t : Int) < (js.length : Int) := by omega
      have hjN : decide (t < js.length) = true := decide_eq_true hj
      have hS := wrapS ep mm hep.out hmm
      obtain ⟨e1, he1⟩ : ∃ e1, ep + 1 + mm = e1 := ⟨_, rfl⟩
      have HE1 : Hid (ep < e1 ∧ e1 ≤ ep + 1000) := e1_bd he1 hmm
      rw [he1] at hS
      clear e2 hz hcj he1 hmm hj
      go_wp2_with fail
      simp only [hS]
      clear hS e2' ew z1 hjI hjN
    case' inr =>
      have hjI : decide (t < js.length) = false := decide_eq_false hj
      have hS := wrapS1 ep hep.out
      obtain ⟨e1, he1⟩ : ∃ e1, ep + 1 = e1 := ⟨_, rfl⟩
      have HE1 : Hid (ep < e1 ∧ e1 ≤ ep + 1000) := e1_bd (mm := 0) he1 (by decide)
      rw [he1] at hS
      clear he1 hj
      go_wp2_with fail
      simp only [hS]
      clear hS hjI
    all_goals
      have hE9 : Hid (x.last.1 < e1 ∧ e1 ≤ 1000000000) := e9_bd HV.out.last HE1.out hep.out
      by_cases hbig : 20 < n
      · have hbI : decide ((n : Int) > 20) = true := by simp; omega
        have HSb := Lib.hid (Save_big HV.out.md.mas Bt n ct (e1 : Int) (e9_int hE9.out) hbig)
        have HBe := Lib.hid HV.out.be
        clear hbig
        go_wp2_with (go_at_call 13; (with_reducible refine HSb.out.mono ?_); rintro e w3 ⟨rfl, hb3⟩; refine park ?_; intro q hq)
        refine hq.out ?_
        clear hq HSb
        have HB3 : Hid (Below w.heap.size w w3) := HBe.out.trans (hb3.mono HBe.out.size)
        have z3 := HC.out w3 HB3.out
        rw [HN.out] at z3
        clear z0 hb3
        go_wp2_with fail
        go_ret
        exact ⟨rfl, HB3.out⟩
      · have hsm : fs.length ≤ 20 := by rw [HN.out]; exact Nat.not_lt.1 hbig
        have HSv := Lib.hid (Save_go HV.out.md HV.out.fr (Nat.le_trans ht8 (by decide)) (HH.out.below HV.out.be) Bt n ct e1 fs HN.out.symm HNil.out (HU.out wr HV.out.be) (fun b hB => by
          rcases HBlk.out b hB with h | h
          · exact .inl h
          · have hf := HV.out.md.foot b.block h
            exact .inr ⟨Nat.lt_of_lt_of_le h HV.out.be.size, fun h => hf (.inl h), fun h => hf (.inr h)⟩) hE9.out hsm HF64.out)
        have HBs := Lib.hid HV.out.md.base_le
        have H3 := Lib.hid HV.out.md.foot
        have HBe := Lib.hid HV.out.be
        have HT := Lib.hid (And.intro (turn_bd HV.out.ep HE1.out) (And.intro HV.out.nx HV.out.pos))
        have hsav := MasM.saved fs hE9.out.1
        have hpos' : (x.save e1 fs).pos = 1 := by rw [MasM.save_pos]; exact HV.out.pos
        obtain ⟨x', hx'⟩ : ∃ x', x.save e1 fs = x' := ⟨_, rfl⟩
        rw [hx'] at HSv hsav hpos'
        rw [HV.out.nx] at hsav
        have HSav := Lib.hid hsav
        have HPos := Lib.hid hpos'
        have HSm := Lib.hid hsm
        clear hbig hsm HV hsav hpos' hx' hE9 HE1 hep
        go_wp2_with (go_at_call 13; (with_reducible refine HSv.out.mono ?_); rintro e w3 ⟨rfl, wv3, d3, h3, f3, k3⟩; refine park ?_; intro q hq)
        refine hq.out ?_
        clear hq HSv z0
        have B3 : Hid (Below w.heap.size w w3) := HBe.out.trans (k3.out.below HBs.out H3.out)
        have HOp := Lib.hid (MOpen_calls h3.out.disk (HH.out.below B3.out) f3.out.on x' h3.out.pos h3.out.s0.par h3.out.s1.par)
        rw [HPos.out, show ((1 : Nat) : Int) = 1 from rfl] at HOp
        clear k3 HBs H3 HBe
        go_wp2_with (go_at_call 10; (with_reducible refine HOp.out.mono ?_); rintro e w4 ⟨r4, rfl, hm4, hr4, hb4⟩; refine park ?_; intro q hq)
        refine hq.out ?_
        clear hq HOp
        have H4 : Hid (MD w4 w.heap.size a m r wv3 d3 x') := h3.out.below hb4
        have B4 : Hid (Below w.heap.size w w4) := B3.out.trans (hb4.mono B3.out.size)
        have HM4 := Lib.hid hm4
        have HS := Lib.hid (Slot_calls H4.out.mas)
        rw [HSav.out.1] at HS
        clear h3 hb4 hm4 hr4 B3
        go_wp2_with (go_at_call 12; (with_reducible refine HS.out.mono ?_); rintro e w5 ⟨rfl, hb5⟩; refine park ?_; intro q hq)
        refine hq.out ?_
        clear hq HS
        have H5 : Hid (MD w5 w.heap.size a m r wv3 d3 x') := H4.out.below hb5
        have B5 : Hid (Below w.heap.size w w5) := B4.out.trans (hb5.mono B4.out.size)
        have HM5 := Lib.hid (HM4.out.below hb5)
        have HS := Lib.hid (Slot_calls HM5.out)
        rw [HSav.out.1] at HS
        clear H4 B4 HM4 hb5
        go_wp2_with (go_at_call 12; (with_reducible refine HS.out.mono ?_); rintro e w6 ⟨rfl, hb6⟩; refine park ?_; intro q hq)
        refine hq.out ?_
        clear hq HS
        have H6 : Hid (MD w6 w.heap.size a m r wv3 d3 x') := H5.out.below hb6
        have B6 : Hid (Below w.heap.size w w6) := B5.out.trans (hb6.mono B5.out.size)
        have HM6 := Lib.hid (HM5.out.below hb6)
        have HLt := Lib.hid (Latest_calls HM6.out)
        rw [HSav.out.2.1] at HLt
        simp only [HN.out] at HLt
        have hd0 : decide (0 < e1) = true := decide_eq_true (HT.out.1.2)
        rw [hd0] at HLt
        clear H5 B5 HM5 hb6 hd0
        go_wp2_with (go_at_call 11; (with_reducible refine HLt.out.mono ?_); rintro e w7 ⟨A7, c7, rfl, hn7, hU7, hb7⟩; refine park ?_; intro q hq)
        refine hq.out ?_
        clear hq HLt
        have H7 : Hid (MD w7 w.heap.size a m r wv3 d3 x') := H6.out.below hb7
        have B7 : Hid (Below w.heap.size w w7) := B6.out.trans (hb7.mono B6.out.size)
        have z7 := HC.out w7 B7.out
        rw [HN.out] at z7
        have HSa := Lib.hid (Same10_calls w7 A7 Bt n c7 n ct fs fs HN.out.symm HN.out.symm hU7.1 (HU.out w7 B7.out) (by rw [← HN.out]; exact HSm.out))
        rw [decide_eq_true (rfl : fs = fs)] at HSa
        clear H6 B6 HM6 hb7 hU7 hn7
        go_wp2_with (go_at_call 16; (with_reducible refine HSa.out.mono ?_); rintro e w8 ⟨rfl, hb8⟩; refine park ?_; intro q hq)
        refine hq.out ?_
        clear hq HSa z7
        have H8 : Hid (MD w8 w.heap.size a m r wv3 d3 x') := H7.out.below hb8.out
        have B8 : Hid (Below w.heap.size w w8) := B7.out.trans (hb8.out.mono B7.out.size)
        have z8 := HC.out w8 B8.out
        rw [HN.out] at z8
        have HI := Lib.hid (Save_inv H8.out.mas Bt n ct (e1 : Int) (.inl (by rw [HSav.out.2.1]; exact Int.le_refl _)))
        clear H7 B7 hb8
        go_wp2_with (go_at_call 13; (with_reducible refine HI.out.mono ?_); rintro e w9 ⟨rfl, hb9⟩; refine park ?_; intro q hq)
        refine hq.out ?_
        clear hq HI z8
        have HI9 : Hid (TurnI w w9 a m r (t + 1) e1 (1 - tu) wv3 d3 x') := ⟨H8.out.below hb9, f3.out, by rw [HSav.out.2.1], HSav.out.2.2, HPos.out, B8.out.trans (hb9.mono B8.out.size), HT.out.1.1⟩
        clear H8 B8 hb9 f3 HSav HPos HSm HT HC HU HF64 HBlk HNil HN
        go_wp2_with fail
        go_roundw
        case rel => exact ⟨t + 1, e1, 1 - tu, Nat.succ_le_of_lt ht, rfl, congrArg (Value.int .i64) (sub_turn htu), congrArg (Value.int .i64) (Int.natCast_succ t).symm, Nat.sub_le _ _, wv3, d3, x', HI9.out⟩
        case measure =>
          clear HI9
          simp [intOf]
          omega
theorem masterTurns_row (A : Option Addr) (c : Nat) (ls : List (List Nat)) (B : Option Addr) (c2 : Nat) (js : List Int) (w : World) (hh : HalfIs w) (hb : RowsU w A ls) (hn : A = none → c = 0) (hc : ls.length ≤ c) (hl : ls.length ≤ 9223372036854775807) (hj : Ints w B js) (hn2 : B = none → c2 = 0) (hc2 : js.length ≤ c2) (hl2 : js.length ≤ 140737488351232) :
    Calls Tryd.prog 4 #[.slice A ls.length c, .slice B js.length c2] w fun e w' => e = .returned (.bool true) ∧ Below w.heap.size w w' := masterTurns_calls A c ls B c2 js w hh hb hj
end Go.Proofs.YtcgjejpekefjdaaDoor
