/- The walk of DiskCuts. -/
import Derived.Test.YtgodnmlggomaaaaDiskC
import Derived.Test.YtgodnmlggomaaaaIntKit
set_option linter.unusedSimpArgs false
set_option linter.unusedVariables false
namespace Go.Proofs.Ytgodnmlggomaaaa
open Go.RowKit
theorem wrap4 (p : Nat) (h : p < 4) : IntKind.i64.wrap (p : Int) = (p : Int) := by
  have : p = 0 ∨ p = 1 ∨ p = 2 ∨ p = 3 := by omega
  rcases this with rfl | rfl | rfl | rfl <;> decide
structure CutInv (d : DiskM) (n : Nat) : Prop where
  cut : d.cut = true
  sum : d.steps + d.left = n
  size : d.size = 4
  bud : (d.bud : Int) + d.wait.length ≤ 2 * d.steps
theorem CutInv.on {d : DiskM} {n : Nat} (h : CutInv d n) (hs : d.steps < n) : d.isOff = false := by
  have := h.sum
  simp only [DiskM.isOff, h.cut, Bool.true_and]
  simp; omega
theorem CutInv.off {d : DiskM} {n : Nat} (h : CutInv d n) (hk : d.Ok) (hs : ¬ d.steps < n) : d.isOff = true ∧ d.steps = n := by
  have := h.sum
  have := hk.left
  have e : d.left = 0 := by omega
  simp only [DiskM.isOff, h.cut, Bool.true_and]
  simp [e]; omega
theorem CutInv.sync {d : DiskM} {n : Nat} (h : CutInv d n) (hk : d.Ok) : CutInv d.sync n := by
  have h1 := h.sum
  have h2 := h.bud
  refine ⟨h.cut, ?_, h.size, ?_⟩
  · simp only [DiskM.sync, DiskM.step, DiskM.settled, h.cut, if_true]; omega
  · simp only [DiskM.sync, DiskM.step, DiskM.settled, List.length_nil]; omega
theorem CutInv.write {d : DiskM} {n : Nat} (h : CutInv d n) (i : Int) (l : List UInt8) : CutInv (d.write i l) n := by
  have h1 := h.sum
  have h2 := h.bud
  refine ⟨h.cut, ?_, h.size, ?_⟩
  · simp only [DiskM.write, DiskM.step, DiskM.put, h.cut, if_true]; omega
  · simp only [DiskM.write, DiskM.step, DiskM.put, List.length_append, List.length_singleton]; omega
set_option maxRecDepth 100000 in
set_option maxHeartbeats 2000000 in
theorem cuts_calls (n0 : Int) (A : Option Addr) (c : Nat) (l : List Int) (w : World) (g0 : -9223372036854775808 ≤ n0 ∧ n0 ≤ 9223372036854775807) (hb : Ints w A l) (hn : A = none → c = 0) (hc : l.length ≤ c) (hl : l.length ≤ 140737488351232) :
    Calls Try.prog 5 #[.int .i64 n0, .slice A l.length c] w fun e w' => e = .returned (.bool true) ∧ Below w.heap.size w w' := by
  have HI := Lib.hid hb
  clear hb
  obtain ⟨n, hn20, e1⟩ := mod_pick n0 20 (by decide)
  have e1' : (IntKind.u64.wrap n0).tmod (20 : Int) = (n : Int) := e1
  clear e1
  have HN := Lib.hid (New_calls 4 (by decide) w)
  go_enter Try.func5, Try.ntmps5
  go_wp2_with (go_at_call 8; refine HN.out.mono ?_; rintro e w1 ⟨a, m, rfl, hD1, hb1⟩; refine park ?_; intro q hq)
  have HD1 := Lib.hid hD1
  have HB1 := Lib.hid hb1
  clear hD1 hb1 HN
  have HWk := Lib.hid (works_calls w1)
  refine hq.out ?_
  clear hq
  go_wp2_with (go_at_call 9; refine HWk.out.mono ?_; rintro e w2 ⟨rfl, hb2⟩; refine park ?_; intro q hq)
  have HB2 := Lib.hid (HB1.out.trans (hb2.mono HB1.out.size))
  have HD2 := Lib.hid (HD1.out.below hb2)
  clear hb2 HWk HD1 HB1
  have HC := Lib.hid (Cut_calls HD2.out (n : Int) (by omega) rfl)
  refine hq.out ?_
  clear hq
  go_wp2_with (go_at_call 15; refine HC.out.mono ?_; rintro e w3 ⟨rfl, hD3, hk3⟩; refine park ?_; intro q hq)
  have HB3 := Lib.hid (HB2.out.trans (hk3.below HB2.out.size (fun k hk hf => by subst hf; have := (HD2.out.foot k (.inl rfl)).1; omega)))
  have HD3 := Lib.hid hD3
  clear hD3 hk3 HC HD2 HB2
  refine hq.out ?_
  clear hq
  go_wp2
  go_loopw [7] (fun s wr => ∃ (i : Nat), i ≤ 40 ∧ i ≤ l.length ∧ s = .int .i64 i ∧ Hid (∃ d wv, DiskAt wr w.heap.size a m wv d ∧ Below w.heap.size w wr ∧ CutInv d n)) (fun s _ => 40 - (intOf s).toNat)
  case atStart => exact ⟨0, by omega, by omega, rfl, _, _, HD3.out, HB3.out, rfl, by simp [newD], rfl, by simp [newD]⟩
  case round =>
    obtain ⟨i, hi40, hil, rfl, HR⟩ := hrel
    obtain ⟨d, wv, hD, hB, hI⟩ := HR.out
    have HD := Lib.hid hD
    have HB := Lib.hid hB
    have HV := Lib.hid hI
    have hst0 := hD.ok.steps
    have hstn : d.steps ≤ n := by have := hI.sum; have := hD.ok.left; omega
    have HS := Lib.hid (Steps_calls hD)
    clear HR hD hB hI HD3 HB3
    by_cases hlt : i < l.length
    · by_cases h40 : i < 40
      · obtain ⟨ad, hA, hz⟩ := HI.out i hlt
        subst hA
        obtain ⟨z, hzz⟩ : ∃ z, l[i] = z := ⟨_, rfl⟩
        rw [hzz] at hz
        obtain ⟨hz, hz1⟩ := hz
        have hzr : wr.cell? (ad.add i) = some (.int .i64 z) := (HB.out.cell (World.block_lt_of_cell? w _ hz)).trans hz
        clear hzz
        go_wp2_with (go_at_call 16; refine HS.out.mono ?_; rintro e w' ⟨rfl, rfl⟩; refine park ?_; intro q hq)
        refine hq.out ?_
        clear hq
        -- ROUND
        cases h3 : (z.tmod (3 : Int) == (0 : Int))
        · by_cases hs : d.steps < n
          · obtain ⟨p, hp4, e2⟩ := mod_pick z 4 (by decide)
            have e2' : (IntKind.u64.wrap z).tmod (4 : Int) = (p : Int) := e2
            obtain ⟨c8, hc8⟩ : ∃ c8 : UInt8, IntKind.u8.wrap (i : Int) = (c8.toNat : Int) := ⟨UInt8.ofNat i, by simp only [IntKind.wrap, IntKind.bits, IntKind.signed]; first | (simp; done) | (simp; omega)⟩
            clear e2
            have x1 : ∀ w', Hid (Below w.heap.size w w') → w'.cell? (ad.add i) = some (.int .i64 z) := fun w' h => (h.out.cell (World.block_lt_of_cell? w _ hz)).trans hz
            have hS0 : Hid (Below w.heap.size w wr.drew) := HB.out.drew
            have ew : IntKind.i64.wrap (p : Int) = (p : Int) := wrap4 p hp4
            have HSz := Lib.hid HV.out.size
            have hpd : 0 ≤ (p : Int) ∧ (p : Int) < d.size := by have := HSz.out; omega
            have hbd : d.bud < 1000 := by have := HV.out.bud; omega
            have hst1 : d.steps + 1 ≤ 1000000 := by omega
            have HWr := Lib.hid (fun (wf : World) (g cc : Nat) (hDf : DiskAt wf w.heap.size a m wv d) (hbs : w.heap.size ≤ wf.heap.size) (hOb : Bytes wf (some ⟨g, 0, none⟩) (List.replicate 256 c8)) => Write_calls hDf hbs (p : Int) hpd (HV.out.on hs) (some ⟨g, 0, none⟩) cc (List.replicate 256 c8) List.length_replicate hOb hbd hst1)
            clear hpd hbd hst1
            go_wp2_with fail
            go_region_held (fun w' => Hid (Below w.heap.size w w')) (first | exact hS0 | assumption) (first | (go_at_call 11; refine (filled_calls c8 _).mono ?_; rintro e wf ⟨g, cc, rfl, hO, hbf⟩; have hDf : Hid (DiskAt wf w.heap.size a m wv d) := (HD.out.below ((Below.refl wr.heap.size wr).drew.trans hbf)); have hSf : Hid (Below w.heap.size w wf) := (HB.out.trans (((Below.refl wr.heap.size wr).drew.trans hbf).mono HB.out.size)); have hOb := Lib.hid hO.bytes; clear hO hbf) | (go_at_call 10; (with_reducible refine (HWr.out wf g cc hDf.out hSf.out.size hOb.out).mono ?_); rintro e w4 ⟨rfl, wv4, hD4, hk4, _⟩; have hS4 : Hid (Below w.heap.size w w4) := (hSf.out.trans (hk4.below hSf.out.size (fun k hk hf => by have := (hDf.out.foot k hf).1; omega))); have HD4 := Lib.hid hD4; clear hD4 hk4))
            all_goals
              have HB4 := hS4
              have HV4 := Lib.hid (HV.out.write (p : Int) (List.replicate 256 c8))
              clear x1 hS0
              have HS2 : Hid (Calls Try.prog 16 #[.pointer (some ⟨a, 0, none⟩)] w4 fun e w' => e = .returned (.int .i64 (d.steps + 1)) ∧ w4 = w') := Steps_calls HD4.out
              have k1 : decide (d.steps < (n : Int)) = true := by simpa using hs
              have k2 : decide (d.steps ≥ (n : Int)) = false := by simp; omega
              have k3 : ((d.steps + 1) != (d.steps + 1)) = false := by simp
              go_wp2_with (go_at_call 16; refine HS2.out.mono ?_; rintro e w' ⟨rfl, rfl⟩)
              go_roundw
              case rel => exact ⟨i + 1, by omega, by omega, by go_num, _, _, HD4.out, HB4.out, HV4.out⟩
              case measure => simp [intOf]; omega
          · have hoff := HV.out.off HD.out.ok hs
            obtain ⟨p, hp4, e2⟩ := mod_pick z 4 (by decide)
            have e2' : (IntKind.u64.wrap z).tmod (4 : Int) = (p : Int) := e2
            obtain ⟨c8, hc8⟩ : ∃ c8 : UInt8, IntKind.u8.wrap (i : Int) = (c8.toNat : Int) := ⟨UInt8.ofNat i, by simp only [IntKind.wrap, IntKind.bits, IntKind.signed]; first | (simp; done) | (simp; omega)⟩
            clear e2
            have x1 : ∀ w', Hid (Below w.heap.size w w') → w'.cell? (ad.add i) = some (.int .i64 z) := fun w' h => (h.out.cell (World.block_lt_of_cell? w _ hz)).trans hz
            have hS0 : Hid (Below w.heap.size w wr.drew) := HB.out.drew
            have ew : IntKind.i64.wrap (p : Int) = (p : Int) := wrap4 p hp4
            have HSz := Lib.hid HV.out.size
            have hpd : 0 ≤ (p : Int) ∧ (p : Int) < d.size := by have := HSz.out; omega
            have HWr := Lib.hid (fun (wf : World) (g cc : Nat) (hDf : DiskAt wf w.heap.size a m wv d) => Write_off hDf (p : Int) hpd hoff.1 (some ⟨g, 0, none⟩) cc)
            clear hpd
            go_wp2_with fail
            go_region_held (fun w' => Hid (Below w.heap.size w w')) (first | exact hS0 | assumption) (first | (go_at_call 11; refine (filled_calls c8 _).mono ?_; rintro e wf ⟨g, cc, rfl, hO, hbf⟩; have hDf : Hid (DiskAt wf w.heap.size a m wv d) := (HD.out.below ((Below.refl wr.heap.size wr).drew.trans hbf)); have hSf : Hid (Below w.heap.size w wf) := (HB.out.trans (((Below.refl wr.heap.size wr).drew.trans hbf).mono HB.out.size)); clear hO hbf) | (go_at_call 10; (with_reducible refine (HWr.out wf g cc hDf.out).mono ?_); rintro e w4 ⟨rfl, rfl⟩))
            all_goals
              clear x1 hS0
              have HS2 := Lib.hid (Steps_calls hDf.out)
              have k1 : decide (d.steps < (n : Int)) = false := by simpa using hs
              have k2 : decide (d.steps ≥ (n : Int)) = true := by simp; omega
              have k3 : (d.steps != (n : Int)) = false := by simp [hoff.2]
              go_wp2_with (go_at_call 16; refine HS2.out.mono ?_; rintro e w' ⟨rfl, rfl⟩)
              go_roundw
              case rel => exact ⟨i + 1, by omega, by omega, by go_num, _, _, hDf.out, hSf.out, HV.out⟩
              case measure => simp [intOf]; omega
        · by_cases hs : d.steps < n
          · have HSy := Lib.hid (Sync_calls HD.out (HV.out.on hs) (by omega) (by have := HV.out.bud; omega))
            go_wp2_with (go_at_call 12; refine HSy.out.mono ?_; rintro e w4 ⟨rfl, hD4, hk4⟩; refine park ?_; intro q hq)
            have HB4 := Lib.hid (HB.out.trans (hk4.below HB.out.size (fun k hk hf => by have := (HD.out.foot k hf).1; omega)))
            have HD4 := Lib.hid hD4
            have HV4 := Lib.hid (HV.out.sync HD.out.ok)
            clear hD4 hk4 HSy
            refine hq.out ?_
            clear hq
            have HS2 : Hid (Calls Try.prog 16 #[.pointer (some ⟨a, 0, none⟩)] w4 fun e w' => e = .returned (.int .i64 (d.steps + 1)) ∧ w4 = w') := Steps_calls HD4.out
            have k1 : decide (d.steps < (n : Int)) = true := by simpa using hs
            have k2 : decide (d.steps ≥ (n : Int)) = false := by simp; omega
            have k3 : ((d.steps + 1) != (d.steps + 1)) = false := by simp
            go_wp2_with (go_at_call 16; refine HS2.out.mono ?_; rintro e w' ⟨rfl, rfl⟩)
            go_roundw
            case rel => exact ⟨i + 1, by omega, by omega, by go_num, _, _, HD4.out, HB4.out, HV4.out⟩
            case measure => simp [intOf]; omega
          · have hoff := HV.out.off HD.out.ok hs
            have HSy := Lib.hid (Sync_off HD.out hoff.1)
            go_wp2_with (go_at_call 12; refine HSy.out.mono ?_; rintro e w4 ⟨rfl, rfl⟩; refine park ?_; intro q hq)
            refine hq.out ?_
            clear hq HSy
            have k1 : decide (d.steps < (n : Int)) = false := by simpa using hs
            have k2 : decide (d.steps ≥ (n : Int)) = true := by simp; omega
            have k3 : (d.steps != (n : Int)) = false := by simp [hoff.2]
            go_wp2_with (go_at_call 16; refine HS.out.mono ?_; rintro e w' ⟨rfl, rfl⟩)
            go_roundw
            case rel => exact ⟨i + 1, by omega, by omega, by go_num, _, _, HD.out, HB.out, HV.out⟩
            case measure => simp [intOf]; omega
      · by_cases hs : d.steps < n
        · have hoff := HV.out.on hs
          have hR := Lib.hid (Read_calls HD.out 0 (by have := HV.out.size; omega) hoff)
          have k1 : (d.steps == (n : Int)) = false := by simp; omega
          go_wp2_with (go_at_call 13; refine hR.out.mono ?_; rintro e w4 ⟨g, cc, rfl, hO, hb4⟩; refine park ?_; intro q hq)
          have HB4 := Lib.hid (HB.out.trans (hb4.mono HB.out.size))
          have HS2 := Lib.hid (Steps_calls (HD.out.below hb4))
          clear hO hb4 hR
          refine hq.out ?_
          clear hq
          go_wp2_with (go_at_call 16; refine HS2.out.mono ?_; rintro e w' ⟨rfl, rfl⟩)
          go_ret
          exact ⟨rfl, HB4.out⟩
        · have hoff := HV.out.off HD.out.ok (by omega)
          have hR := Lib.hid (Read_off HD.out 0 (by have := HV.out.size; omega) hoff.1)
          have k1 : (d.steps == (n : Int)) = true := by simp [hoff.2]
          go_wp2_with (first | (go_at_call 13; refine hR.out.mono ?_; rintro e w4 ⟨rfl, rfl⟩) | (go_at_call 16; refine HS.out.mono ?_; rintro e w' ⟨rfl, rfl⟩))
          go_ret
          exact ⟨rfl, HB.out⟩
    · by_cases hs : d.steps < n
      · have hoff := HV.out.on hs
        have hR := Lib.hid (Read_calls HD.out 0 (by have := HV.out.size; omega) hoff)
        have k1 : (d.steps == (n : Int)) = false := by simp; omega
        go_wp2_with (go_at_call 13; refine hR.out.mono ?_; rintro e w4 ⟨g, cc, rfl, hO, hb4⟩; refine park ?_; intro q hq)
        have HB4 := Lib.hid (HB.out.trans (hb4.mono HB.out.size))
        have HS2 := Lib.hid (Steps_calls (HD.out.below hb4))
        clear hO hb4 hR
        refine hq.out ?_
        clear hq
        go_wp2_with (go_at_call 16; refine HS2.out.mono ?_; rintro e w' ⟨rfl, rfl⟩)
        go_ret
        exact ⟨rfl, HB4.out⟩
      · have hoff := HV.out.off HD.out.ok (by omega)
        have hR := Lib.hid (Read_off HD.out 0 (by have := HV.out.size; omega) hoff.1)
        have k1 : (d.steps == (n : Int)) = true := by simp [hoff.2]
        go_wp2_with (first | (go_at_call 13; refine hR.out.mono ?_; rintro e w4 ⟨rfl, rfl⟩) | (go_at_call 16; refine HS.out.mono ?_; rintro e w' ⟨rfl, rfl⟩))
        go_ret
        exact ⟨rfl, HB.out⟩
end Go.Proofs.Ytgodnmlggomaaaa
