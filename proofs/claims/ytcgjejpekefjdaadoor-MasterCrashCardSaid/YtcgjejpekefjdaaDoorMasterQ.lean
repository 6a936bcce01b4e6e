/- A master opened. -/
import Derived.Test.YtcgjejpekefjdaaDoorMasterO
set_option linter.unusedSimpArgs false
set_option linter.unusedVariables false
namespace Go.Proofs.YtcgjejpekefjdaaDoor
open Go.RowKit Go.Proofs.YtcgjejpekefjdaaDoor.Crc
open Go.Proofs.YtcgjejpekefjdaaDoor.Dsk
/-- A master under way: k slots are read. -/
def MasM.upto (x : MasM) (k : Nat) : MasM := { pos := x.pos, e0 := if 0 < k then x.e0 else 0, f0 := if 0 < k then x.f0 else [], e1 := if 1 < k then x.e1 else 0, f1 := if 1 < k then x.f1 else [] }
theorem MsAt.four {w : World} {r : Nat} {p : Option Addr} {x : MasM} (h : MsAt w r p x) : (∃ v, w.cell? ⟨r, 2, none⟩ = some v) ∧ (∃ v, w.cell? ⟨r, 3, none⟩ = some v) ∧ (∃ v, w.cell? ⟨r, 4, none⟩ = some v) ∧ (∃ v, w.cell? ⟨r, 5, none⟩ = some v) ∧ w.frozen? ⟨r, 2, none⟩ = false ∧ w.frozen? ⟨r, 3, none⟩ = false ∧ w.frozen? ⟨r, 4, none⟩ = false ∧ w.frozen? ⟨r, 5, none⟩ = false := by
  obtain ⟨A0, c0, A1, c1, h1, _⟩ := h
  obtain ⟨_, _, k2, k3, k4, k5⟩ := h1.cells
  exact ⟨⟨_, k2⟩, ⟨_, k3⟩, ⟨_, k4⟩, ⟨_, k5⟩, h1.fr 2, h1.fr 3, h1.fr 4, h1.fr 5⟩
set_option maxRecDepth 10000 in
set_option maxHeartbeats 2000000 in
theorem MOpen_calls {w : World} {base a m : Nat} {wv : Value} {d : DiskM} (h : DiskAt w base a m wv d) (hh : HalfIs w) (ho : d.isOff = false) (x : MasM) (hx : (x.pos : Int) + 2 ≤ d.size) (p0 : ParS (d.now x.pos) x.e0 x.f0) (p1 : ParS (d.now (x.pos + 1)) x.e1 x.f1) :
    Calls Tryd.prog 10 #[.pointer (some ⟨a, 0, none⟩), .int .i64 (x.pos : Int)] w fun e w' => ∃ r, e = .returned (.tuple #[.pointer (some ⟨r, 0, none⟩), .int .i64 0]) ∧ MsAt w' r (some ⟨a, 0, none⟩) x ∧ w.heap.size ≤ r ∧ Below w.heap.size w w' := by
  have hsz := h.ok.size
  have HSz := Lib.hid (Size_calls h)
  have d1 : (d.size == 0) = false := by simp; omega
  have d2 : decide ((x.pos : Int) < 0) = false := by simp
  have d3 : decide ((x.pos : Int) > d.size - 2) = false := by simp; omega
  have hw1 : wrap64 (d.size - 2) = d.size - 2 := by unfold wrap64; omega
  have hp : x.pos ≤ 4096 := by omega
  have HD := Lib.hid h
  have HH := Lib.hid hh
  have HP0 := Lib.hid p0
  have HP1 := Lib.hid p1
  have HX := Lib.hid hx
  have HRd : Hid (∀ w' (i : Int), Below w.heap.size w w' → 0 ≤ i ∧ i < d.size → Calls Tryd.prog 36 #[.pointer (some ⟨a, 0, none⟩), .int .i64 i] w' (RetS w' (d.now i))) := fun w' i hb hi => Go.Proofs.YtcgjejpekefjdaaDoor.Dsk.Read_calls (h.below hb) i hi ho
  have HPl := Lib.hid hp
  clear h hh ho hx p0 p1 hsz hp
  go_enter Tryd.func10, Tryd.ntmps10
  go_wp2_with (go_at_call 35; refine HSz.out.mono ?_; rintro e w' ⟨rfl, rfl⟩)
  simp only [hw1]
  go_loopw [29] (fun i wr => ∃ k : Nat, k ≤ 2 ∧ i = .int .i64 (k : Int) ∧ Hid (MsAt wr w.heap.size (some ⟨a, 0, none⟩) (x.upto k) ∧ Below w.heap.size w wr)) (fun i _ => 2 - (intOf i).toNat)
  case atStart =>
    refine ⟨0, Nat.zero_le _, rfl, ⟨none, 0, none, 0, heap_alloc_new w _, U64o.nil _, U64o.nil _, fun _ => rfl, fun _ => rfl, ⟨HPl.out, Nat.zero_le _, Nat.zero_le _, Nat.zero_le _, Nat.zero_le _⟩⟩, (Below.refl _ _).alloc (Nat.le_refl _) _⟩
  case round =>
    obtain ⟨k, hk, rfl, HV⟩ := hrel
    by_cases hk0 : k = 0
    · subst hk0
      have hwi : wrap64 (x.pos : Int) = (x.pos : Int) := by have := HPl.out; unfold wrap64; omega
      have hR := HRd.out wr (x.pos : Int) HV.out.2 (by have := HX.out; omega)
      have HR := Lib.hid hR
      clear hR
      go_wp2_with (go_at_call 36; (with_reducible refine HR.out.mono ?_); rintro e w5 ⟨g, c5, rfl, hO5, hb5⟩; refine park ?_; intro q hq)
      refine hq.out ?_
      clear hq
      have HM5 : Hid (MsAt w5 w.heap.size (some ⟨a, 0, none⟩) (x.upto 0) ∧ Below w.heap.size w w5) := ⟨HV.out.1.below hb5, HV.out.2.trans (hb5.mono HV.out.2.size)⟩
      have hcp := hO5.capsM
      have hln := hO5.len
      have HPc : Hid (∀ w', Below w5.heap.size w5 w' → Calls Tryd.prog 37 #[.slice (some ⟨g, 0, none⟩) 256 c5] w' fun e w'' => ∃ A' c', e = .returned (.agg #[.int .i64 (x.e0 : Int), .slice A' x.f0.length c']) ∧ Hid ((A' = none → c' = 0) ∧ U64o w'' A' x.f0 ∧ (∀ ad, A' = some ad → w'.heap.size ≤ ad.block) ∧ Below w'.heap.size w' w'')) := fun w' hb' =>
        parse_calls _ 256 c5 _ w' ((HH.out.below HM5.out.2).below hb') hln (hO5.bytes.below hb') hcp.1 hcp.2 _ _ HP0.out
      clear hO5 hb5 hcp hln HR HV
      go_wp2_with fail
      have hbd : Below w5.heap.size w5 w5.drew := (Below.refl _ _).drew
      go_region_law (first | (go_simp; go_at_call 37; (with_reducible refine (HPc.out _ hbd).mono ?_); rintro e w6 ⟨A6, c6, rfl, h6⟩; obtain ⟨⟨v2, q2⟩, ⟨v3, q3⟩, ⟨v4, q4⟩, ⟨v5, q5⟩, f2, f3, f4, f5⟩ := (HM5.out.1.below (hbd.trans (h6.out.2.2.2.mono hbd.size))).four))
      have HN : Hid (MsAt ((w6.setCell ⟨w.heap.size, 2, none⟩ (.int .i64 (x.e0 : Int))).setCell ⟨w.heap.size, 3, none⟩ (.slice A6 x.f0.length c6)) w.heap.size (some ⟨a, 0, none⟩) (x.upto 1) ∧ Below w.heap.size w ((w6.setCell ⟨w.heap.size, 2, none⟩ (.int .i64 (x.e0 : Int))).setCell ⟨w.heap.size, 3, none⟩ (.slice A6 x.f0.length c6))) := by
        have hb56 : Below w5.heap.size w5 w6 := hbd.trans (h6.out.2.2.2.mono hbd.size)
        have hl := HP0.out.lens
        refine ⟨HM5.out.1.put0 (Kept.of_below hb56) x.e0 x.f0 A6 c6 h6.out.1 h6.out.2.1 (fun ad hA => Nat.le_trans hbd.size (h6.out.2.2.1 ad hA)) hl.1 hl.2, ?_⟩
        have hb6 : Below w.heap.size w w6 := HM5.out.2.trans (hb56.mono HM5.out.2.size)
        have hks : Kept (· = w.heap.size) w6 ((w6.setCell ⟨w.heap.size, 2, none⟩ (.int .i64 (x.e0 : Int))).setCell ⟨w.heap.size, 3, none⟩ (.slice A6 x.f0.length c6)) := (Kept.set1 w6 w.heap.size 2 _).trans (Kept.set1 _ w.heap.size 3 _)
        exact hb6.trans (hks.below hb6.size (fun j hj e => by omega))
      clear q2 q3 q4 q5 f2 f3 f4 f5 h6 HM5 HPc hbd
      go_wp2_with fail
      go_roundw
      case rel => exact ⟨1, by omega, by go_num, HN⟩
      case measure => simp [intOf]
    by_cases hk1 : k = 1
    · subst hk1
      have hwi : wrap64 ((x.pos : Int) + 1) = (x.pos : Int) + 1 := by have := HPl.out; unfold wrap64; omega
      have hR := HRd.out wr ((x.pos : Int) + 1) HV.out.2 (by have := HX.out; omega)
      have HR := Lib.hid hR
      clear hR
      go_wp2_with (go_at_call 36; (with_reducible refine HR.out.mono ?_); rintro e w5 ⟨g, c5, rfl, hO5, hb5⟩; refine park ?_; intro q hq)
      refine hq.out ?_
      clear hq
      have HM5 : Hid (MsAt w5 w.heap.size (some ⟨a, 0, none⟩) (x.upto 1) ∧ Below w.heap.size w w5) := ⟨HV.out.1.below hb5, HV.out.2.trans (hb5.mono HV.out.2.size)⟩
      have hcp := hO5.capsM
      have hln := hO5.len
      have HPc : Hid (∀ w', Below w5.heap.size w5 w' → Calls Tryd.prog 37 #[.slice (some ⟨g, 0, none⟩) 256 c5] w' fun e w'' => ∃ A' c', e = .returned (.agg #[.int .i64 (x.e1 : Int), .slice A' x.f1.length c']) ∧ Hid ((A' = none → c' = 0) ∧ U64o w'' A' x.f1 ∧ (∀ ad, A' = some ad → w'.heap.size ≤ ad.block) ∧ Below w'.heap.size w' w'')) := fun w' hb' =>
        parse_calls _ 256 c5 _ w' ((HH.out.below HM5.out.2).below hb') hln (hO5.bytes.below hb') hcp.1 hcp.2 _ _ HP1.out
      clear hO5 hb5 hcp hln HR HV
      go_wp2_with fail
      have hbd : Below w5.heap.size w5 w5.drew := (Below.refl _ _).drew
      go_region_law (first | (go_simp; go_at_call 37; (with_reducible refine (HPc.out _ hbd).mono ?_); rintro e w6 ⟨A6, c6, rfl, h6⟩; obtain ⟨⟨v2, q2⟩, ⟨v3, q3⟩, ⟨v4, q4⟩, ⟨v5, q5⟩, f2, f3, f4, f5⟩ := (HM5.out.1.below (hbd.trans (h6.out.2.2.2.mono hbd.size))).four))
      have HN : Hid (MsAt ((w6.setCell ⟨w.heap.size, 4, none⟩ (.int .i64 (x.e1 : Int))).setCell ⟨w.heap.size, 5, none⟩ (.slice A6 x.f1.length c6)) w.heap.size (some ⟨a, 0, none⟩) (x.upto 2) ∧ Below w.heap.size w ((w6.setCell ⟨w.heap.size, 4, none⟩ (.int .i64 (x.e1 : Int))).setCell ⟨w.heap.size, 5, none⟩ (.slice A6 x.f1.length c6))) := by
        have hb56 : Below w5.heap.size w5 w6 := hbd.trans (h6.out.2.2.2.mono hbd.size)
        have hl := HP1.out.lens
        refine ⟨HM5.out.1.put1 (Kept.of_below hb56) x.e1 x.f1 A6 c6 h6.out.1 h6.out.2.1 (fun ad hA => Nat.le_trans hbd.size (h6.out.2.2.1 ad hA)) hl.1 hl.2, ?_⟩
        have hb6 : Below w.heap.size w w6 := HM5.out.2.trans (hb56.mono HM5.out.2.size)
        have hks : Kept (· = w.heap.size) w6 ((w6.setCell ⟨w.heap.size, 4, none⟩ (.int .i64 (x.e1 : Int))).setCell ⟨w.heap.size, 5, none⟩ (.slice A6 x.f1.length c6)) := (Kept.set1 w6 w.heap.size 4 _).trans (Kept.set1 _ w.heap.size 5 _)
        exact hb6.trans (hks.below hb6.size (fun j hj e => by omega))
      clear q2 q3 q4 q5 f2 f3 f4 f5 h6 HM5 HPc hbd
      go_wp2_with fail
      go_roundw
      case rel => exact ⟨2, by omega, by go_num, HN⟩
      case measure => simp [intOf]
    obtain rfl : k = 2 := by omega
    go_wp2_with fail
    go_ret2
    exact ⟨_, rfl, HV.out.1, Nat.le_refl _, HV.out.2⟩
end Go.Proofs.YtcgjejpekefjdaaDoor
