/- The walk of DiskTears. -/
import Derived.Test.YtgodnmlggomaaaaDiskS
set_option linter.unusedSimpArgs false
set_option linter.unusedVariables false
namespace Go.Proofs.Ytgodnmlggomaaaa
open Go.RowKit
def tearD (o y : UInt8) : DiskM := (((newD 2).write 1 (List.replicate 256 o)).sync).write 1 (List.replicate 256 y)
theorem tear_now (o y : UInt8) (at_ : Int) (h0 : 0 ≤ at_) (h1 : at_ ≤ 256) : ((tearD o y).lose [] 0 at_).now 1 = List.replicate at_.toNat y ++ List.replicate (256 - at_.toNat) o := by
  have e : ((tearD o y).lose [] 0 at_).now 1 = loseS [] 0 at_ 1 0 (List.replicate 256 y) (List.replicate 256 o) := by rfl
  rw [e]
  unfold loseS
  rw [if_pos (by simp), List.take_replicate, List.drop_replicate, Nat.min_eq_left (by omega)]
theorem tear_at (o y : UInt8) (n k : Nat) (hn : n ≤ 256) (hk : k < 256) : at8 (List.replicate n y ++ List.replicate (256 - n) o) k = if k < n then y else o := by
  rw [at8_eq _ _ (by simp; omega)]
  split
  · rw [List.getElem_append_left (by simpa)]; simp
  · rw [List.getElem_append_right (by simpa using by omega)]; simp
theorem bne_u8 (a : UInt8) : ((a.toNat : Int) != (a.toNat : Int)) = false := by simp
set_option maxRecDepth 100000 in
set_option maxHeartbeats 2000000 in
theorem tears_calls (o y : UInt8) (at_ : Int) (w : World) (hat : -9223372036854775808 ≤ at_ ∧ at_ ≤ 9223372036854775807) :
    Calls Try.prog 4 #[.int .u8 (o.toNat : Int), .int .u8 (y.toNat : Int), .int .i64 at_] w fun e w' => e = .returned (.bool true) ∧ Below w.heap.size w w' := by
  have HN := Lib.hid (New_calls 2 (by decide) w)
  go_enter Try.func4, Try.ntmps4
  go_wp2_with (go_at_call 8; refine HN.out.mono ?_; rintro e w1 ⟨a, m, rfl, hD1, hb1⟩; refine park ?_; intro q hq)
  have HD1 := Lib.hid hD1
  have HB1 := Lib.hid hb1
  clear hD1 hb1 HN
  have HWk := Lib.hid (works_calls w1)
  refine hq.out ?_
  clear hq
  go_wp2_with (go_at_call 9; refine HWk.out.mono ?_; rintro e w2 ⟨rfl, hb2⟩; refine park ?_; intro q hq)
  have HB2 := Lib.hid (HB1.out.trans (hb2.mono HB1.out.size))
  have HD2 := Lib.hid (HD1.out.below hb2)
  clear hb2 HWk HD1 HB1
  have HFi := Lib.hid (filled_calls o w2)
  refine hq.out ?_
  clear hq
  go_wp2_with (go_at_call 11; refine HFi.out.mono ?_; rintro e w3 ⟨g, c, rfl, hO, hb3⟩; refine park ?_; intro q hq)
  have HO := Lib.hid hO
  have HB3 := Lib.hid (HB2.out.trans (hb3.mono HB2.out.size))
  have HD3 := Lib.hid (HD2.out.below hb3)
  clear hO hb3 HFi HD2 HB2
  have HW := Lib.hid (Write_calls HD3.out HB3.out.size 1 (by simp [newD]) rfl (some ⟨g, 0, none⟩) c (List.replicate 256 o) List.length_replicate HO.out.bytes (by simp [newD]) (by simp [newD]))
  refine hq.out ?_
  clear hq
  go_wp2_with (go_at_call 10; refine HW.out.mono ?_; rintro e w4 ⟨rfl, wv, hD4, hk4, _⟩; refine park ?_; intro q hq)
  have HD4 := Lib.hid hD4
  have HB4 := Lib.hid (HB3.out.trans (hk4.below HB3.out.size (fun k hk hf => by have := (HD3.out.foot k hf).1; omega)))
  clear hD4 hk4 HW HD3 HO HB3
  have HSy := Lib.hid (Sync_calls HD4.out rfl (by show (1 : Int) + 1 ≤ 1000000; decide) (by show 1 + 1 ≤ 1000; decide))
  refine hq.out ?_
  clear hq
  go_wp2_with (go_at_call 12; refine HSy.out.mono ?_; rintro e w5 ⟨rfl, hD5, hk5⟩; refine park ?_; intro q hq)
  have HD5 := Lib.hid hD5
  have HB5 := Lib.hid (HB4.out.trans (hk5.below HB4.out.size (fun k hk hf => by have := (HD4.out.foot k hf).1; omega)))
  clear hD5 hk5 HSy HD4 HB4
  have HFi := Lib.hid (filled_calls y w5)
  refine hq.out ?_
  clear hq
  go_wp2_with (go_at_call 11; refine HFi.out.mono ?_; rintro e w6 ⟨g, c, rfl, hO, hb6⟩; refine park ?_; intro q hq)
  have HO := Lib.hid hO
  have HB6 := Lib.hid (HB5.out.trans (hb6.mono HB5.out.size))
  have HD6 := Lib.hid (HD5.out.below hb6)
  clear hO hb6 HFi HD5 HB5
  have HW := Lib.hid (Write_calls HD6.out HB6.out.size 1 (by show (0 : Int) ≤ 1 ∧ (1 : Int) < 2; decide) rfl (some ⟨g, 0, none⟩) c (List.replicate 256 y) List.length_replicate HO.out.bytes (by show 1 + 1 < 1000; decide) (by show (0 : Int) + 1 + 1 + 1 ≤ 1000000; decide))
  refine hq.out ?_
  clear hq
  go_wp2_with (go_at_call 10; refine HW.out.mono ?_; rintro e w7 ⟨rfl, wv7, hD7, hk7, _⟩; refine park ?_; intro q hq)
  have HD7 : Hid (DiskAt w7 w.heap.size a m wv7 (tearD o y)) := hD7
  have HB7 := Lib.hid (HB6.out.trans (hk7.below HB6.out.size (fun k hk hf => by have := (HD6.out.foot k hf).1; omega)))
  clear hD7 hk7 HW HD6 HO HB6
  by_cases hbad : at_ < 0 ∨ 256 < at_
  · have HL := Lib.hid (Lose_err HD7.out at_ (by show 0 < 1; decide) hbad)
    refine hq.out ?_
    clear hq
    go_wp2_with (go_at_call 14; refine HL.out.mono ?_; rintro e w8 ⟨rfl, hb8⟩; refine park ?_; intro q hq)
    have HB8 := Lib.hid (HB7.out.trans (hb8.mono HB7.out.size))
    clear hb8 HL
    refine hq.out ?_
    clear hq
    rcases hbad with ha | ha
    · have e2 : decide (at_ < (0 : Int)) = true := by simpa using ha
      go_wp2
      go_ret
      exact ⟨rfl, HB8.out⟩
    · have e2 : decide (at_ < (0 : Int)) = false := by simp; omega
      have e3 : decide (at_ > (256 : Int)) = true := by simpa using ha
      go_wp2
      go_ret
      exact ⟨rfl, HB8.out⟩
  · have h0 : 0 ≤ at_ := by omega
    have h1 : at_ ≤ 256 := by omega
    have HL : Hid (Calls Try.prog 14 #[.pointer (some ⟨a, 0, none⟩), .agg #[.slice none 0 0, .int .i64 0, .int .i64 at_]] w7 (RetD w7 ((tearD o y).lose [] 0 at_) (.slice none 0 0))) :=
      Lose_calls HD7.out none 0 [] 0 at_ (fun k hk => absurd hk (by simp)) (by simp) (fun _ => ⟨h0, h1⟩) (by omega) (by omega)
    refine hq.out ?_
    clear hq
    go_wp2_with (go_at_call 14; refine HL.out.mono ?_; rintro e w8 ⟨a8, m8, rfl, hD8, hb8⟩; refine park ?_; intro q hq)
    have HB8 := Lib.hid (HB7.out.trans (hb8.mono HB7.out.size))
    have HD8 := Lib.hid hD8
    clear hb8 HL hD8 HD7
    have HR1 := Lib.hid (Read_calls HD8.out 1 (by show (0 : Int) ≤ 1 ∧ (1 : Int) < 2; decide) rfl)
    have e2 : decide (at_ < (0 : Int)) = false := by simp; omega
    have e3 : decide (at_ > (256 : Int)) = false := by simp; omega
    refine hq.out ?_
    clear hq
    go_wp2_with (go_at_call 13; refine HR1.out.mono ?_; rintro e w9 ⟨g1, c1, rfl, hO1, hb9⟩; refine park ?_; intro q hq)
    have HB9 := Lib.hid (HB8.out.trans (hb9.mono HB8.out.size))
    have HO1 := Lib.hid hO1
    clear hO1 hb9 HR1 HD8 e2 e3
    refine hq.out ?_
    clear hq
    go_wp2
    go_loop [87] (fun s => ∃ k : Nat, k ≤ 256 ∧ s = .int .i64 k) (fun s => 256 - (intOf s).toNat)
    case atStart => exact ⟨0, by omega, rfl⟩
    case round =>
      obtain ⟨k, hk, rfl⟩ := hrel
      by_cases hlt : k < 256
      · have hx := (HO1.out.cells k (by rw [tear_now o y at_ h0 h1]; simp; omega)).1
        rw [tear_now o y at_ h0 h1, tear_at o y at_.toNat k (by omega) hlt] at hx
        have u1 := bne_u8 o
        have u2 := bne_u8 y
        by_cases hka : (k : Int) < at_
        · rw [if_pos (by omega)] at hx
          have d1 : decide ((k : Int) < at_) = true := by simpa using hka
          have d2 : decide ((k : Int) ≥ at_) = false := by simp; omega
          go_wp2
          go_round
          case rel => exact ⟨k + 1, by omega, by go_num⟩
          case measure => simp [intOf]; omega
        · rw [if_neg (by omega)] at hx
          have d1 : decide ((k : Int) < at_) = false := by simpa using hka
          have d2 : decide ((k : Int) ≥ at_) = true := by simp; omega
          go_wp2
          go_round
          case rel => exact ⟨k + 1, by omega, by go_num⟩
          case measure => simp [intOf]; omega
      · obtain rfl : k = 256 := by omega
        go_wp2
        go_ret
        exact ⟨rfl, HB9.out⟩
theorem u8_of (n : Int) (h0 : 0 ≤ n) (h1 : n ≤ 255) : ∃ a : UInt8, (a.toNat : Int) = n := ⟨UInt8.ofNat n.toNat, by simp; omega⟩
end Go.Proofs.Ytgodnmlggomaaaa
