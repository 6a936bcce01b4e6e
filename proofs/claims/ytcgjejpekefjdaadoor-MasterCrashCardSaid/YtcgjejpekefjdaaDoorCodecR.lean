/- The walks of codec: the reader of numbers of whatever size. -/
import Derived.Test.YtcgjejpekefjdaaDoorCodecU
import Derived.WalkMore
set_option linter.unusedSimpArgs false
set_option linter.unusedVariables false
namespace Go.Proofs.YtcgjejpekefjdaaDoor
open Go.RowKit Go.Proofs.YtcgjejpekefjdaaDoor.Crc
theorem pow128 (i : Nat) : 128 ^ i = 2 ^ (7 * i) := by rw [Nat.pow_mul]
theorem or_num (N i : Nat) (c : UInt8) (L : Int) (hL : L = ((128 ^ i : Nat) : Int)) (hN : N < 18446744073709551616) (hc : N / 128 ^ i % 128 = c.toNat % 128) :
    bits .or .u64 ((N : Int) % L) (IntKind.u64.wrap (IntKind.u64.wrap (bits .and .u8 (c.toNat : Int) 127) * L)) = ((N % 128 ^ (i + 1) : Nat) : Int) := by
  subst hL
  obtain ⟨P, hP⟩ : ∃ P, 128 ^ i = P := ⟨_, rfl⟩
  have hP2 : P = 2 ^ (7 * i) := by rw [← hP, pow128]
  rw [Nat.pow_succ, Nat.mod_mul, hP]
  rw [hP] at hc
  clear hP
  have hc' := c.toNat_lt
  have hpos : 0 < P := by rw [hP2]; exact Nat.two_pow_pos _
  rw [and127, ← hc]
  obtain ⟨C, hC⟩ : ∃ C, N / P % 128 = C := ⟨_, rfl⟩
  rw [hC]
  have hCP : P * C ≤ N := by
    have h1 : C ≤ N / P := by rw [← hC]; exact Nat.mod_le _ _
    calc P * C ≤ P * (N / P) := Nat.mul_le_mul_left _ h1
      _ ≤ N := Nat.mul_div_le _ _
  have e1 : IntKind.u64.wrap (C : Int) = (C : Int) := by
    have : C < 128 := by rw [← hC]; exact Nat.mod_lt _ (by decide)
    simp only [IntKind.wrap, IntKind.bits, IntKind.signed]; simp; omega
  have e2 : IntKind.u64.wrap ((C : Int) * (P : Int)) = ((P * C : Nat) : Int) := by
    rw [show (C : Int) * (P : Int) = ((P * C : Nat) : Int) by push_cast; exact Int.mul_comm _ _]
    obtain ⟨D, hD⟩ : ∃ D, P * C = D := ⟨_, rfl⟩
    rw [hD] at hCP ⊢
    simp only [IntKind.wrap, IntKind.bits, IntKind.signed]; simp; omega
  have hm : N % P < P := Nat.mod_lt _ hpos
  have hm2 : N % P ≤ N := Nat.mod_le _ _
  rw [e1, e2, show (N : Int) % (P : Int) = ((N % P : Nat) : Int) by push_cast; rfl, u64_or_nat _ _ (by omega) (by omega)]
  rw [hP2] at hm ⊢
  have := Nat.two_pow_add_eq_or_of_lt hm C
  rw [Nat.or_comm, ← this, Nat.add_comm]
set_option maxRecDepth 10000 in
set_option maxHeartbeats 4000000 in
theorem number_calls {w : World} {r N : Nat} {rest : List UInt8} (hN : N < 18446744073709551616) (h : RdL w r (putU N ++ rest)) :
    Calls Tryd.prog 74 #[.pointer (some ⟨r, 0, none⟩)] w fun e w' => e = .returned (.tuple #[.int .u64 (N : Int), .bool true]) ∧ RdL w' r rest ∧ Kept (· = r) w w' := by
  have H := Lib.hid h
  clear h
  go_enter Tryd.func74, Tryd.ntmps74
  go_wp2_with fail
  go_step3
  go_wp2_with fail
  go_loopw [2, 5] (fun v k wr => ∃ i : Nat, i < 10 ∧ v = .int .u64 ((N % 128 ^ i : Nat) : Int) ∧ k = .int .i64 (i : Int) ∧ Hid (RdL wr r (putU (N / 128 ^ i) ++ rest) ∧ Kept (· = r) w wr ∧ (i = 0 ∨ N / 128 ^ i ≠ 0))) (fun _ k _ => (10 - intOf k).toNat)
  case atStart => exact ⟨0, by omega, by rw [Nat.pow_zero, Nat.mod_one]; rfl, rfl, by rw [Nat.pow_zero, Nat.div_one]; exact H.out, Kept.refl _ _, Or.inl rfl⟩
  case round =>
    obtain ⟨i, hi, rfl, rfl, HR⟩ := hrel
    obtain ⟨M, hM⟩ : ∃ M, N / 128 ^ i = M := ⟨_, rfl⟩
    rw [hM] at HR
    have HT := Lib.hid (take_calls HR.out.1 1 (by have := putU_pos M; rw [List.length_append]; omega))
    have HM := Lib.hid hM
    clear hM
    by_cases hs : M < 128
    · obtain ⟨c, hc⟩ : ∃ c : UInt8, UInt8.ofNat M = c := ⟨_, rfl⟩
      have hcM := Lib.hid (show c.toNat = M by rw [← hc]; simp; omega)
      have HP := Lib.hid (show (putU M ++ rest).take 1 = [c] ∧ (putU M ++ rest).drop 1 = rest by rw [putU_small M hs, hc]; exact ⟨rfl, rfl⟩)
      clear hc
      go_wp2_with (go_at_call 82; refine HT.out.mono ?_; rintro e w2 ⟨A2, c2, rfl, hb2, hr2, hk2⟩; refine park ?_; intro q hq)
      refine hq.out ?_
      clear hq
      rw [HP.out.1] at hb2
      rw [HP.out.2] at hr2
      have HR2 := Lib.hid hr2
      have HK2 := Lib.hid (HR.out.2.1.trans hk2)
      obtain ⟨ad, hA, hx⟩ := hb2 0 (by simp)
      clear hr2 hk2 HT hb2
      subst hA
      have hx0 : w2.cell? ad = some (.int .u8 (c.toNat : Int)) := hx
      clear hx
      have hlt : decide ((c.toNat : Int) < 128) = true := by have := hcM.out; simp; omega
      have HO := Lib.hid (fun L hL => or_num N i c L hL hN (by rw [HM.out, hcM.out]))
      have HF := Lib.hid (show N % 128 ^ (i + 1) = N by
        refine Nat.mod_eq_of_lt ?_
        have h1 := HM.out
        rw [Nat.pow_succ]
        have := Nat.lt_mul_div_succ N (Nat.two_pow_pos (7 * i))
        rw [← pow128, h1] at this
        exact Nat.lt_of_lt_of_le this (Nat.mul_le_mul_left _ (by omega)))
      have hbig := Lib.hid (show i = 9 → M ≤ 1 by
        intro e
        subst e
        have h1 := HM.out
        have h2 : M < 2 := by
          rw [← h1]
          exact Nat.div_lt_of_lt_mul hN
        omega)
      have hnz := Lib.hid HR.out.2.2
      clear HR HP
      by_cases h0 : i = 0
      · subst h0
        clear hs hbig hnz
        go_wp2_with fail
        rw [Exit.noGoto_ret]
        go_ret2
        refine ⟨?_, HR2.out, HK2.out⟩
        refine congrArg (fun x => Ending.returned (.tuple #[.int .u64 x, .bool true])) ?_
        have ho := HO.out 1 rfl
        rw [HF.out, Int.emod_one, Int.mul_one] at ho
        exact ho
      by_cases h1 : i = 1
      · subst h1
        have hc0 : ((c.toNat : Int) == 0) = false := by have h1 := hcM.out; have h2 := hnz.out; simp; omega
        clear hs hbig hnz
        go_wp2_with fail
        rw [Exit.noGoto_ret]
        go_ret2
        refine ⟨?_, HR2.out, HK2.out⟩
        refine congrArg (fun x => Ending.returned (.tuple #[.int .u64 x, .bool true])) ?_
        have ho := HO.out _ rfl
        rw [HF.out] at ho
        exact ho
      by_cases h2 : i = 2
      · subst h2
        have hc0 : ((c.toNat : Int) == 0) = false := by have h1 := hcM.out; have h2 := hnz.out; simp; omega
        clear hs hbig hnz
        go_wp2_with fail
        rw [Exit.noGoto_ret]
        go_ret2
        refine ⟨?_, HR2.out, HK2.out⟩
        refine congrArg (fun x => Ending.returned (.tuple #[.int .u64 x, .bool true])) ?_
        have ho := HO.out _ rfl
        rw [HF.out] at ho
        exact ho
      by_cases h3 : i = 3
      · subst h3
        have hc0 : ((c.toNat : Int) == 0) = false := by have h1 := hcM.out; have h2 := hnz.out; simp; omega
        clear hs hbig hnz
        go_wp2_with fail
        rw [Exit.noGoto_ret]
        go_ret2
        refine ⟨?_, HR2.out, HK2.out⟩
        refine congrArg (fun x => Ending.returned (.tuple #[.int .u64 x, .bool true])) ?_
        have ho := HO.out _ rfl
        rw [HF.out] at ho
        exact ho
      by_cases h4 : i = 4
      · subst h4
        have hc0 : ((c.toNat : Int) == 0) = false := by have h1 := hcM.out; have h2 := hnz.out; simp; omega
        clear hs hbig hnz
        go_wp2_with fail
        rw [Exit.noGoto_ret]
        go_ret2
        refine ⟨?_, HR2.out, HK2.out⟩
        refine congrArg (fun x => Ending.returned (.tuple #[.int .u64 x, .bool true])) ?_
        have ho := HO.out _ rfl
        rw [HF.out] at ho
        exact ho
      by_cases h5 : i = 5
      · subst h5
        have hc0 : ((c.toNat : Int) == 0) = false := by have h1 := hcM.out; have h2 := hnz.out; simp; omega
        clear hs hbig hnz
        go_wp2_with fail
        rw [Exit.noGoto_ret]
        go_ret2
        refine ⟨?_, HR2.out, HK2.out⟩
        refine congrArg (fun x => Ending.returned (.tuple #[.int .u64 x, .bool true])) ?_
        have ho := HO.out _ rfl
        rw [HF.out] at ho
        exact ho
      by_cases h6 : i = 6
      · subst h6
        have hc0 : ((c.toNat : Int) == 0) = false := by have h1 := hcM.out; have h2 := hnz.out; simp; omega
        clear hs hbig hnz
        go_wp2_with fail
        rw [Exit.noGoto_ret]
        go_ret2
        refine ⟨?_, HR2.out, HK2.out⟩
        refine congrArg (fun x => Ending.returned (.tuple #[.int .u64 x, .bool true])) ?_
        have ho := HO.out _ rfl
        rw [HF.out] at ho
        exact ho
      by_cases h7 : i = 7
      · subst h7
        have hc0 : ((c.toNat : Int) == 0) = false := by have h1 := hcM.out; have h2 := hnz.out; simp; omega
        clear hs hbig hnz
        go_wp2_with fail
        rw [Exit.noGoto_ret]
        go_ret2
        refine ⟨?_, HR2.out, HK2.out⟩
        refine congrArg (fun x => Ending.returned (.tuple #[.int .u64 x, .bool true])) ?_
        have ho := HO.out _ rfl
        rw [HF.out] at ho
        exact ho
      by_cases h8 : i = 8
      · subst h8
        have hc0 : ((c.toNat : Int) == 0) = false := by have h1 := hcM.out; have h2 := hnz.out; simp; omega
        clear hs hbig hnz
        go_wp2_with fail
        rw [Exit.noGoto_ret]
        go_ret2
        refine ⟨?_, HR2.out, HK2.out⟩
        refine congrArg (fun x => Ending.returned (.tuple #[.int .u64 x, .bool true])) ?_
        have ho := HO.out _ rfl
        rw [HF.out] at ho
        exact ho
      by_cases h9 : i = 9
      · subst h9
        have hc1 : decide ((c.toNat : Int) > 1) = false := by have h1 := hcM.out; have h2 := hbig.out rfl; simp; omega
        have hc0 : ((c.toNat : Int) == 0) = false := by have h1 := hcM.out; have h2 := hnz.out; simp; omega
        clear hs hbig hnz
        go_wp2_with fail
        rw [Exit.noGoto_ret]
        go_ret2
        refine ⟨?_, HR2.out, HK2.out⟩
        refine congrArg (fun x => Ending.returned (.tuple #[.int .u64 x, .bool true])) ?_
        have ho := HO.out _ rfl
        rw [HF.out] at ho
        exact ho
      exact absurd hi (by omega)
    · obtain ⟨c, hc⟩ : ∃ c : UInt8, UInt8.ofNat (M % 128 + 128) = c := ⟨_, rfl⟩
      have hcM := Lib.hid (show c.toNat = M % 128 + 128 by rw [← hc]; simp; omega)
      have HP := Lib.hid (show (putU M ++ rest).take 1 = [c] ∧ (putU M ++ rest).drop 1 = putU (M / 128) ++ rest by rw [putU_big M hs, hc]; exact ⟨rfl, rfl⟩)
      clear hc
      go_wp2_with (go_at_call 82; refine HT.out.mono ?_; rintro e w2 ⟨A2, c2, rfl, hb2, hr2, hk2⟩; refine park ?_; intro q hq)
      refine hq.out ?_
      clear hq
      rw [HP.out.1] at hb2
      rw [HP.out.2] at hr2
      have HR2 := Lib.hid hr2
      have HK2 := Lib.hid (HR.out.2.1.trans hk2)
      obtain ⟨ad, hA, hx⟩ := hb2 0 (by simp)
      clear hr2 hk2 HT hb2
      subst hA
      have hx0 : w2.cell? ad = some (.int .u8 (c.toNat : Int)) := hx
      clear hx
      have hlt : decide ((c.toNat : Int) < 128) = false := by have := hcM.out; simp; omega
      have hc0 : ((c.toNat : Int) == 0) = false := by have h1 := hcM.out; simp; omega
      have HO := Lib.hid (fun L hL => or_num N i c L hL hN (by rw [HM.out, hcM.out]; omega))
      have hi9 := Lib.hid (show i < 9 by
        refine Nat.lt_of_not_le (fun e => ?_)
        obtain rfl : i = 9 := by omega
        have h1 := HM.out
        have h2 : M < 2 := by
          rw [← h1]
          exact Nat.div_lt_of_lt_mul hN
        omega)
      have HD := Lib.hid (show N / 128 ^ (i + 1) = M / 128 by rw [Nat.pow_succ, ← Nat.div_div_eq_div_mul, HM.out])
      have HZ := Lib.hid (show M / 128 ≠ 0 by omega)
      clear HR HP
      by_cases h0 : i = 0
      · subst h0
        clear hs
        go_wp2_with fail
        have ho := HO.out 1 rfl
        rw [Int.emod_one, Int.mul_one] at ho
        go_roundw
        case rel => exact ⟨1, by omega, congrArg (Value.int .u64) ho, rfl, by rw [HD.out]; exact HR2.out, HK2.out, Or.inr (by rw [HD.out]; exact HZ.out)⟩
        case measure => simp [intOf]
      by_cases h1 : i = 1
      · subst h1
        clear hs
        go_wp2_with fail
        have ho := HO.out _ rfl
        go_roundw
        case rel => exact ⟨2, by omega, congrArg (Value.int .u64) ho, rfl, by rw [HD.out]; exact HR2.out, HK2.out, Or.inr (by rw [HD.out]; exact HZ.out)⟩
        case measure => simp [intOf]
      by_cases h2 : i = 2
      · subst h2
        clear hs
        go_wp2_with fail
        have ho := HO.out _ rfl
        go_roundw
        case rel => exact ⟨3, by omega, congrArg (Value.int .u64) ho, rfl, by rw [HD.out]; exact HR2.out, HK2.out, Or.inr (by rw [HD.out]; exact HZ.out)⟩
        case measure => simp [intOf]
      by_cases h3 : i = 3
      · subst h3
        clear hs
        go_wp2_with fail
        have ho := HO.out _ rfl
        go_roundw
        case rel => exact ⟨4, by omega, congrArg (Value.int .u64) ho, rfl, by rw [HD.out]; exact HR2.out, HK2.out, Or.inr (by rw [HD.out]; exact HZ.out)⟩
        case measure => simp [intOf]
      by_cases h4 : i = 4
      · subst h4
        clear hs
        go_wp2_with fail
        have ho := HO.out _ rfl
        go_roundw
        case rel => exact ⟨5, by omega, congrArg (Value.int .u64) ho, rfl, by rw [HD.out]; exact HR2.out, HK2.out, Or.inr (by rw [HD.out]; exact HZ.out)⟩
        case measure => simp [intOf]
      by_cases h5 : i = 5
      · subst h5
        clear hs
        go_wp2_with fail
        have ho := HO.out _ rfl
        go_roundw
        case rel => exact ⟨6, by omega, congrArg (Value.int .u64) ho, rfl, by rw [HD.out]; exact HR2.out, HK2.out, Or.inr (by rw [HD.out]; exact HZ.out)⟩
        case measure => simp [intOf]
      by_cases h6 : i = 6
      · subst h6
        clear hs
        go_wp2_with fail
        have ho := HO.out _ rfl
        go_roundw
        case rel => exact ⟨7, by omega, congrArg (Value.int .u64) ho, rfl, by rw [HD.out]; exact HR2.out, HK2.out, Or.inr (by rw [HD.out]; exact HZ.out)⟩
        case measure => simp [intOf]
      by_cases h7 : i = 7
      · subst h7
        clear hs
        go_wp2_with fail
        have ho := HO.out _ rfl
        go_roundw
        case rel => exact ⟨8, by omega, congrArg (Value.int .u64) ho, rfl, by rw [HD.out]; exact HR2.out, HK2.out, Or.inr (by rw [HD.out]; exact HZ.out)⟩
        case measure => simp [intOf]
      by_cases h8 : i = 8
      · subst h8
        clear hs
        go_wp2_with fail
        have ho := HO.out _ rfl
        go_roundw
        case rel => exact ⟨9, by omega, congrArg (Value.int .u64) ho, rfl, by rw [HD.out]; exact HR2.out, HK2.out, Or.inr (by rw [HD.out]; exact HZ.out)⟩
        case measure => simp [intOf]
      exact absurd hi9.out (by omega)
end Go.Proofs.YtcgjejpekefjdaaDoor
