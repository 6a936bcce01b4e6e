/- Pages: the walks of page.Remove, Replace. -/
import Derived.Test.YtibhoekbjgoanaaDoorPageX
set_option linter.unusedSimpArgs false
set_option linter.unusedVariables false
namespace Go.Proofs.YtibhoekbjgoanaaDoor
open Go.RowKit Go.Proofs.YtibhoekbjgoanaaDoor.Crc
theorem InsI.src {w0 : World} {A Ab : Option Addr} {l b cur : List UInt8} {r : Nat} {w : World} (h : InsI w0 A Ab l b r cur w) : Bytes w A l := h.1
set_option maxRecDepth 100000 in
set_option maxHeartbeats 2000000 in
theorem Remove_calls (A : Option Addr) (cc : Nat) (l : List UInt8) (no : Nat) (k : UInt8) (xs ys : List (List UInt8)) (c : List UInt8) (w : World)
    (hb : Bytes w A l) (hP : PgL l no k (xs ++ c :: ys)) (hno : no ≤ 2147483647) (hk : k ≠ 0) (hc : 256 ≤ cc) (hcm : cc ≤ 9223372036854775807) :
    Calls Tryd.prog 30 #[.slice A 256 cc, .int .i64 (xs.length : Int)] w fun e w' => ∃ r, e = .returned (.tuple #[.slice (some ⟨r, 0, none⟩) 256 256, .int .i64 0]) ∧ w.heap.size ≤ r ∧ BlkB w' r 5 (pageB no k (xs ++ ys)) ∧ Below w.heap.size w w' := by
  have hS := hP.sound hno hk
  have hl := hP.len
  obtain ⟨bk, o, rfl⟩ := hb.spot (by omega)
  have hN : cntB l = xs.length + ys.length + 1 := by rw [hP.count, List.length_append, List.length_cons]; omega
  have hW : endB l ((xs.length : Int) - 1) = sizC xs := by rw [hP.endAt _ (by simp), List.take_left' rfl]
  have hT : endB l (xs.length : Int) = sizC xs + c.length := by
    have := hP.endAt (xs.length + 1) (by simp)
    rw [show ((xs.length + 1 : Nat) : Int) - 1 = (xs.length : Int) by omega] at this
    rw [this, List.take_append, List.take_of_length_le (by omega), show xs.length + 1 - xs.length = 1 by omega, List.take_succ_cons, List.take_zero, sizC_append, sizC_cons, sizC_nil, Nat.add_zero]
  have hsz : sizB l = sizC xs + (c.length + sizC ys) := by rw [hP.size, sizC_append, sizC_cons]
  have hfit : fitC (xs ++ c :: ys) := hP.1
  have hmid := rem_mid hP
  obtain ⟨mf1, mf2, mf3, mf4⟩ := rem_facts c hfit _ hmid
  have hres := rem_page c hfit _ hmid
  have hfit' := hfit
  unfold fitC at hfit'
  simp only [List.length_append, sizC_append, List.length_cons, sizC_cons] at hfit'
  have HS := sound_calls (some ⟨bk, o, none⟩) 256 cc l w hl.symm hb hc hcm (by decide)
  rw [hS] at HS
  obtain ⟨i, hi⟩ : ∃ i, xs.length = i := ⟨_, rfl⟩
  obtain ⟨N, hNN⟩ : ∃ N, xs.length + ys.length + 1 = N := ⟨_, rfl⟩
  obtain ⟨W, hWW⟩ : ∃ W, sizC xs = W := ⟨_, rfl⟩
  obtain ⟨T, hTT⟩ : ∃ T, sizC xs + c.length = T := ⟨_, rfl⟩
  obtain ⟨S, hSS⟩ : ∃ S, sizC xs + (c.length + sizC ys) = S := ⟨_, rfl⟩
  have hres2 : setW (shiftB (remS l xs.length) xs.length ((W : Int) - (T : Int)) (N - 1 - i)) 6 ((S : Int) + ((W : Int) - (T : Int))).toNat = pageB no k (xs ++ ys) := by
    rw [← hres]
    have e1 : (W : Int) - (T : Int) = -(c.length : Int) := by omega
    have e2 : N - 1 - i = ys.length := by omega
    have e3 : ((S : Int) + ((W : Int) - (T : Int))).toNat = sizC xs + sizC ys := by omega
    rw [e3, e1, e2]
  have hiN : i < N := by omega
  have hWT : W ≤ T := by omega
  have hTS : T ≤ S := by omega
  have hrm : 2 * N + S ≤ 244 := by omega
  have hxy : xs.length + ys.length = N - 1 := by omega
  rw [hxy] at mf2 mf4
  rw [hNN] at hN
  rw [hSS] at hsz mf3
  rw [hTT] at hT mf4
  rw [hWW] at hW
  rw [hi] at hW hT hmid hres2 mf1 mf2 mf3 mf4 ⊢
  have HN : Hid (cntB l = N) := hN
  have HSz : Hid (sizB l = S) := hsz
  have HW : Hid (endB l ((i : Int) - 1) = W) := hW
  have HT : Hid (endB l (i : Int) = T) := hT
  have x5 : (w.cell? ⟨bk, o + 5, none⟩) = some (.int .u8 (N : Int)) := by
    obtain ⟨ad, h, hx⟩ := hb 5 (by omega)
    cases h
    rw [Addr.add_lit] at hx
    rw [← hN]; exact hx
  have hd : ∀ n, (w.drewN n).cell? ⟨bk, o + 5, none⟩ = some (.int .u8 (N : Int)) := fun n => (kept_drewN w n).cell (World.block_lt_of_cell? w _ x5) ▸ x5
  have HD := Lib.hid hd
  have d1 : decide ((i : Int) < 0) = false := by simp
  have d2 : decide (N ≤ i) = false := by simp; omega
  have f1 : IntKind.i64.wrap (N : Int) = (N : Int) := IntWalk.i64_in _ (by omega)
  have HL := Lib.hid hl
  have HR := Lib.hid hres2
  have HMF := Lib.hid (And.intro mf1 (And.intro mf2 (And.intro mf3 mf4)))
  have HB := Lib.hid hb
  have HHS := Lib.hid HS
  clear HS hN hsz hW hT hNN hWW hTT hSS hmid hres hres2 mf1 mf2 mf3 mf4 hb hP hS hl hd x5 hfit hfit' hi hxy
  go_enter Tryd.func30, Tryd.ntmps30
  go_wp2_with (go_at_call 50; refine HHS.out.mono ?_; rintro e w2 ⟨rfl, m2, rfl⟩; refine park ?_; intro q hq)
  have x5 := HD.out m2
  refine hq.out ?_
  clear hq
  go_wp2_with (with_reducible refine park_make ?_; intro q hq)
  refine hq.out ?_
  clear hq
  refine wpList_make256 rfl _ _ rfl rfl rfl ?_
  intro w3 hA3 hk3
  have hI4 : InsI w (some ⟨bk, o, none⟩) none l [] (w.drewN m2).heap.size zsec w3 :=
    ⟨(HB.out.below (kept_drewN w _)).below hk3, Bytes.nil _ _, hA3, (kept_drewN w _).trans (hk3.mono (kept_drewN w _).size), (kept_drewN w _).size, HB.out, Bytes.nil _ _⟩
  obtain ⟨r, hr⟩ : ∃ r, (w.drewN m2).heap.size = r := ⟨_, rfl⟩
  rw [hr] at hI4 ⊢
  have HI4 := Lib.hid hI4
  have HCe := Lib.hid (fun (w' : World) (h : Bytes w' (some ⟨bk, o, none⟩) l) => cellsAt_calls (some ⟨bk, o, none⟩) 256 cc l w' HL.out.symm h (by decide) (by decide))
  have hEn1 := fun (w' : World) (h : Bytes w' (some ⟨bk, o, none⟩) l) => end_calls (some ⟨bk, o, none⟩) 256 cc l ((i : Int) - 1) w' HL.out.symm h (by omega) (by omega) (by decide)
  have hEn2 := fun (w' : World) (h : Bytes w' (some ⟨bk, o, none⟩) l) => end_calls (some ⟨bk, o, none⟩) 256 cc l (i : Int) w' HL.out.symm h (by omega) (by omega) (by decide)
  have hWd := fun (w' : World) (h : Bytes w' (some ⟨bk, o, none⟩) l) => word_calls (some ⟨bk, o, none⟩) 256 cc l 6 w' HL.out.symm h (by decide) (by decide)
  rw [HW.out] at hEn1
  rw [HT.out] at hEn2
  rw [show wordB l 6 = S from HSz.out, show ((6 : Nat) : Int) = 6 from rfl] at hWd
  have HEn1 := Lib.hid hEn1
  have HEn2 := Lib.hid hEn2
  have HWd := Lib.hid hWd
  clear hA3 hk3 hI4 hr hEn1 hEn2 hWd HHS HD x5 d1 d2
  go_wp2_with (go_at_call 53; refine (HCe.out _ HI4.out.1).mono ?_; rintro e w5 ⟨rfl, rfl⟩; refine park ?_; intro q hq)
  refine hq.out ?_
  clear hq
  rw [show ((at8 l 5).toNat : Int) = (N : Int) by rw [← HN.out]; rfl]
  go_wp2_with (go_at_call 54; (with_reducible refine (HEn1.out _ HI4.out.src).mono ?_); rintro e w5 ⟨rfl, m5, rfl⟩; refine park ?_; intro q hq)
  have HI5 := Lib.hid (HI4.out.drewN m5)
  obtain ⟨w5, hw5⟩ : ∃ w5, w3.drewN m5 = w5 := ⟨_, rfl⟩
  rw [hw5] at HI5 hq
  clear hw5 HI4
  refine hq.out ?_
  clear hq
  go_wp2_with (go_at_call 54; (with_reducible refine (HEn2.out _ HI5.out.src).mono ?_); rintro e w6 ⟨rfl, m6, rfl⟩; refine park ?_; intro q hq)
  have HI6 := Lib.hid (HI5.out.drewN m6)
  obtain ⟨w6, hw6⟩ : ∃ w6, w5.drewN m6 = w6 := ⟨_, rfl⟩
  rw [hw6] at HI6 hq
  clear hw6 HI5
  refine hq.out ?_
  clear hq
  go_wp2_with (go_at_call 56; (with_reducible refine (HWd.out _ HI6.out.src).mono ?_); rintro e w7 ⟨rfl, m7, rfl⟩; refine park ?_; intro q hq)
  have HI7 := Lib.hid (HI6.out.drewN m7)
  obtain ⟨w7, hw7⟩ : ∃ w7, w6.drewN m7 = w7 := ⟨_, rfl⟩
  rw [hw7] at HI7 hq
  clear hw7 HI6 HEn1 HEn2 HWd HCe
  refine hq.out ?_
  clear hq
  -- the slots ahead
  have k1 : IntKind.i64.wrap (2 * (i : Int)) = 2 * (i : Int) := IntWalk.i64_in _ (by omega)
  have k2 : IntKind.i64.wrap (8 + 2 * (i : Int)) = 8 + 2 * (i : Int) := IntWalk.i64_in _ (by omega)
  have k3 : IntKind.i64.wrap (8 + 2 * (i : Int) + 2) = 8 + 2 * (i : Int) + 2 := IntWalk.i64_in _ (by omega)
  have k4 : (8 + 2 * (i : Int) + 2).toNat = 8 + 2 * i + 2 := by omega
  have k5 : (8 + 2 * (i : Int)).toNat = 8 + 2 * i := by omega
  have k6 : (8 + 2 * (N : Int)).toNat = 8 + 2 * N := by omega
  have k7 : 8 + 2 * (i : Int) ≤ 256 := by omega
  have k8 : 8 + 2 * (N : Int) ≤ (cc : Int) := by omega
  have k9 : 8 + 2 * (i : Int) + 2 ≤ 8 + 2 * (N : Int) := by omega
  have k10 : ¬ cc = 8 + 2 * i + 2 := by omega
  have k11 : ¬ 256 = 8 + 2 * i := by omega
  have k12 : 0 ≤ 8 + 2 * (i : Int) + 2 := by omega
  have k13 : 0 ≤ 8 + 2 * (i : Int) := by omega
  have k14 : 8 + 2 * (i : Int) ≤ (cc : Int) := by omega
  have k15 : 0 ≤ 8 + 2 * (N : Int) := by omega
  go_wp2_with (with_reducible refine park_copy ?_; intro q hq)
  refine hq.out ?_
  clear hq
  have t1 : (l.take (8 + 2 * i)).length = 8 + 2 * i := by rw [List.length_take, HL.out]; omega
  refine wpList_copyI rfl _ _ rfl r _ _ _ _ _ _ rfl rfl HI7 (l.take (8 + 2 * i)) (by rw [t1]) (HI7.out.1.take _) (by rw [t1]; omega) (by rw [t1, zsec_length]; omega) ?_
  intro z8 w8 HI8
  obtain ⟨c1, hc1⟩ : ∃ c1, splice zsec 0 (l.take (8 + 2 * i)) = c1 := ⟨_, rfl⟩
  have hcl1 : c1.length = 256 := by rw [← hc1, length_splice _ _ _ (by rw [t1, zsec_length]; omega)]; exact zsec_length
  rw [hc1] at HI8
  have HC1 := Lib.hid hc1
  clear hc1 t1 HI7
  go_wp2_with fail
  go_still_tail 12, (by kernel_rfl)
  have HI9 := Lib.hid (HI8.out.drewN 1)
  change wpList _ _ _ _ _ (w8.drewN 1)
  obtain ⟨w9, hw9⟩ : ∃ w9, w8.drewN 1 = w9 := ⟨_, rfl⟩
  rw [hw9] at HI9 ⊢
  clear hw9 HI8
  have t1 : ((l.drop (8 + 2 * i + 2)).take (8 + 2 * N - (8 + 2 * i + 2))).length = 8 + 2 * N - (8 + 2 * i + 2) := by rw [List.length_take, List.length_drop, HL.out]; omega
  refine wpList_copyI rfl _ _ rfl r _ _ _ _ _ _ rfl rfl HI9 ((l.drop (8 + 2 * i + 2)).take (8 + 2 * N - (8 + 2 * i + 2))) (by rw [t1]) ((HI9.out.1.drop _).take _) (by rw [t1]; omega) (by rw [t1, hcl1]; omega) ?_
  intro z10 w10 HI10
  obtain ⟨c2, hc2⟩ : ∃ c2, splice c1 (8 + 2 * i) ((l.drop (8 + 2 * i + 2)).take (8 + 2 * N - (8 + 2 * i + 2))) = c2 := ⟨_, rfl⟩
  have hcl2 : c2.length = 256 := by rw [← hc2, length_splice _ _ _ (by rw [t1, hcl1]; omega)]; exact hcl1
  rw [hc2] at HI10
  have HC2 := Lib.hid hc2
  -- the count
  have h5 : at8 c2 5 = at8 l 5 := by
    rw [← hc2]
    unfold splice
    rw [at8_append_left _ _ _ (by rw [List.length_take]; omega), at8_take _ _ _ (by omega), ← HC1.out]
    rw [splice_zero, at8_append_left _ _ _ (by rw [List.length_take, HL.out]; omega), at8_take _ _ _ (by omega)]
  obtain ⟨x5, y5⟩ := HI10.out.2.2.1.cell 5 (by rw [hcl2]; decide)
  have e5 : (at8 l 5).toNat = N := HN.out
  rw [h5, e5] at x5
  have e5b : ((at8 l 5 - 1).toNat : Int) = (N : Int) - 1 := by rw [UInt8.toNat_sub_of_le _ _ (by rw [UInt8.le_iff_toNat_le, e5]; simp; omega), e5]; simp; omega
  have hI11 := HI10.out.next (HI10.out.2.2.1.set 5 (at8 l 5 - 1)) (Kept.set1 w10 r 5 _)
  rw [e5b] at hI11
  have HI11 := Lib.hid hI11
  obtain ⟨c3, hc3⟩ : ∃ c3, c2.set 5 (at8 l 5 - 1) = c3 := ⟨_, rfl⟩
  have hcl3 : c3.length = 256 := by rw [← hc3, List.length_set]; exact hcl2
  rw [hc3] at HI11
  have HC3 := Lib.hid hc3
  clear hc2 t1 HI9 h5 e5 e5b hI11 hc3 hcl1 k1 k2 k3 k4 k5 k7 k9 k10 k11 k12 k13 k14 HI10
  have g1 : ((N : Int) - 1) % 256 = (N : Int) - 1 := by omega
  have k1 : IntKind.i64.wrap (8 + 2 * (N : Int) - 2) = 8 + 2 * (N : Int) - 2 := IntWalk.i64_in _ (by omega)
  have k2 : IntKind.i64.wrap (8 + 2 * (N : Int) + (W : Int)) = 8 + 2 * (N : Int) + (W : Int) := IntWalk.i64_in _ (by omega)
  have k3 : (8 + 2 * (N : Int) - 2).toNat = 8 + 2 * N - 2 := by omega
  have k4 : (8 + 2 * (N : Int) + (W : Int)).toNat = 8 + 2 * N + W := by omega
  have k5 : 8 + 2 * (N : Int) - 2 ≤ 256 := by omega
  have k7 : 8 + 2 * (N : Int) + (W : Int) ≤ (cc : Int) := by omega
  have k9 : 0 ≤ 8 + 2 * (N : Int) + (W : Int) := by omega
  have k10 : 0 ≤ 8 + 2 * (N : Int) - 2 := by omega
  have k11 : ¬ cc = 8 + 2 * N := by omega
  have k12 : ¬ 256 = 8 + 2 * N - 2 := by omega
  have k13 : 8 + 2 * (N : Int) ≤ 8 + 2 * (N : Int) + (W : Int) := by omega
  have k14 : 2 ≤ 8 + 2 * (N : Int) := by omega
  go_wp2_with fail
  go_still_tail 10, (by kernel_rfl)
  have HI12 := Lib.hid (HI11.out.drewN 1)
  change wpList _ _ _ _ _ ((w10.setCell ⟨r, 5, none⟩ (.int .u8 ((N : Int) - 1))).drewN 1)
  obtain ⟨w11, hw11⟩ : ∃ w11, (w10.setCell ⟨r, 5, none⟩ (.int .u8 ((N : Int) - 1))).drewN 1 = w11 := ⟨_, rfl⟩
  rw [hw11] at HI12 ⊢
  clear hw11 HI11 x5 y5 g1
  have t1 : ((l.drop (8 + 2 * N)).take W).length = W := by rw [List.length_take, List.length_drop, HL.out]; omega
  refine wpList_copyI rfl _ _ rfl r _ _ _ _ _ _ rfl rfl HI12 ((l.drop (8 + 2 * N)).take W) (by rw [t1]) ((HI12.out.1.drop _).take _) (by rw [t1]; omega) (by rw [t1, hcl3]; omega) ?_
  intro z12 w12 HI13
  obtain ⟨c4, hc4⟩ : ∃ c4, splice c3 (8 + 2 * N - 2) ((l.drop (8 + 2 * N)).take W) = c4 := ⟨_, rfl⟩
  have hcl4 : c4.length = 256 := by rw [← hc4, length_splice _ _ _ (by rw [t1, hcl3]; omega)]; exact hcl3
  rw [hc4] at HI13
  have HC4 := Lib.hid hc4
  clear hc4 t1 HI12 hcl3 hcl2 k2 k4 k7 k9 k11 k12 k13
  have k2 : IntKind.i64.wrap (8 + 2 * (N : Int) - 2 + (W : Int)) = 8 + 2 * (N : Int) - 2 + (W : Int) := IntWalk.i64_in _ (by omega)
  have k4 : (8 + 2 * (N : Int) - 2 + (W : Int)).toNat = 8 + 2 * N - 2 + W := by omega
  have k7 : 8 + 2 * (N : Int) - 2 + (W : Int) ≤ 256 := by omega
  have k9 : 0 ≤ 8 + 2 * (N : Int) - 2 + (W : Int) := by omega
  have k11 : IntKind.i64.wrap (8 + 2 * (N : Int) + (T : Int)) = 8 + 2 * (N : Int) + (T : Int) := IntWalk.i64_in _ (by omega)
  have k12 : IntKind.i64.wrap (8 + 2 * (N : Int) + (S : Int)) = 8 + 2 * (N : Int) + (S : Int) := IntWalk.i64_in _ (by omega)
  have k13 : (8 + 2 * (N : Int) + (T : Int)).toNat = 8 + 2 * N + T := by omega
  have k16 : (8 + 2 * (N : Int) + (S : Int)).toNat = 8 + 2 * N + S := by omega
  have k17 : 0 ≤ 8 + 2 * (N : Int) + (T : Int) := by omega
  have k18 : 0 ≤ 8 + 2 * (N : Int) + (S : Int) := by omega
  have k19 : 8 + 2 * (N : Int) + (T : Int) ≤ 8 + 2 * (N : Int) + (S : Int) := by omega
  have k20 : 8 + 2 * (N : Int) + (S : Int) ≤ (cc : Int) := by omega
  have k21 : ¬ cc = 8 + 2 * N + T := by omega
  have k22 : ¬ 256 = 8 + 2 * N - 2 + W := by omega
  go_wp2_with fail
  go_still_tail 14, (by kernel_rfl)
  have HI14 := Lib.hid (HI13.out.drewN 1)
  change wpList _ _ _ _ _ (w12.drewN 1)
  obtain ⟨w13, hw13⟩ : ∃ w13, w12.drewN 1 = w13 := ⟨_, rfl⟩
  rw [hw13] at HI14 ⊢
  clear hw13 HI13
  have t1 : ((l.drop (8 + 2 * N + T)).take (8 + 2 * N + S - (8 + 2 * N + T))).length = 8 + 2 * N + S - (8 + 2 * N + T) := by rw [List.length_take, List.length_drop, HL.out]; omega
  refine wpList_copyI rfl _ _ rfl r _ _ _ _ _ _ rfl rfl HI14 ((l.drop (8 + 2 * N + T)).take (8 + 2 * N + S - (8 + 2 * N + T))) (by rw [t1]) ((HI14.out.1.drop _).take _) (by rw [t1]; omega) (by rw [t1, hcl4]; omega) ?_
  intro z14 w14 HI15
  have h6 : splice c4 (8 + 2 * N - 2 + W) ((l.drop (8 + 2 * N + T)).take (8 + 2 * N + S - (8 + 2 * N + T))) = remS l i := by
    have n1 : cntB l = N := HN.out
    have n2 : sizB l = S := HSz.out
    have n3 : endB l ((i : Int) - 1) = W := HW.out
    have n4 : endB l (i : Int) = T := HT.out
    unfold remS
    rw [n1, n2, n3, n4, HC1.out, HC2.out, HC3.out, HC4.out, show S - T = 8 + 2 * N + S - (8 + 2 * N + T) by omega]
  rw [h6] at HI15
  obtain ⟨q1, q2, q3, q4⟩ := HMF.out
  have hsh := fun (w' : World) (h : BlkB w' r 5 (remS l i)) => shift_calls r (remS l i) i (N - 1) ((W : Int) - (T : Int)) w' h q1 q2 (by omega) (by omega) (fun j h1 h2 => by have := q4 j h1 h2; omega) (by rw [q3]; omega)
  have hfin : setW (shiftB (remS l i) i ((W : Int) - (T : Int)) (N - 1 - i)) 6 ((wordB (remS l i) 6 : Int) + ((W : Int) - (T : Int))).toNat = pageB no k (xs ++ ys) := by
    rw [q3]; exact HR.out
  rw [hfin] at hsh
  have HSh := Lib.hid hsh
  have f2 : IntKind.i64.wrap ((W : Int) - (T : Int)) = (W : Int) - (T : Int) := IntWalk.i64_in _ (by omega)
  clear q1 q2 q3 q4 hsh hfin h6 k1 k2 k3 k4 k5 k6 k7 k8 k9 k10 k11 k12 k13 k14 k15 k16 k17 k18 k19 k20 k21 k22 t1 HI14 hcl4
  go_wp2_with (go_at_call 57; refine (HSh.out _ HI15.out.2.2.1).mono ?_; rintro e w16 ⟨rfl, hA16, hk16⟩)
  go_ret2
  have hI := HI15.out.next hA16 hk16
  exact ⟨r, rfl, hI.2.2.2.2.1, hI.2.2.1, hI.2.2.2.1⟩
set_option maxHeartbeats 400000 in
theorem Replace_calls (A : Option Addr) (cc : Nat) (l : List UInt8) (no : Nat) (k : UInt8) (xs ys : List (List UInt8)) (c : List UInt8) (Ab : Option Addr) (m cb : Nat) (b : List UInt8) (w : World)
    (hb : Bytes w A l) (hP : PgL l no k (xs ++ c :: ys)) (hno : no ≤ 2147483647) (hk : k ≠ 0) (hc : 256 ≤ cc) (hcm : cc ≤ 9223372036854775807) (hs : SlB w Ab m cb b) :
    Calls Tryd.prog 31 #[.slice A 256 cc, .int .i64 (xs.length : Int), .slice Ab m cb] w fun e w' => ∃ v n, e = .returned (.tuple #[v, .int .i64 n]) ∧ Below w.heap.size w w' ∧
      ((n = 32 ∧ 244 < 2 * (xs ++ ys).length + sizC (xs ++ ys) + 2 + b.length) ∨ (n = 0 ∧ fitC (xs ++ b :: ys) ∧ ∃ r, v = .slice (some ⟨r, 0, none⟩) 256 256 ∧ w.heap.size ≤ r ∧ BlkB w' r 5 (pageB no k (xs ++ b :: ys)))) := by
  have hfit : fitC (xs ++ c :: ys) := hP.1
  have hfit2 : fitC (xs ++ ys) := by
    unfold fitC at hfit ⊢
    simp only [List.length_append, sizC_append, List.length_cons, sizC_cons] at hfit ⊢
    omega
  have HRm := Lib.hid (Remove_calls A cc l no k xs ys c w hb hP hno hk hc hcm)
  have HS := Lib.hid hs
  have HF2 := Lib.hid hfit2
  have HNo := Lib.hid (And.intro hno hk)
  clear hb hP hno hk hc hcm hs hfit hfit2
  go_enter Tryd.func31, Tryd.ntmps31
  go_wp2_with (go_at_call 30; refine HRm.out.mono ?_; rintro e w1 ⟨r, rfl, hr1, hA1, hb1⟩; refine park ?_; intro q hq)
  have HB1 := Lib.hid hb1
  have hs1 := HS.out.below hb1
  by_cases h : 2 * (xs ++ ys).length + sizC (xs ++ ys) + 2 + b.length ≤ 244
  · have hfit3 : fitC (xs ++ b :: ys) := by
      unfold fitC
      simp only [List.length_append, sizC_append, List.length_cons, sizC_cons] at h ⊢
      omega
    have HIn := Lib.hid (Insert_calls (some ⟨r, 0, none⟩) 256 _ no k xs ys Ab m cb b w1 hA1.bytes (pgl_page no k _ HF2.out) HNo.out.1 HNo.out.2 (Nat.le_refl _) (by decide) hs1.1 hs1.2.1 hfit3)
    have HF3 := Lib.hid hfit3
    clear hr1 hA1 hb1 hs1 h hfit3
    refine hq.out ?_
    clear hq
    go_wp2_with (go_at_call 26; refine HIn.out.mono ?_; rintro e w2 ⟨r2, rfl, hr2, hA2, hb2⟩)
    go_ret2
    exact ⟨_, 0, rfl, HB1.out.trans (hb2.mono HB1.out.size), .inr ⟨rfl, HF3.out, r2, rfl, Nat.le_trans HB1.out.size hr2, hA2⟩⟩
  · have HIn := Lib.hid (Insert_room (some ⟨r, 0, none⟩) 256 _ no k (xs ++ ys) xs.length Ab m cb w1 hA1.bytes (pgl_page no k _ HF2.out) HNo.out.1 HNo.out.2 (Nat.le_refl _) (by decide) (by rw [List.length_append]; omega) (by have := hs1.2.2.1; have := hs1.2.2.2.1; omega) (by have := hs1.1; omega))
    have HH := Lib.hid h
    clear hr1 hA1 hb1 hs1 h
    refine hq.out ?_
    clear hq
    go_wp2_with (go_at_call 26; refine HIn.out.mono ?_; rintro e w2 ⟨rfl, hb2⟩)
    go_ret2
    exact ⟨_, 32, rfl, HB1.out.trans (hb2.mono HB1.out.size), .inl ⟨rfl, Nat.lt_of_not_le HH.out⟩⟩
end Go.Proofs.YtibhoekbjgoanaaDoor
