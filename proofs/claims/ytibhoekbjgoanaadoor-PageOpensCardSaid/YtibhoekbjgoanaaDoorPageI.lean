/- Pages: the walk of page.Insert, for cells that fit. -/
import Derived.Test.YtibhoekbjgoanaaDoorPageQ
import Derived.Test.YtibhoekbjgoanaaDoorArrS
import Derived.StillTailTactics
set_option linter.unusedSimpArgs false
set_option linter.unusedVariables false
namespace Go.Proofs.YtibhoekbjgoanaaDoor
open Go.RowKit Go.Proofs.YtibhoekbjgoanaaDoor.Crc
/-- What stands while a page is made of another one: the page that is read, the cell, the new page's bytes. -/
def InsI (w0 : World) (A Ab : Option Addr) (l b : List UInt8) (r : Nat) (cur : List UInt8) (w : World) : Prop :=
  Bytes w A l ∧ Bytes w Ab b ∧ BlkB w r 5 cur ∧ Below w0.heap.size w0 w ∧ w0.heap.size ≤ r ∧ Bytes w0 A l ∧ Bytes w0 Ab b
theorem InsI.drewN {w0 : World} {A Ab : Option Addr} {l b cur : List UInt8} {r : Nat} {w : World} (h : InsI w0 A Ab l b r cur w) (m : Nat) : InsI w0 A Ab l b r cur (w.drewN m) :=
  ⟨h.1.below (kept_drewN w m), h.2.1.below (kept_drewN w m), h.2.2.1.below (kept_drewN w m), h.2.2.2.1.trans ((kept_drewN w m).mono h.2.2.2.1.size), h.2.2.2.2⟩
theorem InsI.next {w0 : World} {A Ab : Option Addr} {l b cur cur' : List UInt8} {r : Nat} {w w' : World} (h : InsI w0 A Ab l b r cur w) (hb : BlkB w' r 5 cur') (hk : Kept (· = r) w w') : InsI w0 A Ab l b r cur' w' := by
  have hB : Below w0.heap.size w0 w' := h.2.2.2.1.trans (hk.below h.2.2.2.1.size (fun k hk e => by have := h.2.2.2.2.1; omega))
  exact ⟨h.2.2.2.2.2.1.below hB, h.2.2.2.2.2.2.below hB, hb, hB, h.2.2.2.2⟩
theorem Bytes.lt {w : World} {A : Option Addr} {l : List UInt8} (h : Bytes w A l) (hl : 0 < l.length) : ∀ ad, A = some ad → ad.block < w.heap.size := fun ad e => by
  obtain ⟨ad', e', hx⟩ := h 0 hl
  rw [e] at e'; cases e'
  have := World.block_lt_of_cell? w _ hx
  rwa [add_block] at this
section
variable {ops : Array Oper} {rest : List Oper} {o : Oper} {a : Act} {Q : Exit → Act → World → Prop} {w : World}
/-- copy of bytes into the page that is made. -/
theorem wpList_copyI (hg : o.guard = none) (d s : Operand) (ho : o.op = .call { callee := .builtin .copy, args := #[d, s], argTypes := #[23, 23] })
    (r off dLen dCap : Nat) (sp : Option Addr) (sLen sCap : Nat) (hd : a.eval d = .slice (some ⟨r, off, none⟩) dLen dCap) (hs : a.eval s = .slice sp sLen sCap)
    {w0 : World} {A Ab : Option Addr} {l b cur : List UInt8} (hI : Hid (InsI w0 A Ab l b r cur w)) (src : List UInt8) (hl : sLen = src.length) (hsrc : Bytes w sp src) (hle : src.length ≤ dLen) (hfit : off + src.length ≤ cur.length)
    (h : ∀ z w', Hid (InsI w0 A Ab l b r (splice cur off src) w') → wpList Tryd.prog ops Q rest (a.put o.dst z) w') : wpList Tryd.prog ops Q (o :: rest) a w := by
  refine wpList_copyB hg d s ho r off dLen dCap sp sLen sCap hd hs _ cur src hI.out.2.2.1 hl hsrc (by rw [show Nat.min dLen src.length = src.length from Nat.min_eq_right hle]; exact hfit) ?_
  intro w' hA hk
  rw [List.take_of_length_le hle] at hA
  exact h _ w' (hI.out.next hA hk)
end
/-- The same, as one step of a region. -/
theorem step_copyI {ops : Array Oper} {o : Oper} {a : Act} {w : World} {K : Act → World → Prop} {Q : Exit → Act → World → Prop} {E : Prop} (hg : o.guard = none) (d s : Operand) (ho : o.op = .call { callee := .builtin .copy, args := #[d, s], argTypes := #[23, 23] })
    (r off dLen dCap : Nat) (sp : Option Addr) (sLen sCap : Nat) (hd : a.eval d = .slice (some ⟨r, off, none⟩) dLen dCap) (hs : a.eval s = .slice sp sLen sCap)
    {w0 : World} {A Ab : Option Addr} {l b cur : List UInt8} (hI : Hid (InsI w0 A Ab l b r cur w)) (src : List UInt8) (hl : sLen = src.length) (hsrc : Bytes w sp src) (hle : src.length ≤ dLen) (hfit : off + src.length ≤ cur.length)
    (h : ∀ z w', Hid (InsI w0 A Ab l b r (splice cur off src) w') → K (a.put o.dst z) w') : if Region.wanted o (yielded ops a.tmps) = true then Oper.wp Tryd.prog o a w K Q else E := by
  refine step_copyB hg d s ho r off dLen dCap sp sLen sCap hd hs _ cur src hI.out.2.2.1 hl hsrc (by rw [show Nat.min dLen src.length = src.length from Nat.min_eq_right hle]; exact hfit) ?_
  intro w' hA
  rw [List.take_of_length_le hle] at hA
  exact h _ w' (hI.out.next hA.out.1 hA.out.2)
set_option maxRecDepth 100000 in
set_option maxHeartbeats 1000000 in
theorem Insert_calls (A : Option Addr) (c : Nat) (l : List UInt8) (no : Nat) (k : UInt8) (xs ys : List (List UInt8)) (Ab : Option Addr) (m cb : Nat) (b : List UInt8) (w : World)
    (hb : Bytes w A l) (hP : PgL l no k (xs ++ ys)) (hno : no ≤ 2147483647) (hk : k ≠ 0) (hc : 256 ≤ c) (hcm : c ≤ 9223372036854775807)
    (hm : m = b.length) (hbb : Bytes w Ab b) (hfit : fitC (xs ++ b :: ys)) :
    Calls Tryd.prog 26 #[.slice A 256 c, .int .i64 (xs.length : Int), .slice Ab m cb] w fun e w' => ∃ r, e = .returned (.tuple #[.slice (some ⟨r, 0, none⟩) 256 256, .int .i64 0]) ∧ w.heap.size ≤ r ∧ BlkB w' r 5 (pageB no k (xs ++ b :: ys)) ∧ Below w.heap.size w w' := by
  have hS := hP.sound hno hk
  have hl := hP.len
  obtain ⟨bk, o, rfl⟩ := hb.spot (by omega)
  have hN : cntB l = xs.length + ys.length := by rw [hP.count, List.length_append]
  have hW : endB l ((xs.length : Int) - 1) = sizC xs := by rw [hP.endAt _ (by simp), List.take_left' rfl]
  have hsz : sizB l = sizC xs + sizC ys := by rw [hP.size, sizC_append]
  have hmid := ins_mid hP b hfit
  have hres := ins_page hP b hfit
  obtain ⟨mf1, mf2, mf3, mf4⟩ := ins_facts b hfit _ hmid
  have hfit' := hfit
  unfold fitC at hfit'
  simp only [List.length_append, sizC_append, List.length_cons, sizC_cons] at hfit'
  have hleft : leftP l = 244 - (2 * (xs.length + ys.length) + (sizC xs + sizC ys)) := by unfold leftP; rw [hN, hsz]
  -- the callees
  have HS := sound_calls (some ⟨bk, o, none⟩) 256 c l w hl.symm hb hc hcm (by decide)
  rw [hS] at HS
  have hLe := fun n => left_calls (some ⟨bk, o, none⟩) 256 c l (w.drewN n) hl.symm (hb.below (kept_drewN w n)) hS
  rw [hleft] at hLe
  have hOw := fun n => own_calls (some ⟨bk, o, none⟩) 256 c l (w.drewN n) hl.symm (hb.below (kept_drewN w n)) (by decide) hc hcm
  obtain ⟨i, hi⟩ : ∃ i, xs.length = i := ⟨_, rfl⟩
  obtain ⟨N, hNN⟩ : ∃ N, xs.length + ys.length = N := ⟨_, rfl⟩
  obtain ⟨W, hWW⟩ : ∃ W, sizC xs = W := ⟨_, rfl⟩
  obtain ⟨S, hSS⟩ : ∃ S, sizC xs + sizC ys = S := ⟨_, rfl⟩
  have hiN : i ≤ N := by omega
  have hWS : W ≤ S := by omega
  have hrm : 2 * N + S + 2 + m ≤ 244 := by omega
  rw [hNN] at hN mf2 hleft hLe
  rw [hNN] at mf4
  rw [hSS] at hsz mf3 hleft hLe
  rw [hWW] at hW
  rw [hi] at hW hmid hres mf1 mf2 mf3 mf4 ⊢
  have HN : Hid (cntB l = N) := hN
  have HSz : Hid (sizB l = S) := hsz
  have HW : Hid (endB l ((i : Int) - 1) = W) := hW
  have x5 : (w.cell? ⟨bk, o + 5, none⟩) = some (.int .u8 (N : Int)) := by
    obtain ⟨ad, h, hx⟩ := hb 5 (by omega)
    cases h
    rw [Addr.add_lit] at hx
    rw [← hN]; exact hx
  have hd : ∀ n, (w.drewN n).cell? ⟨bk, o + 5, none⟩ = some (.int .u8 (N : Int)) := fun n => (kept_drewN w n).cell (World.block_lt_of_cell? w _ x5) ▸ x5
  have HD := Lib.hid hd
  have d1 : decide ((i : Int) < 0) = false := by simp
  have d2 : decide ((i : Int) > (N : Int)) = false := by simp; omega
  have d3 : decide ((m : Int) > ((244 - (2 * N + S) : Nat) : Int) - 2) = false := by simp; omega
  have f1 : IntKind.i64.wrap (N : Int) = (N : Int) := IntWalk.i64_in _ (by omega)
  have hl2 : (256 : Nat) = l.length := hl.symm
  have HL := Lib.hid hl
  have HM := Lib.hid hmid
  have HR := Lib.hid hres
  have HMF := Lib.hid (And.intro mf1 (And.intro mf2 (And.intro mf3 mf4)))
  have HB := Lib.hid hb
  have HBB := Lib.hid hbb
  have HHS := Lib.hid HS
  have HLe := Lib.hid hLe
  have HOw := Lib.hid hOw
  have Hm := Lib.hid hm
  have HP := Lib.hid hP
  clear HS hLe hOw hN hsz hW hNN hWW hSS hmid hres mf1 mf2 mf3 mf4 hb hbb hm hP hS hl hl2 hd x5 hleft hfit hfit' hi
  go_enter Tryd.func26, Tryd.ntmps26
  go_wp2_with (go_at_call 50; refine HHS.out.mono ?_; rintro e w2 ⟨rfl, m2, rfl⟩; refine park ?_; intro q hq)
  have x5 := HD.out m2
  refine hq.out ?_
  clear hq
  go_wp2_with (go_at_call 51; refine (HLe.out _).mono ?_; rintro e w3 ⟨rfl, m3, rfl⟩; rw [World.drewN_drewN]; refine park ?_; intro q hq)
  refine hq.out ?_
  clear hq
  go_wp2_with (go_at_call 52; refine (HOw.out _).mono ?_; rintro e w4 ⟨r, rfl, hr4, hA4, hb4⟩; refine park ?_; intro q hq)
  have hI4 : InsI w (some ⟨bk, o, none⟩) Ab l b r (ownP l) w4 :=
    ⟨(HB.out.below (kept_drewN w _)).below hb4, (HBB.out.below (kept_drewN w _)).below hb4, hA4, (kept_drewN w _).trans (hb4.mono (kept_drewN w _).size), Nat.le_trans (kept_drewN w _).size hr4, HB.out, HBB.out⟩
  have HI4 := Lib.hid hI4
  have HCe := Lib.hid (fun (w' : World) (h : Bytes w' (some ⟨bk, o, none⟩) l) => cellsAt_calls (some ⟨bk, o, none⟩) 256 c l w' HL.out.symm h (by decide) (by decide))
  have HEn := Lib.hid (fun (w' : World) (h : Bytes w' (some ⟨bk, o, none⟩) l) => end_calls (some ⟨bk, o, none⟩) 256 c l ((i : Int) - 1) w' HL.out.symm h (by omega) (by omega) (by decide))
  clear hr4 hA4 hb4 hI4 HLe HOw HHS HD x5 d1 d2 d3 
  refine hq.out ?_
  clear hq
  go_wp2_with (go_at_call 53; refine (HCe.out _ HI4.out.1).mono ?_; rintro e w5 ⟨rfl, rfl⟩; refine park ?_; intro q hq)
  refine hq.out ?_
  clear hq
  rw [show ((at8 l 5).toNat : Int) = (N : Int) by rw [← HN.out]; rfl]
  go_wp2_with (go_at_call 54; refine (HEn.out _ HI4.out.1).mono ?_; rintro e w5 ⟨rfl, m5, rfl⟩; refine park ?_; intro q hq)
  refine hq.out ?_
  clear hq
  rw [HW.out]
  have HI5 := Lib.hid (HI4.out.drewN m5)
  obtain ⟨w5, hw5⟩ : ∃ w5, w4.drewN m5 = w5 := ⟨_, rfl⟩
  rw [hw5] at HI5 ⊢
  clear hw5 HI4 HEn HCe
  have h5 : at8 l 5 = at8 (ownP l) 5 := by unfold ownP; rw [at8_append_left _ _ _ (by rw [List.length_take, HL.out]; decide), at8_take _ _ _ (by decide)]
  have hol : (ownP l).length = 256 := ownP_len l (by rw [HL.out]; decide)
  obtain ⟨x5, y5⟩ := HI5.out.2.2.1.cell 5 (by rw [hol]; decide)
  have e5 : (at8 l 5).toNat = N := HN.out
  rw [← h5, e5] at x5
  have e5b : ((at8 l 5 + 1).toNat : Int) = (N : Int) + 1 := by rw [UInt8.toNat_add, e5]; simp; omega
  have hI6 := HI5.out.next (HI5.out.2.2.1.set 5 (at8 l 5 + 1)) (Kept.set1 w5 r 5 _)
  rw [e5b] at hI6
  have HI6 := Lib.hid hI6
  clear h5 hol e5 e5b hI6 f1
  have g1 : ((N : Int) + 1) % 256 = (N : Int) + 1 := by omega
  have k1 : IntKind.i64.wrap (2 * (i : Int)) = 2 * (i : Int) := IntWalk.i64_in _ (by omega)
  have k2 : IntKind.i64.wrap (8 + 2 * (i : Int)) = 8 + 2 * (i : Int) := IntWalk.i64_in _ (by omega)
  have k3 : IntKind.i64.wrap (8 + 2 * (i : Int) + 2) = 8 + 2 * (i : Int) + 2 := IntWalk.i64_in _ (by omega)
  have k4 : (8 + 2 * (i : Int) + 2).toNat = 8 + 2 * i + 2 := by omega
  have k5 : (8 + 2 * (i : Int)).toNat = 8 + 2 * i := by omega
  have k6 : (8 + 2 * (N : Int)).toNat = 8 + 2 * N := by omega
  have k7 : 8 + 2 * (i : Int) + 2 ≤ 256 := by omega
  have k8 : 8 + 2 * (N : Int) ≤ (c : Int) := by omega
  have k9 : 8 + 2 * (i : Int) ≤ 8 + 2 * (N : Int) := by omega
  have k10 : ¬ c = 8 + 2 * i := by omega
  have k12 : 0 ≤ 8 + 2 * (i : Int) + 2 := by omega
  have k13 : 0 ≤ 8 + 2 * (i : Int) := by omega
  have k14 : 0 ≤ 8 + 2 * (N : Int) := by omega
  have k11 : ¬ 256 = 8 + 2 * i + 2 := by omega
  go_wp2_with fail
  go_still_tail 12, (by kernel_rfl)
  have HI7 := Lib.hid (HI6.out.drewN 1)
  change wpList _ _ _ _ _ ((w5.setCell ⟨r, 5, none⟩ (.int .u8 ((N : Int) + 1))).drewN 1)
  obtain ⟨w6, hw6⟩ : ∃ w6, (w5.setCell ⟨r, 5, none⟩ (.int .u8 ((N : Int) + 1))).drewN 1 = w6 := ⟨_, rfl⟩
  rw [hw6] at HI7 ⊢
  clear hw6 HI6 x5 y5 HI5 
  obtain ⟨c1, hc1⟩ : ∃ c1, (ownP l).set 5 (at8 l 5 + 1) = c1 := ⟨_, rfl⟩
  have hcl : c1.length = 256 := by rw [← hc1, List.length_set]; exact ownP_len l (by rw [HL.out]; decide)
  rw [hc1] at HI7
  have HC1 := Lib.hid hc1
  have t1 : ((l.drop (8 + 2 * i)).take (8 + 2 * N - (8 + 2 * i))).length = 8 + 2 * N - (8 + 2 * i) := by rw [List.length_take, List.length_drop, HL.out]; omega
  refine wpList_copyI rfl _ _ rfl r _ _ _ _ _ _ rfl rfl HI7 ((l.drop (8 + 2 * i)).take (8 + 2 * N - (8 + 2 * i))) (by rw [t1]) ((HI7.out.1.drop (8 + 2 * i)).take _) (by rw [t1]; omega) (by rw [t1, hcl]; omega) ?_
  intro z7 w7 HI8
  obtain ⟨c2, hc2⟩ : ∃ c2, splice c1 (8 + 2 * i + 2) ((l.drop (8 + 2 * i)).take (8 + 2 * N - (8 + 2 * i))) = c2 := ⟨_, rfl⟩
  have hcl2 : c2.length = 256 := by rw [← hc2, length_splice _ _ _ (by rw [t1, hcl]; omega)]; exact hcl
  rw [hc2] at HI8
  have HC2 := Lib.hid hc2
  have hs := fun (w' : World) (h : BlkB w' r 5 c2) => setWord_calls r c2 (8 + 2 * i) W w' h hcl2 (by omega) (by omega)
  rw [show ((8 + 2 * i : Nat) : Int) = 8 + 2 * (i : Int) by omega] at hs
  have HSw := Lib.hid hs
  clear hc1 hcl t1 hc2 hs HI7
  go_wp2_with (go_at_call 55; refine (HSw.out _ HI8.out.2.2.1).mono ?_; rintro e w8 ⟨rfl, hA8, hk8⟩; refine park ?_; intro q hq)
  have HI9 := Lib.hid (HI8.out.next hA8 hk8)
  obtain ⟨c3, hc3⟩ : ∃ c3, setW c2 (8 + 2 * i) W = c3 := ⟨_, rfl⟩
  have hcl3 : c3.length = 256 := by rw [← hc3, setW_len]; exact hcl2
  rw [hc3] at HI9
  have HC3 := Lib.hid hc3
  clear hc3 hcl2 HSw hA8 hk8 HI8
  refine hq.out ?_
  clear hq k1 k2 k3 k4 k5 k6 k7 k8 k9 k10 k11 k12 k13 k14
  have k1 : IntKind.i64.wrap (8 + 2 * (N : Int) + 2) = 8 + 2 * (N : Int) + 2 := IntWalk.i64_in _ (by omega)
  have k2 : IntKind.i64.wrap (8 + 2 * (N : Int) + (W : Int)) = 8 + 2 * (N : Int) + (W : Int) := IntWalk.i64_in _ (by omega)
  have k3 : (8 + 2 * (N : Int) + 2).toNat = 8 + 2 * N + 2 := by omega
  have k4 : (8 + 2 * (N : Int) + (W : Int)).toNat = 8 + 2 * N + W := by omega
  have k5 : (8 + 2 * (N : Int)).toNat = 8 + 2 * N := by omega
  have k6 : 8 + 2 * (N : Int) + 2 ≤ 256 := by omega
  have k7 : 8 + 2 * (N : Int) + (W : Int) ≤ (c : Int) := by omega
  have k8 : 0 ≤ 8 + 2 * (N : Int) + (W : Int) := by omega
  have k9 : 0 ≤ 8 + 2 * (N : Int) + 2 := by omega
  have k10 : 0 ≤ 8 + 2 * (N : Int) := by omega
  have k11 : ¬ c = 8 + 2 * N := by omega
  have k12 : ¬ 256 = 8 + 2 * N + 2 := by omega
  have k13 : 8 + 2 * (N : Int) ≤ 8 + 2 * (N : Int) + (W : Int) := by omega
  go_wp2_with fail
  go_still_tail 10, (by kernel_rfl)
  have t1 : ((l.drop (8 + 2 * N)).take W).length = W := by rw [List.length_take, List.length_drop, HL.out]; omega
  have HI10 := Lib.hid (HI9.out.drewN 1)
  change wpList _ _ _ _ _ (w8.drewN 1)
  obtain ⟨w9, hw9⟩ : ∃ w9, w8.drewN 1 = w9 := ⟨_, rfl⟩
  rw [hw9] at HI10 ⊢
  clear hw9 HI9
  refine wpList_copyI rfl _ _ rfl r _ _ _ _ _ _ rfl rfl HI10 ((l.drop (8 + 2 * N)).take W) (by rw [t1]) ((HI10.out.1.drop (8 + 2 * N)).take _) (by rw [t1]; omega) (by rw [t1, hcl3]; omega) ?_
  intro z10 w10 HI11
  obtain ⟨c4, hc4⟩ : ∃ c4, splice c3 (8 + 2 * N + 2) ((l.drop (8 + 2 * N)).take W) = c4 := ⟨_, rfl⟩
  have hcl4 : c4.length = 256 := by rw [← hc4, length_splice _ _ _ (by rw [t1, hcl3]; omega)]; exact hcl3
  rw [hc4] at HI11
  have HC4 := Lib.hid hc4
  clear hc4 t1 HI10 hcl3
  clear k2 k4 k7 k8 k13
  have k2 : IntKind.i64.wrap (8 + 2 * (N : Int) + 2 + (W : Int)) = 8 + 2 * (N : Int) + 2 + (W : Int) := IntWalk.i64_in _ (by omega)
  have k4 : (8 + 2 * (N : Int) + 2 + (W : Int)).toNat = 8 + 2 * N + 2 + W := by omega
  have k7 : 8 + 2 * (N : Int) + 2 + (W : Int) ≤ 256 := by omega
  have k8 : 0 ≤ 8 + 2 * (N : Int) + 2 + (W : Int) := by omega
  have k13 : ¬ 256 = 8 + 2 * N + 2 + W := by omega
  go_wp2_with (with_reducible refine park_copy ?_; intro q hq)
  refine hq.out ?_
  clear hq
  refine wpList_copyI rfl _ _ rfl r _ _ _ _ _ _ rfl rfl HI11 b Hm.out HI11.out.2.1 (by rw [← Hm.out]; omega) (by rw [← Hm.out, hcl4]; omega) ?_
  intro z11 w11 HI12
  obtain ⟨c5, hc5⟩ : ∃ c5, splice c4 (8 + 2 * N + 2 + W) b = c5 := ⟨_, rfl⟩
  have hcl5 : c5.length = 256 := by rw [← hc5, length_splice _ _ _ (by rw [← Hm.out, hcl4]; omega)]; exact hcl4
  rw [hc5] at HI12
  have HC5 := Lib.hid hc5
  clear hc5 HI11 hcl4
  clear k1 k3 k5 k6 k9 k10 k11 k12
  have hwd := fun (w' : World) (h : Bytes w' (some ⟨bk, o, none⟩) l) => word_calls (some ⟨bk, o, none⟩) 256 c l 6 w' HL.out.symm h (by decide) (by decide)
  rw [show wordB l 6 = S from HSz.out, show ((6 : Nat) : Int) = 6 from rfl] at hwd
  have HWd : Hid (∀ w', Hid (InsI w (some ⟨bk, o, none⟩) Ab l b r c5 w') → Calls Tryd.prog 56 #[.slice (some ⟨bk, o, none⟩) 256 c, .int .i64 6] w' fun e w'' => e = .returned (.int .i64 (S : Int)) ∧ Hid (InsI w (some ⟨bk, o, none⟩) Ab l b r c5 w'')) :=
    fun w' h => (hwd w' h.out.1).mono fun e w'' ⟨he, n, hn⟩ => ⟨he, by rw [hn]; exact h.out.drewN n⟩
  have HI13 : Hid (InsI w (some ⟨bk, o, none⟩) Ab l b r c5 w11.drew) := HI12.out.drewN 1
  have k1 : IntKind.i64.wrap (8 + 2 * (N : Int) + 2 + (W : Int) + (m : Int)) = 8 + 2 * (N : Int) + 2 + (W : Int) + (m : Int) := IntWalk.i64_in _ (by omega)
  have k3 : (8 + 2 * (N : Int) + 2 + (W : Int) + (m : Int)).toNat = 8 + 2 * N + 2 + W + m := by omega
  have k5 : 8 + 2 * (N : Int) + 2 + (W : Int) + (m : Int) ≤ 252 := by omega
  have k6 : 0 ≤ 8 + 2 * (N : Int) + 2 + (W : Int) + (m : Int) := by omega
  have k9 : IntKind.i64.wrap (8 + 2 * (N : Int) + (W : Int)) = 8 + 2 * (N : Int) + (W : Int) := IntWalk.i64_in _ (by omega)
  have k10 : IntKind.i64.wrap (8 + 2 * (N : Int) + (S : Int)) = 8 + 2 * (N : Int) + (S : Int) := IntWalk.i64_in _ (by omega)
  have k11 : (8 + 2 * (N : Int) + (W : Int)).toNat = 8 + 2 * N + W := by omega
  have k12 : (8 + 2 * (N : Int) + (S : Int)).toNat = 8 + 2 * N + S := by omega
  have k14 : 0 ≤ 8 + 2 * (N : Int) + (W : Int) := by omega
  have k15 : 8 + 2 * (N : Int) + (W : Int) ≤ 8 + 2 * (N : Int) + (S : Int) := by omega
  have k16 : 8 + 2 * (N : Int) + (S : Int) ≤ (c : Int) := by omega
  have k17 : ¬ c = 8 + 2 * N + W := by omega
  have k18 : ¬ 256 = 8 + 2 * N + 2 + W + m := by omega
  have k19 : IntKind.i64.wrap (8 + 2 * (N : Int) + 2) = 8 + 2 * (N : Int) + 2 := IntWalk.i64_in _ (by omega)
  have k20 : 0 ≤ 8 + 2 * (N : Int) + (S : Int) := by omega
  have t1 : Hid (((l.drop (8 + 2 * N + W)).take (8 + 2 * N + S - (8 + 2 * N + W))).length = 8 + 2 * N + S - (8 + 2 * N + W)) := by show _ = _; rw [List.length_take, List.length_drop, HL.out]; omega
  obtain ⟨src, hsrc⟩ : ∃ src, (l.drop (8 + 2 * N + W)).take (8 + 2 * N + S - (8 + 2 * N + W)) = src := ⟨_, rfl⟩
  have HSrc : Hid (∀ w', Hid (InsI w (some ⟨bk, o, none⟩) Ab l b r c5 w') → Bytes w' (some ⟨bk, o + (8 + 2 * N + W), none⟩) src) := fun w' h => by rw [← hsrc]; exact (h.out.1.drop _).take _
  rw [hsrc] at t1
  have T2 : Hid (src.length ≤ 252 - (8 + 2 * N + 2 + W + m)) := by show _ ≤ _; rw [t1.out]; omega
  have T3 : Hid (8 + 2 * N + 2 + W + m + src.length ≤ c5.length) := by show _ ≤ _; rw [t1.out, hcl5]; omega
  obtain ⟨c6, hc6⟩ : ∃ c6, splice c5 (8 + 2 * N + 2 + W + m) src = c6 := ⟨_, rfl⟩
  have HC6 := Lib.hid hc6
  have HSc := Lib.hid hsrc
  clear hwd hcl5 HI12 hc6 hsrc
  go_wp2_with fail
  go_region_law (first | (refine step_copyI (by rfl) _ _ (by rfl) r _ _ _ _ _ _ (by rfl) (by rfl) (by assumption) src t1.out.symm (HSrc.out _ (by assumption)) T2.out T3.out ?_; rw [HC6.out]; intro z15 w15 HI15) | (go_simp; go_at_call 56; (with_reducible refine (HWd.out _ (by assumption)).mono ?_); rintro e w' ⟨rfl, HI14⟩))
  all_goals
    have h6 : c6 = insS l i b := by
      have n1 : cntB l = N := HN.out
      have n2 : sizB l = S := HSz.out
      have n3 : endB l ((i : Int) - 1) = W := HW.out
      unfold insS
      rw [n1, n2, n3, HC1.out, HC2.out, HC3.out, HC4.out, HC5.out, ← Hm.out, show S - W = 8 + 2 * N + S - (8 + 2 * N + W) by omega, HSc.out]
      exact HC6.out.symm
    have hq := HMF.out
    rw [← h6] at hq
    obtain ⟨q1, q2, q3, q4⟩ := hq
    have hsh := fun (w' : World) (h : BlkB w' r 5 c6) => shift_calls r c6 i (N + 1) (m : Int) w' h q1 q2 (by omega) (by omega) (fun j h1 h2 => by have := q4 j h1 h2; omega) (by rw [q3]; omega)
    have hfin : setW (shiftB c6 i (m : Int) (N + 1 - i)) 6 ((wordB c6 6 : Int) + (m : Int)).toNat = pageB no k (xs ++ b :: ys) := by
      rw [← HR.out]
      have n1 : cntB l = N := HN.out
      have n2 : sizB l = S := HSz.out
      unfold insB
      rw [n1, n2, ← h6, q3, Hm.out]
      congr 1
    rw [hfin] at hsh
    have HSh := Lib.hid hsh
    clear q1 q2 q3 q4 hsh hfin h6 k1 k2 k3 k4 k5 k6 k7 k8 k9 k10 k11 k12 k13 k14 k15 k16 k17 k18 k19 k20
    go_wp2_with (go_at_call 57; refine (HSh.out _ HI15.out.2.2.1).mono ?_; rintro e w16 ⟨rfl, hA16, hk16⟩)
    go_ret2
    have hI := HI15.out.next hA16 hk16
    exact ⟨r, rfl, hI.2.2.2.2.1, hI.2.2.1, hI.2.2.2.1⟩
end Go.Proofs.YtibhoekbjgoanaaDoor
