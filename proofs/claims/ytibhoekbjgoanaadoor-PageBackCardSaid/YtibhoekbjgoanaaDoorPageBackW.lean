/- The walk of PageBack. -/
import Derived.Test.YtibhoekbjgoanaaDoorPageZ
import Derived.Test.YtibhoekbjgoanaaDoorPageU
set_option linter.unusedSimpArgs false
set_option linter.unusedVariables false
namespace Go.Proofs.YtibhoekbjgoanaaDoor
open Go.RowKit Go.Proofs.YtibhoekbjgoanaaDoor.Crc
theorem RowsB.takeN {w : World} {A : Option Addr} {ls : List (List UInt8)} (h : RowsB w A ls) (n : Nat) : RowsB w A (ls.take n) := by
  intro i hi
  have hi2 : i < ls.length := by rw [List.length_take] at hi; omega
  rw [List.getElem_take]
  exact h i hi2
theorem RowsB.dropN {w : World} {b o : Nat} {ls : List (List UInt8)} (h : RowsB w (some ⟨b, o, none⟩) ls) (n : Nat) : RowsB w (some ⟨b, o + n, none⟩) (ls.drop n) := by
  intro i hi
  rw [List.length_drop] at hi
  obtain ⟨Ai, ci, hx, hs⟩ := h.at (n + i) (by omega)
  refine ⟨_, Ai, ci, rfl, ?_, ?_⟩
  · rw [Addr.add_lit, List.getElem_drop, Nat.add_assoc]; exact hx
  · rw [List.getElem_drop]; exact hs
theorem RowsB.nilR (w : World) (A : Option Addr) : RowsB w A [] := fun i h => absurd h (by simp)
/-- How many bytes one more cell may have. -/
def freeC (cs : List (List UInt8)) : Int := if 244 - (2 * cs.length + sizC cs) < 2 then -1 else ((244 - (2 * cs.length + sizC cs) : Nat) : Int) - 2
theorem freeC_fit (cs : List (List UInt8)) (hf : fitC cs) (m : Nat) : ((m : Int) > freeC cs) ↔ 244 < 2 * cs.length + sizC cs + 2 + m := by
  unfold fitC at hf; unfold freeC; split <;> omega
theorem freeC_ins (xs ys : List (List UInt8)) (b : List UInt8) (hf : fitC (xs ++ b :: ys)) : freeC (xs ++ b :: ys) = max (freeC (xs ++ ys) - 2 - (b.length : Int)) (-1) ∧ -1 ≤ freeC (xs ++ ys) ∧ freeC (xs ++ ys) ≤ 244 ∧ fitC (xs ++ ys) := by
  unfold fitC at hf ⊢; unfold freeC
  simp only [List.length_append, sizC_append, List.length_cons, sizC_cons] at hf ⊢
  refine ⟨?_, ?_, ?_, ?_⟩ <;> (repeat' split) <;> omega
theorem freeC_lo (cs : List (List UInt8)) : -1 ≤ freeC cs ∧ freeC cs ≤ 242 := by unfold freeC; split <;> omega
theorem free_blk {w : World} {r : Nat} {no : Nat} {k : UInt8} {cs : List (List UInt8)} (hA : BlkB w r 5 (pageB no k cs)) (hf : fitC cs) (hno : no ≤ 2147483647) (hk : k ≠ 0) :
    Calls Tryd.prog 27 #[.slice (some ⟨r, 0, none⟩) 256 256] w fun e w' => e = .returned (.int .i64 (freeC cs)) ∧ ∃ m, w' = w.drewN m := free_page hA hf hno hk _ rfl
attribute [local irreducible] sealB bodyB pageB freeC
set_option maxHeartbeats 1000000 in
set_option maxRecDepth 100000 in
theorem pageBack_row (A : Option Addr) (c : Nat) (ls : List (List UInt8)) (at_ : Int) (Ab : Option Addr) (cb : Nat) (b : List UInt8) (Ac : Option Addr) (cc : Nat) (d : List UInt8) (w : World) {X : Prop} (_hx : X)
    (hb : RowsB w A ls) (_hnil : A = none → c = 0) (_hc : ls.length ≤ c) (hl : ls.length ≤ 9223372036854775807) (_g : -9223372036854775808 ≤ at_ ∧ at_ ≤ 9223372036854775807)
    (hbb : Bytes w Ab b) (hbn : Ab = none → cb = 0) (hbc : b.length ≤ cb) (hbl : b.length ≤ 140737488351232) (hcb : Bytes w Ac d) (hcn : Ac = none → cc = 0) (hcc : d.length ≤ cc) (hcl : d.length ≤ 140737488351232) :
    Calls Tryd.prog 9 #[.slice A ls.length c, .int .i64 at_, .slice Ab b.length cb, .slice Ac d.length cc] w fun e w' => e = .returned (.bool true) ∧ Below w.heap.size w w' := by
  have HB := Lib.hid hb
  have HSb : Hid (SlB w Ab b.length cb b) := ⟨rfl, hbb, hbc, by omega, hbn⟩
  have HSd : Hid (SlB w Ac d.length cc d) := ⟨rfl, hcb, hcc, by omega, hcn⟩
  have HWk := Lib.hid (works9_calls w)
  have HHl := Lib.hid hl
  obtain ⟨mb, hmb⟩ : ∃ mb, b.length = mb := ⟨_, rfl⟩
  obtain ⟨md, hmd⟩ : ∃ md, d.length = md := ⟨_, rfl⟩
  rw [hmb] at HSb hbl ⊢
  rw [hmd] at HSd hcl ⊢
  have HMb := Lib.hid hmb
  have HMd0 := Lib.hid hmd
  clear hb _hnil _hc _g hl hbb hbn hbc hcb hcn hcc hmb hmd
  go_enter Tryd.func9, Tryd.ntmps9
  go_wp2_with (go_at_call 16; refine HWk.out.mono ?_; rintro e w1 ⟨rfl, hb1⟩; refine park ?_; intro q hq)
  have HB1 := Lib.hid hb1
  clear hb1 HWk
  refine hq.out ?_
  clear hq
  have HMd := Lib.hid (made_calls A ls.length c ls w1 rfl (HB.out.below HB1.out) HHl.out)
  go_wp2_with (go_at_call 24; refine HMd.out.mono ?_; rintro e w2 ⟨r, rfl, hA2, hr2, hb2⟩; refine park ?_; intro q hq)
  have hF := madeC_fit ls
  obtain ⟨cs, hcs⟩ : ∃ cs, madeC ls = cs := ⟨_, rfl⟩
  rw [hcs] at hA2 hF
  obtain ⟨i, hi0, hi1⟩ := mod_pick at_ (cs.length + 1) (by omega)
  obtain ⟨xs, ys, hxy, hxi⟩ : ∃ xs ys, cs = xs ++ ys ∧ xs.length = i := ⟨cs.take i, cs.drop i, (List.take_append_drop i cs).symm, by rw [List.length_take]; omega⟩
  obtain ⟨n, hn⟩ : ∃ n, cs.length = n := ⟨_, rfl⟩
  rw [hn] at hi0 hi1
  rw [show ((n + 1 : Nat) : Int) = (n : Int) + 1 by omega] at hi1
  have hn244 : n ≤ 122 := by unfold fitC at hF; omega
  subst hxy
  have HF := Lib.hid hF
  have HN := Lib.hid hn
  have HXi := Lib.hid hxi
  have HB2 : Hid (Below w.heap.size w w2) := HB1.out.trans (hb2.mono HB1.out.size)
  have HA2 := Lib.hid hA2
  have hcn := Cnt_calls r (xs ++ ys) 9 3 w2 hA2 hF (by decide) (by decide)
  rw [hn] at hcn
  have HCn := Lib.hid hcn
  clear HMd hcs hA2 hr2 hb2 HB1 hF hn hxi hcn
  have u1 : IntKind.u64.wrap ((n : Int) + 1) = (n : Int) + 1 := by simp only [IntKind.wrap, IntKind.bits, IntKind.signed]; simp; omega
  have u2 : IntKind.i64.wrap (i : Int) = (i : Int) := IntWalk.i64_in _ (by omega)
  refine hq.out ?_
  clear hq
  go_wp2_with (go_at_call 25; (with_reducible refine HCn.out.mono ?_); rintro e w3 ⟨rfl, m3, rfl⟩; refine park ?_; intro q hq)
  have HA3 := Lib.hid (HA2.out.below (kept_drewN w2 m3))
  have HB3 : Hid (Below w.heap.size w (w2.drewN m3)) := HB2.out.trans ((kept_drewN w2 m3).mono HB2.out.size)
  obtain ⟨w3, hw3⟩ : ∃ w3, w2.drewN m3 = w3 := ⟨_, rfl⟩
  rw [hw3] at HA3 HB3 hq
  clear hw3 HA2 HB2 HCn
  have HFp := Lib.hid (fun (w' : World) (h : BlkB w' r 5 (pageB 9 3 (xs ++ ys))) => free_blk h HF.out (by decide) (by decide))
  have hfl := freeC_lo (xs ++ ys)
  have hff := freeC_fit (xs ++ ys) HF.out
  have hFI := fun h => freeC_ins xs ys b h
  obtain ⟨F, hFe⟩ : ∃ F, freeC (xs ++ ys) = F := ⟨_, rfl⟩
  rw [hFe] at HFp hfl hff hFI
  have HFF := Lib.hid hff
  have HFI := Lib.hid hFI
  clear hff hFe hFI
  by_cases hfit : 244 < 2 * (xs ++ ys).length + sizC (xs ++ ys) + 2 + mb
  · have hin := Insert_room (some ⟨r, 0, none⟩) 256 _ 9 3 (xs ++ ys) i Ab mb cb w3 HA3.out.bytes (pgl_page 9 3 _ HF.out) (by decide) (by decide) (Nat.le_refl _) (by decide) (by rw [HN.out]; omega) (by omega) hfit
    have HIn := Lib.hid hin
    have d1 : decide ((mb : Int) > F) = true := by simpa using (HFF.out mb).2 hfit
    clear hin hfit
    refine hq.out ?_
    clear hq
    go_wp2_with (first | (go_at_call 26; (with_reducible refine HIn.out.mono ?_); rintro e w4 ⟨rfl, hb4⟩; refine park ?_; intro q hq))
    have HB4 : Hid (Below w.heap.size w w4) := HB3.out.trans (hb4.mono HB3.out.size)
    have HFq := Lib.hid (HFp.out w4 (HA3.out.below hb4))
    clear hb4
    refine hq.out ?_
    clear hq
    go_wp2_with (first | (go_at_call 27; (with_reducible refine HFq.out.mono ?_); rintro e w5 ⟨rfl, m5, rfl⟩))
    go_ret
    exact ⟨rfl, HB4.out.trans ((kept_drewN w4 m5).mono HB4.out.size)⟩
  · have hfit2 : fitC (xs ++ b :: ys) := by
      unfold fitC
      have := HMb.out
      simp only [List.length_append, sizC_append, List.length_cons, sizC_cons] at hfit ⊢
      omega
    have d1 : decide ((mb : Int) > F) = false := by simpa using fun h => hfit ((HFF.out mb).1 h)
    have hs3 := HSb.out.below HB3.out
    have hin := Insert_calls (some ⟨r, 0, none⟩) 256 _ 9 3 xs ys Ab mb cb b w3 HA3.out.bytes (pgl_page 9 3 _ HF.out) (by decide) (by decide) (Nat.le_refl _) (by decide) HMb.out.symm hs3.2.1 hfit2
    rw [HXi.out] at hin
    have HIn := Lib.hid hin
    have HF2 := Lib.hid hfit2
    clear hin hfit hs3
    refine hq.out ?_
    clear hq
    go_wp2_with (first | (go_at_call 26; (with_reducible refine HIn.out.mono ?_); rintro e w4 ⟨r4, rfl, hr4, hA4, hb4⟩; refine park ?_; intro q hq))
    have HB4 : Hid (Below w.heap.size w w4) := HB3.out.trans (hb4.mono HB3.out.size)
    have HAp := Lib.hid (HA3.out.below hb4)
    have HAq := Lib.hid hA4
    have HFq := Lib.hid (HFp.out w4 HAp.out)
    clear hr4 hA4 hb4 HIn HA3 HB3
    refine hq.out ?_
    clear hq
    go_wp2_with (first | (go_at_call 27; (with_reducible refine HFq.out.mono ?_); rintro e w5 ⟨rfl, m5, rfl⟩; refine park ?_; intro q hq))
    have HAp5 := Lib.hid (HAp.out.below (kept_drewN w4 m5))
    have HAq5 := Lib.hid (HAq.out.below (kept_drewN w4 m5))
    have HB5 : Hid (Below w.heap.size w (w4.drewN m5)) := HB4.out.trans ((kept_drewN w4 m5).mono HB4.out.size)
    obtain ⟨w5, hw5⟩ : ∃ w5, w4.drewN m5 = w5 := ⟨_, rfl⟩
    rw [hw5] at HAp5 HAq5 HB5 hq
    have hlq : (xs ++ b :: ys).length = n + 1 := by have := HN.out; simp only [List.length_append, List.length_cons] at this ⊢; omega
    obtain ⟨f1, f2, f3, _⟩ := HFI.out hfit2
    have HCq := Lib.hid (fun (w' : World) (h : BlkB w' r4 5 (pageB 9 3 (xs ++ b :: ys))) => (by have := Cnt_calls r4 _ 9 3 w' h HF2.out (by decide) (by decide); rw [hlq] at this; exact this : Calls Tryd.prog 25 #[.slice (some ⟨r4, 0, none⟩) 256 256] w' fun e w'' => e = .returned (.int .i64 ((n + 1 : Nat) : Int)) ∧ ∃ m, w'' = w'.drewN m))
    have HFr := Lib.hid (fun (w' : World) (h : BlkB w' r4 5 (pageB 9 3 (xs ++ b :: ys))) => free_blk h HF2.out (by decide) (by decide))
    have hmb2 : (b.length : Int) = (mb : Int) := by rw [HMb.out]
    rw [f1, hmb2] at HFr
    have e2 : IntKind.i64.wrap ((n : Int) + 1) = (n : Int) + 1 := IntWalk.i64_in _ (by omega)
    have e3 : ((n + 1 : Nat) : Int) = (n : Int) + 1 := by omega
    rw [e3] at HCq
    have HCe1 := Lib.hid (fun (w' : World) (h : BlkB w' r 5 (pageB 9 3 (xs ++ ys))) => Cells_calls r 0 256 _ 9 3 _ w' h.bytes (pgl_page 9 3 _ HF.out) (by decide) (by decide) (Nat.le_refl _) (by decide))
    have HCe2 := Lib.hid (fun (w' : World) (h : BlkB w' r4 5 (pageB 9 3 (xs ++ b :: ys))) => Cells_calls r4 0 256 _ 9 3 _ w' h.bytes (pgl_page 9 3 _ HF2.out) (by decide) (by decide) (Nat.le_refl _) (by decide))
    have HLq := Lib.hid hlq
    have hf1 : F ≤ 242 := hfl.2
    have hf2 : -1 ≤ F := hfl.1
    clear hw5 HAp HAq HB4 HFq hlq f1 f2 f3 hmb2 HFI hfl hfit2
    refine hq.out ?_
    clear hq
    go_wp2_with (first | (go_at_call 25; (with_reducible refine (HCq.out _ HAq5.out).mono ?_); rintro e w6 ⟨rfl, m6, rfl⟩; refine park ?_; intro q hq))
    have HAp6 := Lib.hid (HAp5.out.below (kept_drewN w5 m6))
    have HAq6 := Lib.hid (HAq5.out.below (kept_drewN w5 m6))
    have HB6 : Hid (Below w.heap.size w (w5.drewN m6)) := HB5.out.trans ((kept_drewN w5 m6).mono HB5.out.size)
    obtain ⟨w6, hw6⟩ : ∃ w6, w5.drewN m6 = w6 := ⟨_, rfl⟩
    rw [hw6] at HAp6 HAq6 HB6 hq
    clear hw6 HAp5 HAq5 HB5
    refine hq.out ?_
    clear hq
    go_wp2_with (first | (go_at_call 27; (with_reducible refine (HFr.out _ HAq6.out).mono ?_); rintro e w7 ⟨rfl, m7, rfl⟩; refine park ?_; intro q hq))
    have HAp7 := Lib.hid (HAp6.out.below (kept_drewN w6 m7))
    have HAq7 := Lib.hid (HAq6.out.below (kept_drewN w6 m7))
    have HB7 : Hid (Below w.heap.size w (w6.drewN m7)) := HB6.out.trans ((kept_drewN w6 m7).mono HB6.out.size)
    obtain ⟨w7, hw7⟩ : ∃ w7, w6.drewN m7 = w7 := ⟨_, rfl⟩
    rw [hw7] at HAp7 HAq7 HB7 hq
    clear hw7 HAp6 HAq6 HB6
    refine hq.out ?_
    clear hq
    go_wp2_with (first | (go_at_call 27; (with_reducible refine (HFp.out _ HAp7.out).mono ?_); rintro e w8 ⟨rfl, m8, rfl⟩; refine park ?_; intro q hq))
    have HAp8 := Lib.hid (HAp7.out.below (kept_drewN w7 m8))
    have HAq8 := Lib.hid (HAq7.out.below (kept_drewN w7 m8))
    have HB8 : Hid (Below w.heap.size w (w7.drewN m8)) := HB7.out.trans ((kept_drewN w7 m8).mono HB7.out.size)
    obtain ⟨w8, hw8⟩ : ∃ w8, w7.drewN m8 = w8 := ⟨_, rfl⟩
    rw [hw8] at HAp8 HAq8 HB8 hq
    clear hw8 HAp7 HAq7 HB7
    refine hq.out ?_
    clear hq
    go_wp2_with (first | (go_at_call 28; (with_reducible refine (HCe1.out _ HAp8.out).mono ?_); rintro e w9 ⟨v9, rfl, hO9, hb9⟩; refine park ?_; intro q hq))
    have HAq9 := Lib.hid (HAq8.out.below hb9)
    have HAp9 := Lib.hid (HAp8.out.below hb9)
    have HB9 : Hid (Below w.heap.size w w9) := HB8.out.trans (hb9.mono HB8.out.size)
    have HO9 := Lib.hid hO9
    clear hO9 hb9 HB8 HAp8 HAq8 HCe1
    refine hq.out ?_
    clear hq
    go_wp2_with (first | (go_at_call 28; (with_reducible refine (HCe2.out _ HAq9.out).mono ?_); rintro e w10 ⟨v10, rfl, hO10, hb10⟩; refine park ?_; intro q hq))
    have HAq10 := Lib.hid (HAq9.out.below hb10)
    have HAp10 := Lib.hid (HAp9.out.below hb10)
    have HB10 : Hid (Below w.heap.size w w10) := HB9.out.trans (hb10.mono HB9.out.size)
    have HO19 := Lib.hid (HO9.out.below hb10)
    have HO10 := Lib.hid hO10
    clear hO10 hb10 HB9 HAp9 HAq9 HO9 HCe2
    obtain ⟨g10, c10, rfl, hc10⟩ : ∃ g c, v10 = .slice (some ⟨g, 0, none⟩) (n + 1) c ∧ n + 1 ≤ c := by
      rcases HO10.out.form with ⟨_, h⟩ | ⟨g, c', h, _, _, h2, _⟩
      · cases xs <;> cases h
      · exact ⟨g, c', by rw [h, HLq.out], by rw [← HLq.out]; exact h2⟩
    have hR10 := HO10.out.rows
    have hsl : SlB w10 Ab mb cb b := HSb.out.below HB10.out
    obtain ⟨Ai, ci, hcell, hsi⟩ := hR10.at i (by rw [HLq.out]; exact hi0)
    have hgi : (xs ++ b :: ys)[i]'(by rw [HLq.out]; exact hi0) = b := by
      have := HXi.out
      subst this
      simp
    rw [hgi, HMb.out] at hcell hsi
    rw [Nat.zero_add] at hcell
    have hs1 : ∀ k, Sem.run Tryd.prog (convert 23 9 (.slice Ai mb ci)) (w10.drewN k) = .ok (.string (bstr b)) (w10.drewN k) := fun k => run_str HMb.out.symm ((hsi.below (kept_drewN w10 k)).2.1)
    have hs2 : ∀ k, Sem.run Tryd.prog (convert 23 9 (.slice Ab mb cb)) (w10.drewN k) = .ok (.string (bstr b)) (w10.drewN k) := fun k => run_str HMb.out.symm ((hsl.below (kept_drewN w10 k)).2.1)
    have hs3 := hs1 1
    have hs4 := hs2 1
    have ht1 : (xs ++ b :: ys).take i = xs := by rw [← HXi.out, List.take_left' rfl]
    have ht2 : (xs ++ ys).take i = xs := by rw [← HXi.out, List.take_left' rfl]
    have ht3 : (xs ++ b :: ys).drop (i + 1) = ys := by rw [← HXi.out, show xs.length + 1 = (xs ++ [b]).length by simp, show xs ++ b :: ys = (xs ++ [b]) ++ ys by simp, List.drop_left' rfl]
    have ht4 : (xs ++ ys).drop i = ys := by rw [← HXi.out, List.drop_left' rfl]
    have hly : ys.length = n - i := by have := HN.out; have h2 := HXi.out; rw [List.length_append] at this; omega
    have HT := Lib.hid (And.intro ht1 (And.intro ht2 (And.intro ht3 (And.intro ht4 hly))))
    clear ht1 ht2 ht3 ht4 hly hgi hsl hsi
    have HR10 := Lib.hid hR10
    obtain ⟨A9, c9, hv9⟩ : ∃ A9 c9, v9 = .slice A9 n c9 := by
      obtain ⟨A9, c9, h, _⟩ := HO19.out.slice
      exact ⟨A9, c9, by rw [h, HN.out]⟩
    subst hv9
    refine hq.out ?_
    clear hq
    go_wp2_with fail
    go_cut [114] (fun s wc => s = .bool false ∧ Hid (∃ k, wc = w10.drewN k))
    case first =>
      rcases HO19.out.form with ⟨hv, hnil⟩ | ⟨g9, c9', hv, _, _, hc9, _⟩
      · injection hv with hv1 hv2 hv3
        subst hv1
        subst hv3
        clear hv2
        obtain ⟨rfl, rfl⟩ := List.append_eq_nil_iff.1 hnil
        obtain rfl : i = 0 := HXi.out.symm
        obtain rfl : n = 0 := HN.out.symm
        have h1 := fun (k : Nat) (A1 : Option Addr) (c1 : Nat) => Calls.quiet_of (cellsEq_calls A1 0 c1 [] none 0 0 [] (w10.drewN k) rfl (RowsB.nilR _ _) (by decide) rfl (RowsB.nilR _ _) rfl)
        have H1 := Lib.hid h1
        clear hR10 h1
        have hp1 : 1 ≤ c10 := by omega
        have p1 : IntKind.i64.wrap 1 = 1 := by decide
        by_cases e10 : c10 = 1
        · have e10' := e10.symm
          subst e10'
          clear e10 hc10 hp1
          go_quiet ((go_at_call 29; (with_reducible exact H1.out _ _ _)))
          go_wp2_with fail
          go_meet
          case rel => exact ⟨rfl, _, rfl⟩
        · go_quiet ((go_at_call 29; (with_reducible exact H1.out _ _ _)))
          go_wp2_with fail
          go_meet
          case rel => exact ⟨rfl, _, rfl⟩
      · injection hv with hv1 hv2 hv3
        subst hv1
        subst hv3
        clear hv2
        have hR9 := HO19.out.rows
        rw [HN.out] at hc9
        have H1 := Lib.hid (fun k => Calls.quiet_of (cellsEq_calls (some ⟨g10, 0, none⟩) i c10 xs (some ⟨g9, 0, none⟩) i c9 xs (w10.drewN k) HXi.out.symm (by have := (hR10.below (kept_drewN w10 k)).takeN i; rwa [HT.out.1] at this) (by omega) HXi.out.symm (by have := (hR9.below (kept_drewN w10 k)).takeN i; rwa [HT.out.2.1] at this) rfl))
        have HR9 := Lib.hid hR9
        clear hR10 hR9
        have p1 : (i : Int) ≤ (c10 : Int) := by omega
        have p2 : (i : Int) ≤ (c9 : Int) := by omega
        have p3 : (i : Int) < (n : Int) + 1 := by omega
        have p4 : IntKind.i64.wrap ((i : Int) + 1) = (i : Int) + 1 := IntWalk.i64_in _ (by omega)
        have p5 : (i : Int) + 1 ≤ (n : Int) + 1 := by omega
        have p6 : ((i : Int) + 1).toNat = i + 1 := by omega
        have p7 : 0 ≤ (i : Int) + 1 := by omega
        have HG := Lib.hid (fun (k : Nat) (A1 : Option Addr) (c1 : Nat) (A2 : Option Addr) (c2 : Nat) (h1 : RowsB (w10.drewN k) A1 ys) (h2 : RowsB (w10.drewN k) A2 ys) => Calls.quiet_of (cellsEq_calls A1 (n - i) c1 ys A2 (n - i) c2 ys (w10.drewN k) HT.out.2.2.2.2.symm h1 (by omega) HT.out.2.2.2.2.symm h2 rfl))
        have HY : Hid (i = n → ys = []) := fun h => List.eq_nil_of_length_eq_zero (by rw [HT.out.2.2.2.2, h]; omega)
        have HQ10 : Hid (RowsB w10 (some ⟨g10, i + 1, none⟩) ys) := by have := HR10.out.dropN (i + 1); rwa [HT.out.2.2.1, Nat.zero_add] at this
        have HQ9 : Hid (RowsB w10 (some ⟨g9, i, none⟩) ys) := by have := HR9.out.dropN i; rwa [HT.out.2.2.2.1, Nat.zero_add] at this
        have q1 : (i : Int) ≤ (i : Int) + 1 := by omega
        by_cases hin : i = n
        · subst hin
          have HYn := Lib.hid (HY.out rfl)
          have h2 := (fun (k : Nat) (A1 : Option Addr) (c1 : Nat) (A2 : Option Addr) (c2 : Nat) => HG.out k A1 c1 A2 c2 (by rw [HYn.out]; exact RowsB.nilR _ _) (by rw [HYn.out]; exact RowsB.nilR _ _))
          rw [Nat.sub_self] at h2
          have H2 := Lib.hid h2
          clear h2
          by_cases e9 : c9 = i
          · have e9' := e9.symm
            subst e9'
            clear e9
            by_cases e10 : c10 = i + 1
            · have e10' := e10.symm
              subst e10'
              clear e10
              go_quiet ((go_at_call 29; first | (with_reducible exact H1.out _) | (with_reducible exact H2.out _ _ _ _ _)))
              go_wp2_with fail
              go_meet
              case rel => exact ⟨rfl, _, rfl⟩
            · clear hc10
              go_quiet ((go_at_call 29; first | (with_reducible exact H1.out _) | (with_reducible exact H2.out _ _ _ _ _)))
              go_wp2_with fail
              go_meet
              case rel => exact ⟨rfl, _, rfl⟩
          · by_cases e10 : c10 = i + 1
            · have e10' := e10.symm
              subst e10'
              clear e10
              go_quiet ((go_at_call 29; first | (with_reducible exact H1.out _) | (with_reducible exact H2.out _ _ _ _ _)))
              go_wp2_with fail
              go_meet
              case rel => exact ⟨rfl, _, rfl⟩
            · clear hc10
              go_quiet ((go_at_call 29; first | (with_reducible exact H1.out _) | (with_reducible exact H2.out _ _ _ _ _)))
              go_wp2_with fail
              go_meet
              case rel => exact ⟨rfl, _, rfl⟩
        · have e9 : ¬ c9 = i := by omega
          have e10 : ¬ c10 = i + 1 := by omega
          have H2 := Lib.hid (fun (k : Nat) (c1 c2 : Nat) => HG.out k (some ⟨g10, i + 1, none⟩) c1 (some ⟨g9, i, none⟩) c2 (HQ10.out.below (kept_drewN w10 k)) (HQ9.out.below (kept_drewN w10 k)))
          go_quiet ((go_at_call 29; first | (with_reducible exact H1.out _) | (with_reducible exact H2.out _ _ _)))
          go_wp2_with fail
          go_meet
          case rel => exact ⟨rfl, _, rfl⟩
    case rest =>
      obtain ⟨rfl, HK⟩ := hcut
      clear hR10 hcell hs1 hs2 hs3 hs4 HR10 HO10 HO19 HT hc10
      have hbw : Below w10.heap.size w10 wc := by obtain ⟨k, hk⟩ := HK.out; rw [hk]; exact kept_drewN w10 k
      have HAq11 := Lib.hid (HAq10.out.below hbw)
      have HAp11 := Lib.hid (HAp10.out.below hbw)
      have HB11 : Hid (Below w.heap.size w wc) := HB10.out.trans (hbw.mono HB10.out.size)
      clear hbw HK HAq10 HAp10 HB10
      have hrm := Remove_calls (some ⟨r4, 0, none⟩) 256 _ 9 3 xs ys b wc HAq11.out.bytes (pgl_page 9 3 _ HF2.out) (by decide) (by decide) (Nat.le_refl _) (by decide)
      rw [HXi.out] at hrm
      have HRm := Lib.hid hrm
      clear hrm
      go_wp2_with (first | (go_at_call 30; (with_reducible refine HRm.out.mono ?_); rintro e w12 ⟨r12, rfl, hr12, hA12, hb12⟩; refine park ?_; intro q hq))
      have HAr12 := Lib.hid hA12
      have HAq12 := Lib.hid (HAq11.out.below hb12)
      have HAp12 := Lib.hid (HAp11.out.below hb12)
      have HB12 : Hid (Below w.heap.size w w12) := HB11.out.trans (hb12.mono HB11.out.size)
      have hrp := Replace_calls (some ⟨r4, 0, none⟩) 256 _ 9 3 xs ys b Ac md cc d w12 HAq12.out.bytes (pgl_page 9 3 _ HF2.out) (by decide) (by decide) (Nat.le_refl _) (by decide) (HSd.out.below HB12.out)
      rw [HXi.out] at hrp
      have HRp := Lib.hid hrp
      clear hrp hr12 hA12 hb12 HRm HAq11 HAp11 HB11
      refine hq.out ?_
      clear hq
      go_wp2_with (first | (go_at_call 31; (with_reducible refine HRp.out.mono ?_); rintro e w13 ⟨v13, n13, rfl, hb13, hor⟩; refine park ?_; intro q hq))
      have HAr13 := Lib.hid (HAr12.out.below hb13)
      have HAq13 := Lib.hid (HAq12.out.below hb13)
      have HAp13 := Lib.hid (HAp12.out.below hb13)
      have HB13 : Hid (Below w.heap.size w w13) := HB12.out.trans (hb13.mono HB12.out.size)
      have s1 := run_str (m := 256) (c := 256) (pageB_length 9 3 _ HF.out).symm HAr13.out.bytes
      have s2 := run_str (m := 256) (c := 256) (pageB_length 9 3 _ HF.out).symm HAp13.out.bytes
      clear hb13 HAr12 HAq12 HAp12 HB12 HRp
      rcases hor with ⟨rfl, hroom⟩ | ⟨rfl, hf3, r13, rfl, hr13, hA13⟩
      · have d2 : decide ((md : Int) > F) = true := by simpa using (HFF.out md).2 (by rw [← HMd0.out]; exact hroom)
        have HFq := Lib.hid (HFp.out w13 HAp13.out)
        clear hroom
        refine hq.out ?_
        clear hq
        go_wp2_with (first | (go_at_call 27; (with_reducible refine HFq.out.mono ?_); rintro e w14 ⟨rfl, m14, rfl⟩))
        go_ret
        exact ⟨rfl, HB13.out.trans ((kept_drewN w13 m14).mono HB13.out.size)⟩
      · have hrp := Replace_calls (some ⟨r13, 0, none⟩) 256 _ 9 3 xs ys d Ab mb cb b w13 hA13.bytes (pgl_page 9 3 _ hf3) (by decide) (by decide) (Nat.le_refl _) (by decide) (HSb.out.below HB13.out)
        rw [HXi.out] at hrp
        have HRp := Lib.hid hrp
        clear hrp hf3 hr13 hA13
        refine hq.out ?_
        clear hq
        go_wp2_with (first | (go_at_call 31; (with_reducible refine HRp.out.mono ?_); rintro e w14 ⟨v14, n14, rfl, hb14, hor⟩; refine park ?_; intro q hq))
        rcases hor with ⟨rfl, hroom⟩ | ⟨rfl, hf4, r14, rfl, hr14, hA14⟩
        · exfalso
          have h1 := HF2.out
          unfold fitC at h1
          simp only [List.length_append, sizC_append, List.length_cons, sizC_cons] at h1 hroom
          omega
        · have s3 := run_str (m := 256) (c := 256) (pageB_length 9 3 _ hf4).symm hA14.bytes
          have s4 := run_str (m := 256) (c := 256) (pageB_length 9 3 _ hf4).symm (HAq13.out.below hb14).bytes
          have HB14 : Hid (Below w.heap.size w w14) := HB13.out.trans (hb14.mono HB13.out.size)
          clear hf4 hr14 hA14 hb14 s1 s2
          refine hq.out ?_
          clear hq
          go_wp2_with fail
          go_ret
          exact ⟨rfl, HB14.out⟩
end Go.Proofs.YtibhoekbjgoanaaDoor
