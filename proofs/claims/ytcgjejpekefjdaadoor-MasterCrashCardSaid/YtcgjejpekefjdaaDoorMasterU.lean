/- A master on a disk of its own: saved, opened. -/
import Derived.Test.YtcgjejpekefjdaaDoorMasterT
import Derived.Test.YtcgjejpekefjdaaDoorDiskY
set_option linter.unusedSimpArgs false
set_option linter.unusedVariables false
namespace Go.Proofs.YtcgjejpekefjdaaDoor
open Go.RowKit Go.Proofs.YtcgjejpekefjdaaDoor.Crc
open Go.Proofs.YtcgjejpekefjdaaDoor.Dsk
/-- A disk of three sectors behind so many saves. -/
structure Fr (d : DiskM) (k : Nat) : Prop where
  wait : d.wait = []
  cut : d.cut = false
  steps : d.steps = 2 * (k : Int)
  bud : d.bud ≤ 2 * k
  size : d.size = 3
theorem write_now (d : DiskM) (i j : Int) (s : List UInt8) : (d.write i s).sync.now j = if i = j then s else d.now j := by
  have h : ∀ d : DiskM, d.sync.now j = d.now j := fun d => by
    show lastOf j (syncF d.wait d.held j) [] = _
    rw [lastOf, syncF_last]; rfl
  rw [h]
  show lastOf j (d.held j) (d.wait ++ [(i, s)]) = _
  rw [lastOf_snoc]; rfl
theorem Fr.on {d : DiskM} {k : Nat} (h : Fr d k) : d.isOff = false := by unfold DiskM.isOff; rw [h.cut]; rfl
theorem Fr.on2 {d : DiskM} {k : Nat} (h : Fr d k) (i : Int) (s : List UInt8) : (d.write i s).isOff = false := by unfold DiskM.isOff DiskM.write DiskM.step DiskM.put; simp [h.cut]
theorem Fr.ok2 {d : DiskM} {k : Nat} (h : Fr d k) (i : Int) (s : List UInt8) : ok2 d i s = true := by unfold Go.Proofs.YtcgjejpekefjdaaDoor.ok2; rw [h.on, h.on2]; rfl
theorem Fr.put2 {d : DiskM} {k : Nat} (h : Fr d k) (i : Int) (s : List UInt8) : d.put2 i s = (d.write i s).sync ∧ Fr (d.put2 i s) (k + 1) := by
  have e : d.put2 i s = (d.write i s).sync := by unfold Dsk.DiskM.put2; rw [h.on, h.on2]; rfl
  refine ⟨e, ?_⟩
  rw [e]
  refine ⟨rfl, ?_, ?_, ?_, h.size⟩
  · exact h.cut
  · show d.steps + 1 + 1 = _
    have := h.steps; omega
  · show d.bud + 1 + (d.wait ++ [(i, s)]).length ≤ _
    rw [h.wait]; simp; have := h.bud; omega
/-- A master in memory, its disk, and what lies on it. -/
structure MD (w : World) (base a m r : Nat) (wv : Value) (d : DiskM) (x : MasM) : Prop where
  disk : DiskAt w base a m wv d
  mas : MsAt w r (some ⟨a, 0, none⟩) x
  lo : base ≤ r
  rf : ¬ Foot a m wv r
  pos : (x.pos : Int) + 2 ≤ d.size
  s0 : SecOf (d.now x.pos) x.e0 x.f0
  s1 : SecOf (d.now (x.pos + 1)) x.e1 x.f1
theorem MD.base_le {w : World} {base a m r : Nat} {wv : Value} {d : DiskM} {x : MasM} (h : MD w base a m r wv d x) : base ≤ w.heap.size := by
  have := h.mas.lt; have := h.lo; omega
theorem MD.below {w w' : World} {base a m r : Nat} {wv : Value} {d : DiskM} {x : MasM} (h : MD w base a m r wv d x) (hb : Below w.heap.size w w') : MD w' base a m r wv d x :=
  ⟨h.disk.below hb, h.mas.below hb, h.lo, h.rf, h.pos, h.s0, h.s1⟩
theorem MD.foot {w : World} {base a m r : Nat} {wv : Value} {d : DiskM} {x : MasM} (h : MD w base a m r wv d x) : ∀ k, k < base → ¬ (Foot a m wv k ∨ k = r) := by
  rintro k hk (hF | rfl)
  · have := (h.disk.foot k hF).1; omega
  · have := h.lo; omega
theorem MasM.save_pos (x : MasM) (ep : Nat) (fs : List Nat) : (x.save ep fs).pos = x.pos := by unfold MasM.save; split <;> rfl
theorem MD.saved {w w' : World} {base a m r : Nat} {wv wv' : Value} {d d' : DiskM} {x : MasM} (h : MD w base a m r wv d x) (ep : Nat) (fs : List Nat)
    (hd : DiskAt w' base a m wv' d') (hm : MsAt w' r (some ⟨a, 0, none⟩) (x.save ep fs)) (ho : ∀ k, wv'.ownBlock = some k → wv.ownBlock = some k ∨ w.heap.size ≤ k) (hsz : d'.size = d.size)
    (hnow : ∀ j, d'.now j = if (x.pos : Int) + (x.nx : Int) = j then secU ep fs else d.now j) (hS : SecOf (secU ep fs) ep fs) : MD w' base a m r wv' d' (x.save ep fs) := by
  refine ⟨hd, hm, h.lo, ?_, ?_, ?_, ?_⟩
  · rintro (hF | hF | hF)
    · exact h.rf (.inl hF)
    · exact h.rf (.inr (.inl hF))
    · rcases ho _ hF with hF | hF
      · exact h.rf (.inr (.inr hF))
      · have := h.mas.lt; omega
  · rw [MasM.save_pos, hsz]; exact h.pos
  · rw [MasM.save_pos, hnow]
    unfold MasM.save
    by_cases hn : x.nx = 0
    · rw [if_pos (by rw [hn]; omega), if_pos hn]; exact hS
    · rw [if_neg (by omega), if_neg hn]; exact h.s0
  · rw [MasM.save_pos, hnow]
    unfold MasM.save
    by_cases hn : x.nx = 0
    · rw [if_neg (by omega), if_pos hn]; exact h.s1
    · have := x.nx_le
      rw [if_pos (by omega), if_neg hn]; exact hS
theorem secU_sec (ep : Nat) (fs : List Nat) (h0 : 0 < ep) (h1 : ep ≤ 1000000000) (h2 : fs.length ≤ 20) (h3 : ∀ f ∈ fs, f < 18446744073709551616) : SecOf (secU ep fs) ep fs := .inr ⟨h0, rfl, h1, h2, h3⟩
/-- Save on a disk that is on. -/
theorem Save_go {w : World} {base a m r : Nat} {wv : Value} {d : DiskM} {x : MasM} (h : MD w base a m r wv d x) {k : Nat} (hf : Fr d k) (hk : k ≤ 100) (hh : HalfIs w) (A : Option Addr) (n c ep : Nat) (fs : List Nat) (hn : n = fs.length) (hnil : A = none → c = 0) (hU : U64s w A fs)
    (hA : ∀ ad, A = some ad → fs = [] ∨ ad.block < w.heap.size ∧ ¬ Foot a m wv ad.block ∧ ad.block ≠ r) (he : x.last.1 < ep ∧ ep ≤ 1000000000) (hl : fs.length ≤ 20) (hfs : ∀ f ∈ fs, f < 18446744073709551616) :
    Calls Tryd.prog 13 #[.pointer (some ⟨r, 0, none⟩), .slice A n c, .int .i64 (ep : Int)] w fun e w' => e = .returned (.int .i64 0) ∧ ∃ wv' d', Hid (MD w' base a m r wv' d' (x.save ep fs)) ∧ Hid (Fr d' (k + 1)) ∧ Hid (Kept (fun k => Foot a m wv k ∨ k = r) w w') := by
  refine (Save_ok h.disk h.base_le h.mas hh A n c ep fs hn hnil hU hA he hl hfs h.pos (by have := hf.bud; rw [hf.wait]; simp; omega) (by have := hf.steps; omega) h.rf).mono ?_
  rintro e w' ⟨he1, H⟩
  obtain ⟨wv', g1, g2, g3, g4⟩ := H.out
  obtain ⟨q1, q2⟩ := hf.put2 ((x.pos : Int) + (x.nx : Int)) (secU ep fs)
  rw [hf.ok2] at he1 g2
  refine ⟨he1, wv', _, ?_, q2, g3⟩
  refine h.saved ep fs g1 g2 g4 ?_ ?_ (secU_sec ep fs (by omega) he.2 hl hfs)
  · rw [q1]; rfl
  · intro j; rw [q1]; exact write_now _ _ _ _
/-- What a Save turns. -/
theorem MasM.saved {x : MasM} {ep : Nat} (fs : List Nat) (he : x.last.1 < ep) : (x.save ep fs).slot = (x.nx : Int) ∧ (x.save ep fs).last = (ep, fs) ∧ (x.save ep fs).nx = 1 - x.nx := by
  obtain ⟨pos, e0, f0, e1, f1⟩ := x
  unfold MasM.last at he
  unfold MasM.save MasM.nx MasM.slot MasM.last
  simp only at *
  by_cases hz : e0 = 0 ∧ e1 = 0
  · obtain ⟨rfl, rfl⟩ := hz
    simp at he ⊢
    simp [show ¬ ep = 0 by omega]
  · rw [if_neg hz] at he ⊢
    by_cases hl : e0 < e1
    · rw [if_pos hl] at he ⊢
      simp at he ⊢
      simp [show ¬ ep = 0 by omega, show ¬ ep < e1 by omega]
    · rw [if_neg hl] at he ⊢
      simp at he ⊢
      simp [show ¬ ep = 0 by omega, show e0 < ep by omega]
/-- A disk of three sectors, and a master on it. -/
def x0 : MasM := ⟨1, 0, [], 0, []⟩
theorem newD_now (n i : Int) : (newD n).now i = zsec := rfl
theorem fr0 : Fr (newD 3) 0 := ⟨rfl, rfl, rfl, Nat.le_refl _, rfl⟩
set_option maxRecDepth 10000 in
set_option maxHeartbeats 400000 in
theorem opened_calls (w : World) (hh : HalfIs w) : Calls Tryd.prog 15 #[] w fun e w' => ∃ a m r, e = .returned (.tuple #[.pointer (some ⟨a, 0, none⟩), .pointer (some ⟨r, 0, none⟩)]) ∧ Hid (MD w' w.heap.size a m r (.slice none 0 0) (newD 3) x0) ∧ Hid (Below w.heap.size w w') := by
  have HN := Lib.hid (New_calls 3 (by decide) w)
  have HH := Lib.hid hh
  clear hh
  go_enter Tryd.func15, Tryd.ntmps15
  go_wp2_with (go_at_call 43; refine HN.out.mono ?_; rintro e w1 ⟨a, m, rfl, hd1, hb1⟩; refine park ?_; intro q hq)
  refine hq.out ?_
  clear hq HN
  have HO := Lib.hid (MOpen_calls hd1 (HH.out.below hb1) rfl x0 (by decide) (SecOf.zero.par) (SecOf.zero.par))
  have HD := Lib.hid hd1
  have HB := Lib.hid hb1
  clear hd1 hb1
  rw [show ((x0.pos : Nat) : Int) = 1 from rfl] at HO
  go_wp2_with (go_at_call 10; (with_reducible refine HO.out.mono ?_); rintro e w2 ⟨r, rfl, hm2, hr2, hb2⟩; refine park ?_; intro q hq)
  refine hq.out ?_
  clear hq HO
  have hF := HD.out.foot
  have HR : Hid (MD w2 w.heap.size a m r (.slice none 0 0) (newD 3) x0) := ⟨HD.out.below hb2, hm2, Nat.le_trans HB.out.size hr2, fun h => by have := (hF r h).2; omega, by decide, SecOf.zero, SecOf.zero⟩
  have HB2 : Hid (Below w.heap.size w w2) := HB.out.trans (hb2.mono HB.out.size)
  clear hm2 hr2 hb2 hF HD HB
  go_wp2_with fail
  go_ret2
  exact ⟨a, m, r, rfl, HR, HB2⟩
set_option maxRecDepth 10000 in
set_option maxHeartbeats 400000 in
/-- The same fields? -/
theorem Same10_calls (w : World) (A B : Option Addr) (n c n' c' : Nat) (xs ys : List Nat) (hn : n = xs.length) (hn' : n' = ys.length) (hx : U64s w A xs) (hy : U64s w B ys) (hl : n ≤ 20) :
    Calls Tryd.prog 16 #[.slice A n c, .slice B n' c'] w fun e w' => e = .returned (.bool (decide (xs = ys))) ∧ Hid (Below w.heap.size w w') := by
  have HX := Lib.hid hx
  have HY := Lib.hid hy
  have HN := Lib.hid hn
  have HN' := Lib.hid hn'
  have HL := Lib.hid hl
  clear hl
  by_cases hne : ¬ n = n'
  · have h1 : ((n : Int) == (n' : Int)) = false := by simp; omega
    have h2 : decide (xs = ys) = false := by
      rw [decide_eq_false_iff_not]; rintro rfl; omega
    rw [h2]
    clear hn hn' hx hy hne
    go_enter Tryd.func16, Tryd.ntmps16
    go_wp2_with fail
    go_ret
    exact ⟨rfl, Below.refl _ _⟩
  · obtain rfl : n = n' := Classical.not_not.1 hne
    clear hn hn' hx hy hne
    go_enter Tryd.func16, Tryd.ntmps16
    go_wp2_with fail
    go_loopw [5] (fun i wr => ∃ t : Nat, t ≤ n ∧ i = .int .i64 (t : Int) ∧ Hid (xs.take t = ys.take t ∧ Below w.heap.size w wr)) (fun i _ => n - (intOf i).toNat)
    case atStart => exact ⟨0, Nat.zero_le _, rfl, by simp, Below.refl _ _⟩
    case round =>
      obtain ⟨t, ht, rfl, HV⟩ := hrel
      by_cases hlt : t < n
      · have hlx : t < xs.length := by rw [← HN.out]; exact hlt
        have hly : t < ys.length := by rw [← HN'.out]; exact hlt
        obtain ⟨ax, hAx, hcx⟩ := (HX.out.below HV.out.2) t hlx
        obtain ⟨ay, hAy, hcy⟩ := (HY.out.below HV.out.2) t hly
        obtain ⟨u, hu⟩ : ∃ u, xs[t] = u := ⟨_, rfl⟩
        obtain ⟨v, hv⟩ : ∃ v, ys[t] = v := ⟨_, rfl⟩
        rw [hu] at hcx
        rw [hv] at hcy
        subst hAx
        subst hAy
        have ht20 : (t : Int) + 1 ≤ 20 := by have := HL.out; omega
        by_cases huv : u = v
        · have d1 : ((u : Int) == (v : Int)) = true := by simp; omega
          have HE : Hid (xs.take (t + 1) = ys.take (t + 1) ∧ Below w.heap.size w wr) := ⟨by rw [List.take_succ_eq_append_getElem hlx, List.take_succ_eq_append_getElem hly, HV.out.1, hu, hv, huv], HV.out.2⟩
          clear hu hv huv hlx hly HV
          go_wp2_with fail
          go_region
          go_wp2_with fail
          go_roundw
          case rel => exact ⟨t + 1, Nat.succ_le_of_lt hlt, congrArg (Value.int .i64) (Int.natCast_succ t).symm, HE.out.1, HE.out.2.drew⟩
          case measure => simp [intOf]; omega
        · have d1 : ((u : Int) == (v : Int)) = false := by simp; omega
          have h2 : decide (xs = ys) = false := by
            rw [decide_eq_false_iff_not]; rintro rfl; exact huv (by rw [← hu, ← hv])
          have HB := Lib.hid HV.out.2
          clear hu hv huv hlx hly HV
          go_wp2_with fail
          go_region
          go_wp2_with fail
          go_ret
          exact ⟨by rw [h2]; rfl, HB.out.drew⟩
      · obtain rfl : n = t := by omega
        have h2 : decide (xs = ys) = true := by
          rw [decide_eq_true_iff]
          have := HV.out.1
          rwa [List.take_of_length_le (by rw [← HN.out]; exact Nat.le_refl _), List.take_of_length_le (by rw [← HN'.out]; exact Nat.le_refl _)] at this
        have HB := Lib.hid HV.out.2
        clear HV
        go_wp2_with fail
        go_ret
        exact ⟨by rw [h2]; rfl, HB.out⟩
end Go.Proofs.YtcgjejpekefjdaaDoor
