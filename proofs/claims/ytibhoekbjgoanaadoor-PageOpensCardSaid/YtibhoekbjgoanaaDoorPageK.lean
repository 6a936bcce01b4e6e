/- Pages: the walk of the laws' made. -/
import Derived.Test.YtibhoekbjgoanaaDoorPageR
set_option linter.unusedSimpArgs false
set_option linter.unusedVariables false
namespace Go.Proofs.YtibhoekbjgoanaaDoor
open Go.RowKit Go.Proofs.YtibhoekbjgoanaaDoor.Crc
/-- A slice of bytes that came in. -/
def SlB (w : World) (A : Option Addr) (n c : Nat) (l : List UInt8) : Prop := n = l.length ∧ Bytes w A l ∧ n ≤ c ∧ n ≤ 9223372036854775807 ∧ (A = none → c = 0)
theorem SlB.below {w w' : World} {A : Option Addr} {n c : Nat} {l : List UInt8} (h : SlB w A n c l) (hb : Below w.heap.size w w') : SlB w' A n c l := ⟨h.1, h.2.1.below hb, h.2.2⟩
/-- A slice of slices of bytes. -/
def RowsB (w : World) (A : Option Addr) (ls : List (List UInt8)) : Prop := ∀ (i : Nat) (h : i < ls.length), ∃ ad Ai ci, A = some ad ∧ w.cell? (ad.add i) = some (.slice Ai ls[i].length ci) ∧ SlB w Ai ls[i].length ci ls[i]
theorem RowsB.below {w w' : World} {A : Option Addr} {ls : List (List UInt8)} (h : RowsB w A ls) (hb : Below w.heap.size w w') : RowsB w' A ls := fun i hi => by
  obtain ⟨ad, Ai, ci, hA, hc, hs⟩ := h i hi
  exact ⟨ad, Ai, ci, hA, (hb.cell (World.block_lt_of_cell? w _ hc)).trans hc, hs.below hb⟩
theorem RowsB.spot {w : World} {A : Option Addr} {ls : List (List UInt8)} (h : RowsB w A ls) (hl : 0 < ls.length) : ∃ b o, A = some ⟨b, o, none⟩ := by
  obtain ⟨ad, Ai, ci, hA, hx, _⟩ := h 0 hl
  obtain ⟨b, o, s⟩ := ad
  refine ⟨b, o, ?_⟩
  rw [hA]
  cases s with
  | none => rfl
  | some s => simp [World.cell?, Addr.add] at hx; split at hx <;> simp at hx
theorem RowsB.at {w : World} {b o : Nat} {ls : List (List UInt8)} (h : RowsB w (some ⟨b, o, none⟩) ls) (i : Nat) (hi : i < ls.length) : ∃ Ai ci, w.cell? ⟨b, o + i, none⟩ = some (.slice Ai ls[i].length ci) ∧ SlB w Ai ls[i].length ci ls[i] := by
  obtain ⟨ad, Ai, ci, hA, hx, hs⟩ := h i hi
  cases hA
  rw [Addr.add_lit] at hx
  exact ⟨Ai, ci, hx, hs⟩
theorem fit_nil : fitC [] := by unfold fitC; decide
theorem newB_page (no : Nat) (k : UInt8) : newB no k = pageB no k [] := by
  have h : List.replicate 251 (0 : UInt8) = UInt8.ofNat 0 :: (w2 0 ++ (List.replicate 244 0 ++ [0, 0, 0, 0])) := by decide +kernel
  unfold newB pageB bodyB headPg
  rw [h, List.append_assoc, List.append_assoc]
  rfl
/-- The page after one more cell: the cell is put at the end, if it has room. -/
def addC (cs : List (List UInt8)) (b : List UInt8) : List (List UInt8) := if 2 * cs.length + sizC cs + 2 + b.length ≤ 244 then cs ++ [b] else cs
def madeC (ls : List (List UInt8)) : List (List UInt8) := (ls.take 100).foldl (fun cs b => addC cs (b.take 60)) []
theorem addC_fit (cs : List (List UInt8)) (b : List UInt8) (h : fitC cs) : fitC (addC cs b) := by
  unfold addC
  split
  · unfold fitC; rw [List.length_append, sizC_append, sizC_cons, sizC_nil, List.length_singleton]; omega
  · exact h
theorem madeC_step (ls : List (List UInt8)) (i : Nat) (h : i < ls.length) : (ls.take (i + 1)).foldl (fun cs b => addC cs (b.take 60)) [] = addC ((ls.take i).foldl (fun cs b => addC cs (b.take 60)) []) (ls[i].take 60) := by
  rw [List.take_succ_eq_append_getElem h, List.foldl_append]; rfl
theorem madeK_fit (ls : List (List UInt8)) : fitC (ls.foldl (fun cs b => addC cs (b.take 60)) []) := by
  suffices h : ∀ (ls cs : List (List UInt8)), fitC cs → fitC (ls.foldl (fun cs b => addC cs (b.take 60)) cs) from h ls [] fit_nil
  intro ls
  induction ls with
  | nil => intro cs h; exact h
  | cons b ls ih => intro cs h; exact ih _ (addC_fit cs _ h)
theorem madeC_fit (ls : List (List UInt8)) : fitC (madeC ls) := madeK_fit _
theorem PgL.cnt {l : List UInt8} {no : Nat} {k : UInt8} {cs : List (List UInt8)} (h : PgL l no k cs) (hno : no ≤ 2147483647) (hk : k ≠ 0) : countP l = cs.length := by
  unfold countP; rw [if_pos (h.sound hno hk), h.count]
theorem PgL.free {l : List UInt8} {no : Nat} {k : UInt8} {cs : List (List UInt8)} (h : PgL l no k cs) (hno : no ≤ 2147483647) (hk : k ≠ 0) : freeP l = (if 244 - (2 * cs.length + sizC cs) < 2 then -1 else ((244 - (2 * cs.length + sizC cs) : Nat) : Int) - 2) := by
  unfold freeP leftP; rw [if_pos (h.sound hno hk), h.count, h.size]
theorem SlB.take60 {w : World} {A : Option Addr} {c : Nat} {l : List UInt8} (h : SlB w A l.length c l) (h60 : 60 < l.length) : SlB w A 60 c (l.take 60) :=
  ⟨by rw [List.length_take]; omega, h.2.1.take 60, by have := h.2.2.1; omega, by decide, h.2.2.2.2⟩
/-- What a call of Insert at the end of a page does. -/
theorem Ins_end (r : Nat) (cs : List (List UInt8)) (no : Nat) (k : UInt8) (Ab : Option Addr) (m cb : Nat) (b : List UInt8) (w : World) (hA : BlkB w r 5 (pageB no k cs)) (hf : fitC cs) (hno : no ≤ 2147483647) (hk : k ≠ 0) (hs : SlB w Ab m cb b) :
    Calls Tryd.prog 26 #[.slice (some ⟨r, 0, none⟩) 256 256, .int .i64 (cs.length : Int), .slice Ab m cb] w fun e w' => ∃ v n, e = .returned (.tuple #[v, .int .i64 n]) ∧ Below w.heap.size w w' ∧ ((n ≠ 0 ∧ addC cs b = cs ∧ BlkB w' r 5 (pageB no k cs)) ∨ (n = 0 ∧ ∃ r', v = .slice (some ⟨r', 0, none⟩) 256 256 ∧ BlkB w' r' 5 (pageB no k (addC cs b)) ∧ w.heap.size ≤ r')) := by
  by_cases h : 2 * cs.length + sizC cs + 2 + b.length ≤ 244
  · have e : addC cs b = cs ++ [b] := by unfold addC; rw [if_pos h]
    have hfit : fitC (cs ++ [b]) := by have := addC_fit cs b hf; rwa [e] at this
    have hP : PgL (pageB no k cs) no k (cs ++ []) := by rw [List.append_nil]; exact pgl_page no k cs hf
    refine (Insert_calls (some ⟨r, 0, none⟩) 256 (pageB no k cs) no k cs [] Ab m cb b w hA.bytes hP hno hk (Nat.le_refl _) (by decide) hs.1 hs.2.1 hfit).mono ?_
    rintro e' w' ⟨r', rfl, hr', hA', hb'⟩
    exact ⟨_, 0, rfl, hb', .inr ⟨rfl, r', rfl, by rw [e]; exact hA', hr'⟩⟩
  · have e : addC cs b = cs := by unfold addC; rw [if_neg h]
    refine (Insert_room (some ⟨r, 0, none⟩) 256 (pageB no k cs) no k cs cs.length Ab m cb w hA.bytes (pgl_page no k cs hf) hno hk (Nat.le_refl _) (by decide) (Nat.le_refl _) (by have := hs.2.2.1; have := hs.2.2.2.1; omega) (by have := hs.1; omega)).mono ?_
    rintro e' w' ⟨rfl, hb'⟩
    exact ⟨_, 32, rfl, hb', .inl ⟨by decide, e, hA.below hb'⟩⟩
theorem Cnt_calls (r : Nat) (cs : List (List UInt8)) (no : Nat) (k : UInt8) (w : World) (hA : BlkB w r 5 (pageB no k cs)) (hf : fitC cs) (hno : no ≤ 2147483647) (hk : k ≠ 0) :
    Calls Tryd.prog 25 #[.slice (some ⟨r, 0, none⟩) 256 256] w fun e w' => e = .returned (.int .i64 (cs.length : Int)) ∧ ∃ m, w' = w.drewN m := by
  have h := Count_calls (some ⟨r, 0, none⟩) 256 256 (pageB no k cs) w (pageB_length _ _ _ hf).symm hA.bytes (Nat.le_refl _) (by decide) (by decide)
  rw [(pgl_page no k cs hf).cnt hno hk] at h
  exact h
set_option maxRecDepth 100000 in
set_option maxHeartbeats 1000000 in
theorem made_calls (A : Option Addr) (n c : Nat) (ls : List (List UInt8)) (w : World) (hn : n = ls.length) (hR : RowsB w A ls) (hm : n ≤ 9223372036854775807) :
    Calls Tryd.prog 24 #[.slice A n c] w fun e w' => ∃ r, e = .returned (.slice (some ⟨r, 0, none⟩) 256 256) ∧ BlkB w' r 5 (pageB 9 3 (madeC ls)) ∧ w.heap.size ≤ r ∧ Below w.heap.size w w' := by
  have HN := Lib.hid hn
  have HR := Lib.hid hR
  have hNew := New_calls 9 3 w (by decide) (by decide)
  rw [show ((9 : Nat) : Int) = 9 from rfl, show (((3 : UInt8).toNat : Nat) : Int) = 3 from rfl] at hNew
  have HNew := Lib.hid hNew
  clear hn hR hNew
  go_enter Tryd.func24, Tryd.ntmps24
  go_wp2_with (go_at_call 15; (with_reducible refine HNew.out.mono ?_); rintro e w1 ⟨r, rfl, hr1, hA1, hb1⟩)
  rw [newB_page] at hA1
  have HI : Hid (BlkB w1 r 5 (pageB 9 3 ((ls.take 0).foldl (fun cs b => addC cs (b.take 60)) [])) ∧ w.heap.size ≤ r ∧ Below w.heap.size w w1) := ⟨hA1, hr1, hb1⟩
  clear hr1 hA1 hb1
  go_loopw [3, 15] (fun p i wr => ∃ (k g : Nat), k ≤ n ∧ k ≤ 100 ∧ i = .int .i64 (k : Int) ∧ p = .slice (some ⟨g, 0, none⟩) 256 256 ∧ Hid (BlkB wr g 5 (pageB 9 3 ((ls.take k).foldl (fun cs b => addC cs (b.take 60)) [])) ∧ w.heap.size ≤ g ∧ Below w.heap.size w wr)) (fun _ i _ => n - (intOf i).toNat)
  case atStart => exact ⟨0, r, Nat.zero_le _, by decide, rfl, rfl, HI⟩
  case round =>
    obtain ⟨k, g, hk, hk1, rfl, rfl, HW⟩ := hrel
    by_cases hlt : k < n
    · by_cases h100 : k = 100
      · obtain ⟨b, o, rfl⟩ := HR.out.spot (by rw [← HN.out]; omega)
        obtain ⟨Ai, ci, hc, hs⟩ := (HR.out.below HW.out.2.2).at k (by rw [← HN.out]; exact hlt)
        have d1 : ((k : Int) == 100) = true := by simp; omega
        have HF : Hid (madeC ls = (ls.take k).foldl (fun cs b => addC cs (b.take 60)) []) := by show _ = _; rw [h100]; rfl
        clear h100 hs
        go_wp2_with fail
        go_ret
        exact ⟨g, rfl, by rw [HF.out]; exact HW.out.1, HW.out.2⟩
      · have hk2 : k < 100 := by omega
        obtain ⟨b, o, rfl⟩ := HR.out.spot (by rw [← HN.out]; omega)
        obtain ⟨Ai, ci, hc, hs⟩ := (HR.out.below HW.out.2.2).at k (by rw [← HN.out]; exact hlt)
        have hlk : k < ls.length := by rw [← HN.out]; exact hlt
        have HStep := Lib.hid (madeC_step ls k hlk)
        have HFit := Lib.hid (madeK_fit (ls.take k))
        obtain ⟨cs, hcs⟩ : ∃ cs, (ls.take k).foldl (fun cs b => addC cs (b.take 60)) [] = cs := ⟨_, rfl⟩
        rw [hcs] at HW HStep HFit
        obtain ⟨bl, hbl⟩ : ∃ bl, ls[k] = bl := ⟨_, rfl⟩
        rw [hbl] at hc hs HStep
        have HB1 := HW.out.2.2
        have HCn := Lib.hid (Cnt_calls g cs 9 3 _ HW.out.1 HFit.out (by decide) (by decide))
        clear hcs hbl hlk HB1
        have d1 : ((k : Int) == 100) = false := by simp; omega
        obtain ⟨m, hm⟩ : ∃ m, bl.length = m := ⟨_, rfl⟩
        have hs0 := hs.2.2.1
        have hs1 := hs.2.2.2.1
        rw [hm] at hc hs0
        have HS := Lib.hid hs
        have HM := Lib.hid hm
        have HT : Hid (bl.length ≤ 60 → bl.take 60 = bl) := fun h => List.take_of_length_le h
        clear hs hm
        have hd : decide ((m : Int) > 60) = true ∨ decide ((m : Int) > 60) = false := by cases decide ((m : Int) > 60) <;> simp
        have HIn := Lib.hid (fun (w' : World) (hA : BlkB w' g 5 (pageB 9 3 cs)) (Ab : Option Addr) (m cb : Nat) (hs : SlB w' Ab m cb (bl.take 60)) => Ins_end g cs 9 3 Ab m cb (bl.take 60) w' hA HFit.out (by decide) (by decide) hs)
        rcases hd with hd | hd
        · have hm60 : 60 < m := by have := of_decide_eq_true hd; omega
          have e1 : (60 : Int) ≤ (ci : Int) := by omega
          go_wp2_with (first | (go_at_call 25; (with_reducible refine HCn.out.mono ?_); rintro e w2 ⟨rfl, m2, rfl⟩; refine park ?_; intro q hq))
          have hA2 := HW.out.1.below (kept_drewN wr m2)
          have hs2 : SlB (wr.drewN m2) Ai 60 ci (bl.take 60) := (HS.out.take60 (by rw [HM.out]; exact hm60)).below (kept_drewN wr m2)
          have HI2 := Lib.hid (HIn.out _ hA2 _ _ _ hs2)
          clear hA2 hs2
          refine hq.out ?_
          clear hq
          go_wp2_with (first | (go_at_call 26; (with_reducible refine HI2.out.mono ?_); rintro e w3 ⟨v, er, rfl, hb3, hor⟩; refine park ?_; intro q hq))
          have HB3 : Hid (Below w.heap.size w w3) := HW.out.2.2.trans (((kept_drewN wr m2).mono HW.out.2.2.size).trans (hb3.mono (Nat.le_trans HW.out.2.2.size (kept_drewN wr m2).size)))
          rcases hor with ⟨he, hadd, hA3⟩ | ⟨rfl, r', rfl, hA3, hlo2⟩
          · have d2 : (er == 0) = false := by simpa using he
            have HI4 : Hid (BlkB w3 g 5 (pageB 9 3 ((ls.take (k + 1)).foldl (fun cs b => addC cs (b.take 60)) [])) ∧ w.heap.size ≤ g ∧ Below w.heap.size w w3) := ⟨by rw [HStep.out, hadd]; exact hA3, HW.out.2.1, HB3.out⟩
            clear he hadd hA3 hb3
            refine hq.out ?_
            clear hq
            go_wp2_with fail
            go_roundw
            case rel => exact ⟨k + 1, g, by omega, by omega, by go_num, rfl, HI4⟩
            case measure => simp [intOf]; omega
          · have hr2 : Hid (w.heap.size ≤ r') := Nat.le_trans HW.out.2.2.size (Nat.le_trans (kept_drewN wr m2).size hlo2)
            have HI4 : Hid (BlkB w3 r' 5 (pageB 9 3 ((ls.take (k + 1)).foldl (fun cs b => addC cs (b.take 60)) [])) ∧ w.heap.size ≤ r' ∧ Below w.heap.size w w3) := ⟨by rw [HStep.out]; exact hA3, hr2.out, HB3.out⟩
            clear hA3 hb3 hlo2
            refine hq.out ?_
            clear hq
            go_wp2_with fail
            go_roundw
            case rel => exact ⟨k + 1, r', by omega, by omega, by go_num, rfl, HI4⟩
            case measure => simp [intOf]; omega
        · have hm60 : m ≤ 60 := by have := of_decide_eq_false hd; omega
          go_wp2_with (first | (go_at_call 25; (with_reducible refine HCn.out.mono ?_); rintro e w2 ⟨rfl, m2, rfl⟩; refine park ?_; intro q hq))
          have hA2 := HW.out.1.below (kept_drewN wr m2)
          have hs2 : SlB (wr.drewN m2) Ai m ci (bl.take 60) := by rw [HT.out (by rw [HM.out]; exact hm60), ← HM.out]; exact HS.out.below (kept_drewN wr m2)
          have HI2 := Lib.hid (HIn.out _ hA2 _ _ _ hs2)
          clear hA2 hs2
          refine hq.out ?_
          clear hq
          go_wp2_with (first | (go_at_call 26; (with_reducible refine HI2.out.mono ?_); rintro e w3 ⟨v, er, rfl, hb3, hor⟩; refine park ?_; intro q hq))
          have HB3 : Hid (Below w.heap.size w w3) := HW.out.2.2.trans (((kept_drewN wr m2).mono HW.out.2.2.size).trans (hb3.mono (Nat.le_trans HW.out.2.2.size (kept_drewN wr m2).size)))
          rcases hor with ⟨he, hadd, hA3⟩ | ⟨rfl, r', rfl, hA3, hlo2⟩
          · have d2 : (er == 0) = false := by simpa using he
            have HI4 : Hid (BlkB w3 g 5 (pageB 9 3 ((ls.take (k + 1)).foldl (fun cs b => addC cs (b.take 60)) [])) ∧ w.heap.size ≤ g ∧ Below w.heap.size w w3) := ⟨by rw [HStep.out, hadd]; exact hA3, HW.out.2.1, HB3.out⟩
            clear he hadd hA3 hb3
            refine hq.out ?_
            clear hq
            go_wp2_with fail
            go_roundw
            case rel => exact ⟨k + 1, g, by omega, by omega, by go_num, rfl, HI4⟩
            case measure => simp [intOf]; omega
          · have hr2 : Hid (w.heap.size ≤ r') := Nat.le_trans HW.out.2.2.size (Nat.le_trans (kept_drewN wr m2).size hlo2)
            have HI4 : Hid (BlkB w3 r' 5 (pageB 9 3 ((ls.take (k + 1)).foldl (fun cs b => addC cs (b.take 60)) [])) ∧ w.heap.size ≤ r' ∧ Below w.heap.size w w3) := ⟨by rw [HStep.out]; exact hA3, hr2.out, HB3.out⟩
            clear hA3 hb3 hlo2
            refine hq.out ?_
            clear hq
            go_wp2_with fail
            go_roundw
            case rel => exact ⟨k + 1, r', by omega, by omega, by go_num, rfl, HI4⟩
            case measure => simp [intOf]; omega
    · have hkn : k = n := by omega
      subst hkn
      have HF : Hid (madeC ls = (ls.take k).foldl (fun cs b => addC cs (b.take 60)) []) := by
        show _ = _
        unfold madeC
        rw [HN.out, List.take_of_length_le (by rw [← HN.out]; exact hk1), List.take_of_length_le (Nat.le_refl _)]
      go_wp2_with fail
      go_ret
      exact ⟨g, rfl, by rw [HF.out]; exact HW.out.1, HW.out.2⟩
end Go.Proofs.YtibhoekbjgoanaaDoor
