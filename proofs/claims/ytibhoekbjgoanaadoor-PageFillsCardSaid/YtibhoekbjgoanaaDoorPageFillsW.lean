/- The walk of PageFills; the document's Fill. -/
import Derived.Test.YtibhoekbjgoanaaDoorPageRB
import Derived.Test.YtibhoekbjgoanaaDoorPageU
set_option linter.unusedSimpArgs false
set_option linter.unusedVariables false
namespace Go.Proofs.YtibhoekbjgoanaaDoor
open Go.RowKit Go.Proofs.YtibhoekbjgoanaaDoor.Crc
theorem fillP_bad (no : Int) (k : UInt8) (ls : List (List UInt8)) (h : no < 0 ∨ 2147483647 < no ∨ k = 0) : fillP no k ls = ([], 2) := by unfold fillP; rw [if_pos h]
set_option maxHeartbeats 1000000 in
theorem refPFill_calls (no : Int) (k : UInt8) (A : Option Addr) (n c : Nat) (ls : List (List UInt8)) (w : World) (hn : n = ls.length) (hR : RowsB w A ls) (hs : 2 * ls.length + sizC ls ≤ 9223372036854775807) :
    Calls Tryd.prog 14 #[.int .i64 no, .int .u8 (k.toNat : Int), .slice A n c] w (RetBN w (fillP no k ls).1 (fillP no k ls).2) := by
  obtain ⟨k1, k2⟩ := ltu8 k
  by_cases hb : no < 0 ∨ 2147483647 < no ∨ k = 0
  · rw [fillP_bad no k ls hb]
    clear hR hn hs
    by_cases h1 : no < 0
    · have d1 : decide (no < 0) = true := by simpa using h1
      clear hb h1
      go_enter Tryd.func14, Tryd.ntmps14
      go_wp2_with fail
      go_ret2
      exact RetBN.mk (World.ownsRow_nil _ _ _ _) (Below.refl _ _)
    · have d1 : decide (no < 0) = false := by simpa using h1
      by_cases h2 : 2147483647 < no
      · have d2 : decide (no > 2147483647) = true := by simpa using h2
        clear hb h1 h2
        go_enter Tryd.func14, Tryd.ntmps14
        go_wp2_with fail
        go_ret2
        exact RetBN.mk (World.ownsRow_nil _ _ _ _) (Below.refl _ _)
      · have d2 : decide (no > 2147483647) = false := by simpa using h2
        have h3 : k = 0 := by
          rcases hb with h | h | h
          · exact absurd h h1
          · exact absurd h h2
          · exact h
        subst h3
        clear hb h1 h2
        go_enter Tryd.func14, Tryd.ntmps14
        go_wp2_with fail
        go_ret2
        exact RetBN.mk (World.ownsRow_nil _ _ _ _) (Below.refl _ _)
  · have h1 : 0 ≤ no := by omega
    have h2 : no ≤ 2147483647 := by omega
    have h3 : ¬ k = 0 := fun h => hb (.inr (.inr h))
    have e : fillP no k ls = if 2 * ls.length + sizC ls ≤ 244 then (pageB no.toNat k ls, 0) else ([], 32) := by unfold fillP; rw [if_neg hb]
    obtain ⟨m, rfl⟩ := Int.eq_ofNat_of_zero_le h1
    rw [Int.toNat_natCast] at e
    have d1 : decide ((m : Int) < 0) = false := by simp
    have d2 : decide ((m : Int) > 2147483647) = false := by simp; omega
    have d3 : ((k.toNat : Int) == 0) = false := by
      rw [beq_eq_false_iff_ne]; intro h; exact h3 (UInt8.toNat_inj.1 (by simpa using h))
    have HT := refTaken_calls A n c ls w hn hR hs
    have HBy := fun (hf : fitC ls) => refPBytes_calls m k A n c ls w (by omega) hn hR hf
    have E := Lib.hid e
    have HR := Lib.hid hR
    by_cases hbig : 244 < n
    · have d4 : decide ((n : Int) > 244) = true := by simp; omega
      have e2 : fillP (m : Int) k ls = ([], 32) := by rw [e, if_neg (by omega)]
      have E2 := Lib.hid e2
      clear e e2 hb h1 h2 h3 hn hR hs HT HBy hbig
      go_enter Tryd.func14, Tryd.ntmps14
      go_wp2_with fail
      go_ret2
      rw [E2.out]
      exact RetBN.mk (World.ownsRow_nil _ _ _ _) (Below.refl _ _)
    · have d4 : decide ((n : Int) > 244) = false := by simp; omega
      obtain ⟨T, hT⟩ : ∃ T, 2 * ls.length + sizC ls = T := ⟨_, rfl⟩
      rw [hT] at HT e
      have HHT := Lib.hid HT
      by_cases hfit : T ≤ 244
      · have d5 : decide ((T : Int) > 244) = false := by simp; omega
        have E2 : Hid (fillP (m : Int) k ls = (pageB m k ls, 0)) := by show _ = _; rw [e, if_pos hfit]
        have HB2 := Lib.hid (HBy (by unfold fitC; omega))
        clear e hb h1 h2 h3 hn hR hs HT HBy hbig hT hfit
        go_enter Tryd.func14, Tryd.ntmps14
        go_wp2_with (first | (go_at_call 36; (with_reducible refine HHT.out.mono ?_); rintro e w' ⟨rfl, rfl⟩) | (go_at_call 37; (with_reducible refine HB2.out.mono ?_); rintro e w2 ⟨A2, c2, rfl, hO2, hb2⟩))
        go_ret2
        rw [E2.out]
        exact RetBN.mk hO2 hb2
      · have d5 : decide ((T : Int) > 244) = true := by simp; omega
        have E2 : Hid (fillP (m : Int) k ls = ([], 32)) := by show _ = _; rw [e, if_neg hfit]
        clear e hb h1 h2 h3 hn hR hs HT HBy hbig hT hfit
        go_enter Tryd.func14, Tryd.ntmps14
        go_wp2_with (first | (go_at_call 36; (with_reducible refine HHT.out.mono ?_); rintro e w' ⟨rfl, rfl⟩))
        go_ret2
        rw [E2.out]
        exact RetBN.mk (World.ownsRow_nil _ _ _ _) (Below.refl _ _)
theorem sizC_bound (ls : List (List UInt8)) (h : ∀ (i : Nat) (hi : i < ls.length), ls[i].length ≤ 400) : sizC ls ≤ 400 * ls.length := by
  induction ls with
  | nil => simp [sizC_nil]
  | cons x ls ih =>
    have h0 := h 0 (by simp)
    have := ih (fun i hi => h (i + 1) (by simpa using hi))
    rw [sizC_cons, List.length_cons]
    simp at h0
    omega
/-- What New tells, in memory of its own. -/
theorem NewP_calls (no : Int) (k : UInt8) (w : World) (hno : -9223372036854775808 ≤ no ∧ no ≤ 9223372036854775807) :
    Calls Tryd.prog 15 #[.int .i64 no, .int .u8 (k.toNat : Int)] w (RetBN w (fillP no k []).1 (fillP no k []).2) := by
  by_cases hb : no < 0 ∨ 2147483647 < no ∨ k = 0
  · rw [fillP_bad no k [] hb]
    refine (New_bad no k w hb).mono ?_
    rintro e w' ⟨rfl, rfl⟩
    exact RetBN.mk (World.ownsRow_nil _ _ _ _) (Below.refl _ _)
  · have h1 : 0 ≤ no := by omega
    have h2 : no ≤ 2147483647 := by omega
    have h3 : ¬ k = 0 := fun h => hb (.inr (.inr h))
    obtain ⟨m, rfl⟩ := Int.eq_ofNat_of_zero_le h1
    have e : fillP (m : Int) k [] = (pageB m k [], 0) := by unfold fillP; rw [if_neg hb, if_pos (by decide)]; rfl
    rw [e]
    refine (New_calls m k w (by omega) h3).mono ?_
    rintro e w' ⟨r, rfl, hr, hA, hb'⟩
    rw [newB_page] at hA
    exact RetBN.mk (OwnB.of_blk hA (pageB_length _ _ _ fit_nil) hr) hb'
attribute [local irreducible] fillP
set_option maxHeartbeats 1000000 in
set_option maxRecDepth 100000 in
theorem pageFills_row (no : Int) (k : UInt8) (A : Option Addr) (c : Nat) (ls : List (List UInt8)) (w : World) {X : Prop} (_hx : X) (_g : -9223372036854775808 ≤ no ∧ no ≤ 9223372036854775807) (hb : RowsB w A ls) (hnil : A = none → c = 0) (hc : ls.length ≤ c) (hl : ls.length ≤ 9223372036854775807) :
    Calls Tryd.prog 3 #[.int .i64 no, .int .u8 (k.toNat : Int), .slice A ls.length c] w fun e w' => e = .returned (.bool true) ∧ Below w.heap.size w w' := by
  have HB := Lib.hid hb
  have HG := Lib.hid _g
  obtain ⟨n, hn⟩ : ∃ n, ls.length = n := ⟨_, rfl⟩
  have HN := Lib.hid hn
  rw [hn] at hl ⊢
  clear hb hnil hc hn _g
  by_cases hbig : 300 < n
  · have d1 : decide ((n : Int) > 300) = true := by simp; omega
    clear hbig
    go_enter Tryd.func3, Tryd.ntmps3
    go_wp2_with fail
    go_ret
    exact ⟨rfl, Below.refl _ _⟩
  · have d1 : decide ((n : Int) > 300) = false := by simp; omega
    have HI : Hid (∀ (i : Nat) (hi : i < ls.length), i < 0 → ls[i].length ≤ 400) := fun i hi h => absurd h (by omega)
    go_enter Tryd.func3, Tryd.ntmps3
    go_wp2_with fail
    go_loop [22] (fun i => ∃ t : Nat, t ≤ n ∧ i = .int .i64 (t : Int) ∧ Hid (∀ (i : Nat) (hi : i < ls.length), i < t → ls[i].length ≤ 400)) (fun i => n - (intOf i).toNat)
    case atStart => exact ⟨0, Nat.zero_le _, rfl, HI⟩
    case round =>
      obtain ⟨t, ht, rfl, HT⟩ := hrel
      by_cases hlt : t < n
      · obtain ⟨b, o, rfl⟩ := HB.out.spot (by rw [HN.out]; omega)
        have htl : t < ls.length := by rw [HN.out]; exact hlt
        obtain ⟨Ai, ci, hci, hs⟩ := HB.out.at t htl
        obtain ⟨m, hm⟩ : ∃ m, ls[t].length = m := ⟨_, rfl⟩
        have hsm := hs.2.2.2.1
        rw [hm] at hci hsm
        by_cases h4 : 400 < m
        · have d2 : decide ((m : Int) > 400) = true := by simp; omega
          clear hs hm h4
          go_wp2_with fail
          go_ret
          exact ⟨rfl, Below.refl _ _⟩
        · have d2 : decide ((m : Int) > 400) = false := by simp; omega
          have HT2 : Hid (∀ (i : Nat) (hi : i < ls.length), i < t + 1 → ls[i].length ≤ 400) := fun i hi h => by
            by_cases hit : i = t
            · subst hit; omega
            · exact HT.out i hi (by omega)
          clear hs hm h4 htl
          go_wp2_with fail
          go_round
          case rel => exact ⟨t + 1, by omega, by go_num, HT2⟩
          case measure => simp [intOf]; omega
      · have hsz := sizC_bound ls (fun i hi => HT.out i hi (by rw [HN.out] at hi; omega))
        rw [HN.out] at hsz
        have hbd : 2 * ls.length + sizC ls ≤ 9223372036854775807 := by rw [HN.out]; omega
        have hf1 := Fill_calls no k A n c ls w HN.out.symm HB.out hl
        have HF1 := Lib.hid hf1
        have HF2 := Lib.hid (fun (w' : World) (h : Below w.heap.size w w') => refPFill_calls no k A n c ls w' HN.out.symm (HB.out.below h) hbd)
        have HF3 := Lib.hid (fun (w' : World) => NewP_calls no k w' HG.out)
        have hf4 := fun (w' : World) => refPFill_calls no k none 0 0 [] w' rfl (RowsB.nilR _ _) (by decide)
        have HF4 := Lib.hid hf4
        clear hf1 hf4 hsz hbd
        obtain ⟨P, hP⟩ : ∃ P, fillP no k ls = P := ⟨_, rfl⟩
        obtain ⟨Q, hQ⟩ : ∃ Q, fillP no k [] = Q := ⟨_, rfl⟩
        rw [hP] at HF1 HF2
        rw [hQ] at HF3 HF4
        clear hP hQ
        go_wp2_with (first | (go_at_call 13; (with_reducible refine HF1.out.mono ?_); rintro e w1 ⟨A1, c1, rfl, hO1, hb1⟩; refine park ?_; intro q hq))
        have HB1 := Lib.hid hb1
        have HO1 := Lib.hid hO1
        have HF2a := Lib.hid (HF2.out w1 hb1)
        clear hb1 hO1 HF2 HF1
        refine hq.out ?_
        clear hq
        go_wp2_with (first | (go_at_call 14; (with_reducible refine HF2a.out.mono ?_); rintro e w2 ⟨A2, c2, rfl, hO2, hb2⟩; refine park ?_; intro q hq))
        have HB2 : Hid (Below w.heap.size w w2) := HB1.out.trans (hb2.mono HB1.out.size)
        have HO12 := Lib.hid (HO1.out.below hb2)
        have HO2 := Lib.hid hO2
        clear hb2 hO2 HF2a HO1 HB1
        refine hq.out ?_
        clear hq
        go_wp2_with (first | (go_at_call 15; (with_reducible refine (HF3.out _).mono ?_); rintro e w3 ⟨A3, c3, rfl, hO3, hb3⟩; refine park ?_; intro q hq))
        have HB3 : Hid (Below w.heap.size w w3) := HB2.out.trans (hb3.mono HB2.out.size)
        have HO13 := Lib.hid (HO12.out.below hb3)
        have HO23 := Lib.hid (HO2.out.below hb3)
        have HO3 := Lib.hid hO3
        clear hb3 hO3 HO12 HO2 HB2
        refine hq.out ?_
        clear hq
        go_wp2_with (first | (go_at_call 14; (with_reducible refine (HF4.out _).mono ?_); rintro e w4 ⟨A4, c4, rfl, hO4, hb4⟩; refine park ?_; intro q hq))
        have HB4 : Hid (Below w.heap.size w w4) := HB3.out.trans (hb4.mono HB3.out.size)
        have s1 := run_str (c := c1) rfl (HO13.out.below hb4).bytes
        have s2 := run_str (c := c2) rfl (HO23.out.below hb4).bytes
        have s3 := run_str (c := c3) rfl (HO3.out.below hb4).bytes
        have s4 := run_str (c := c4) rfl hO4.bytes
        have HWk := Lib.hid (works9_calls w4)
        clear hb4 hO4 HO13 HO23 HO3 HB3
        refine hq.out ?_
        clear hq
        go_wp2_with (first | (go_at_call 16; (with_reducible refine HWk.out.mono ?_); rintro e w5 ⟨rfl, hb5⟩))
        go_ret
        exact ⟨rfl, HB4.out.trans (hb5.mono HB4.out.size)⟩
end Go.Proofs.YtibhoekbjgoanaaDoor
