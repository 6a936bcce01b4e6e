/- The walk of CrcBursts. -/
import Derived.Test.YtgodnmlggomaaaaDoorCrcBurst
import Derived.Test.YtgodnmlggomaaaaDoorCrcLaw
namespace Go.Proofs.YtgodnmlggomaaaaDoor.Crc
open Go.RowKit Go.Proofs.YtgodnmlggomaaaaDoor
set_option linter.unusedSimpArgs false
set_option linter.unusedVariables false

theorem Open_calls' (A : Option Addr) (c n : Nat) (l : List UInt8) (w : World) (hn : n = l.length) (hh : HalfIs w) (hb : Bytes w A l) (hnil : A = none → c = 0) (hc : n ≤ c) (hl : n ≤ 140737488355328) (o : List UInt8 × Int) (ho : openB l = o) :
    Calls Tryd.prog 18 #[.slice A n c] w (RetBN w o.1 o.2) := by
  subst hn
  subst ho
  exact Open_calls A c l w hh hb hnil hc hl
theorem bit8_nat : ∀ r, r < 8 → (2 : Int) ^ r % (256 : Int) = ((bit8 r).toNat : Int) := by decide
theorem xor_bit8 (b : UInt8) (r : Nat) (hr : r < 8) : bits .xor .u8 (b.toNat : Int) ((2 : Int) ^ r % (256 : Int)) = ((b ^^^ bit8 r).toNat : Int) := by
  rw [bit8_nat r hr, u8_xor_nat _ _ b.toNat_lt (bit8 r).toNat_lt, UInt8.toNat_xor]
theorem bst_yes {bits : BitVec 32} {k N j : Nat} {l : List UInt8} (h : bits.getLsbD j = true) (hk : k + j < N) : bst bits k N (j + 1) l = flip (bst bits k N j l) (k + j) ∧ turned bits k N (j + 1) = true := by
  have hc : (bits.getLsbD j && decide (k + j < N)) = true := by simp [h, hk]
  exact ⟨by rw [bst, if_pos hc], by rw [turned, hc]; simp⟩
theorem bst_not {bits : BitVec 32} {k N j : Nat} {l : List UInt8} (h : bits.getLsbD j = false) : bst bits k N (j + 1) l = bst bits k N j l ∧ turned bits k N (j + 1) = turned bits k N j := by
  exact ⟨by rw [bst, h]; simp, by rw [turned, h]; simp⟩

set_option maxHeartbeats 2000000 in
set_option maxRecDepth 100000 in
theorem CrcBursts_walk (A : Option Addr) (c : Nat) (l : List UInt8) (at_ : Int) (bits_ : BitVec 32) (w : World) (hh : HalfIs w) (hb : Bytes w A l) (hnil : A = none → c = 0) (hc : l.length ≤ c) (hl : l.length ≤ 140737488351232) (_g : -9223372036854775808 ≤ at_ ∧ at_ ≤ 9223372036854775807) :
    Calls Tryd.prog 8 #[.slice A l.length c, .int .i64 at_, .int .u32 (n32 bits_)] w fun e w' => e = .returned (.bool true) ∧ Below w.heap.size w w' := by
  have HH := Lib.hid hh
  have HB := Lib.hid hb
  have HN := Lib.hid hnil
  have HC := Lib.hid hc
  clear hh hb hnil hc _g
  go_enter Tryd.func8, Tryd.ntmps8
  by_cases hbig : 2000 < l.length
  · go_wp2_with (go_at_call 12; refine (works_calls _ HH.out).mono ?_; rintro e w1 ⟨rfl, hb1⟩)
    go_ret
    exact ⟨rfl, hb1⟩
  · have hs : l.length ≤ 2000 := by omega
    obtain ⟨k, hk, e⟩ := mod_pick at_ (8 * (l.length + 4)) (by omega)
    have e' : (IntKind.u64.wrap at_).tmod (8 * ((l.length : Int) + 4)) = (k : Int) := e
    clear e
    go_wp2_with (first | (go_at_call 12; refine (works_calls _ HH.out).mono ?_; rintro e w1 ⟨rfl, hb1⟩; have HB1 := Lib.hid hb1; clear hb1) | (go_at_call 17; refine (Seal_calls A c l _ (HH.out.below HB1.out) (HB.out.below HB1.out) HN.out (by omega)).mono ?_; rintro e w2 hret; refine park ?_; intro q hq))
    obtain ⟨A2, c2, he, hown, hb2⟩ := hret
    rw [sealB_length] at he hown
    subst he
    obtain ⟨g, hA⟩ : ∃ g, A2 = some ⟨g, 0, none⟩ := by
      rcases hown.form with ⟨h, _⟩ | ⟨g, c', h, _⟩
      · injection h with h _ _; omega
      · injection h with h; exact ⟨g, h⟩
    subst hA
    have hg := (hown.lt g rfl).1
    have HO := Lib.hid hown
    have HB2 := Lib.hid hb2
    have HG := Lib.hid hg
    clear hown hb2 hg
    refine hq.out ?_
    clear hq
    have HN8 : Hid (8 * (sealB l).length = 8 * (l.length + 4)) := by show _ = _; rw [sealB_length]
    go_wp2
    go_loopw [9, 10] (fun t i wr => ∃ j : Nat, j ≤ 32 ∧ i = .int .i64 j ∧ t = .bool (turned bits_ k (8 * (sealB l).length) j) ∧ Hid (OwnB wr w1.heap.size (.slice (some ⟨g, 0, none⟩) (l.length + 4) c2) (bst bits_ k (8 * (sealB l).length) j (sealB l)) ∧ Below w1.heap.size w1 wr)) (fun _ i _ => 32 - (intOf i).toNat)
    case atStart => exact ⟨0, by decide, rfl, rfl, HO.out, HB2.out⟩
    case round =>
      obtain ⟨j, hj, rfl, rfl, HR⟩ := hrel
      by_cases hlt : j < 32 ∧ k + j < 8 * (l.length + 4)
      · obtain ⟨hj1, hj2⟩ := hlt
        have q1 : (k : Int) + (j : Int) < 8 * ((l.length : Int) + 4) := by omega
        have q2 := bit32 bits_ j
        have hlen : (bst bits_ k (8 * (sealB l).length) j (sealB l)).length = l.length + 4 := by rw [bst_length, sealB_length]
        have hc := HR.out.1.cells ((k + j) / 8) (by rw [hlen]; omega)
        clear hlen
        obtain ⟨hc1, hc2⟩ := hc
        cases hbit : bits_.getLsbD j
        · rw [hbit] at q2
          have HE := Lib.hid (bst_not (k := k) (N := 8 * (sealB l).length) (l := sealB l) hbit)
          clear hbit hc1 hc2
          go_wp2
          refine ⟨⟨j + 1, by omega, by go_num, by rw [HE.out.2], ?_⟩, by simp [intOf]; omega⟩
          rw [HE.out.1]
          exact HR
        · rw [hbit] at q2
          have HE := Lib.hid (bst_yes (k := k) (N := 8 * (sealB l).length) (l := sealB l) hbit (by rw [sealB_length]; exact hj2))
          have HX := Lib.hid (xor_bit8 (at8 (bst bits_ k (8 * (sealB l).length) j (sealB l)) ((k + j) / 8)) ((k + j) % 8) (by omega))
          clear hbit
          go_wp2
          refine ⟨⟨j + 1, by omega, by go_num, by rw [HE.out.2], ?_⟩, by simp [intOf]; omega⟩
          rw [HE.out.1, HX.out]
          exact ⟨HR.out.1.set _ _, HR.out.2.setCell HG.out _⟩
      · have hgc := HO.out.form
        have hcap : l.length + 4 ≤ c2 := by
          rcases hgc with ⟨h, _⟩ | ⟨g', c', h, _, _, h3⟩
          · injection h with h; cases h
          · injection h with _ _ h; subst h; rw [sealB_length] at h3; exact h3
        clear hgc
        have HOP := Lib.hid (burst_open l bits_ k j hj)
        have HLN : Hid (l.length + 4 = (bst bits_ k (8 * (sealB l).length) j (sealB l)).length) := by show _ = _; rw [bst_length, sealB_length]
        generalize bst bits_ k (8 * (sealB l).length) j (sealB l) = m at *
        generalize turned bits_ k (8 * (sealB l).length) j = tt at *
        have HHr := Lib.hid (HH.out.below (HB1.out.trans (HR.out.2.mono HB1.out.size)))
        have HBr := Lib.hid (HB.out.below (HB1.out.trans (HR.out.2.mono HB1.out.size)))
        have HXr := Lib.hid (HB1.out.trans (HR.out.2.mono HB1.out.size))
        have exits : (¬ j < 32) ∨ (j < 32 ∧ ¬ k + j < 8 * (l.length + 4)) := by omega
        cases tt
        · simp only [Bool.false_eq_true, if_false] at HOP
          rcases exits with h32 | ⟨h32, hk8⟩
          all_goals
            try have q1 : ¬ ((k : Int) + (j : Int) < 8 * ((l.length : Int) + 4)) := by omega
            go_wp2_with (go_at_call 18; refine (Open_calls' _ c2 _ m _ HLN.out HHr.out HR.out.1.bytes (fun h => by cases h) hcap (by omega) _ HOP.out).mono ?_; rintro e w5 hret; refine park ?_; intro q hq)
            obtain ⟨A5, c5, rfl, hown5, hb5⟩ := hret
            have hs1 := run_str (c := c5) rfl hown5.bytes
            have hs2 := run_str (c := c) rfl (HBr.out.below hb5)
            have HB5 := Lib.hid hb5
            clear hown5 hb5
            refine hq.out ?_
            clear hq
            go_wp2
            go_ret
            exact ⟨rfl, HXr.out.trans (HB5.out.mono HXr.out.size)⟩
        · simp only [if_true] at HOP
          rcases exits with h32 | ⟨h32, hk8⟩
          all_goals
            try have q1 : ¬ ((k : Int) + (j : Int) < 8 * ((l.length : Int) + 4)) := by omega
            go_wp2_with (go_at_call 18; refine (Open_calls' _ c2 _ m _ HLN.out HHr.out HR.out.1.bytes (fun h => by cases h) hcap (by omega) _ HOP.out).mono ?_; rintro e w5 hret; refine park ?_; intro q hq)
            obtain ⟨A5, c5, rfl, hown5, hb5⟩ := hret
            have HB5 := Lib.hid hb5
            clear hown5 hb5
            refine hq.out ?_
            clear hq
            go_wp2
            go_ret
            exact ⟨rfl, HXr.out.trans (HB5.out.mono HXr.out.size)⟩
end Go.Proofs.YtgodnmlggomaaaaDoor.Crc
