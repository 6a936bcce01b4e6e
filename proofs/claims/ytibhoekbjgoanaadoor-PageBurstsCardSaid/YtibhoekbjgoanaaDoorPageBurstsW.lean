/- The walk of PageBursts. -/
import Derived.Test.YtibhoekbjgoanaaDoorPageU
set_option linter.unusedSimpArgs false
set_option linter.unusedVariables false
namespace Go.Proofs.YtibhoekbjgoanaaDoor
open Go.RowKit Go.Proofs.YtibhoekbjgoanaaDoor.Crc
theorem bit8_nat : ∀ r, r < 8 → (2 : Int) ^ r % (256 : Int) = ((bit8 r).toNat : Int) := by decide
theorem xor_bit8 (b : UInt8) (r : Nat) (hr : r < 8) : bits .xor .u8 (b.toNat : Int) ((2 : Int) ^ r % (256 : Int)) = ((b ^^^ bit8 r).toNat : Int) := by
  rw [bit8_nat r hr, u8_xor_nat _ _ b.toNat_lt (bit8 r).toNat_lt, UInt8.toNat_xor]
theorem bst_yes {bits : BitVec 32} {k N j : Nat} {l : List UInt8} (h : bits.getLsbD j = true) (hk : k + j < N) : bst bits k N (j + 1) l = Crc.flip (bst bits k N j l) (k + j) ∧ turned bits k N (j + 1) = true := by
  have hc : (bits.getLsbD j && decide (k + j < N)) = true := by simp [h, hk]
  exact ⟨by rw [bst, if_pos hc], by rw [turned, hc]; simp⟩
theorem bst_not {bits : BitVec 32} {k N j : Nat} {l : List UInt8} (h : bits.getLsbD j = false) : bst bits k N (j + 1) l = bst bits k N j l ∧ turned bits k N (j + 1) = turned bits k N j := by
  exact ⟨by rw [bst, h]; simp, by rw [turned, h]; simp⟩
attribute [local irreducible] bst turned sealB bodyB pageB
set_option maxHeartbeats 400000 in
set_option maxRecDepth 100000 in
theorem pageBursts_row (A : Option Addr) (c : Nat) (ls : List (List UInt8)) (at_ : Int) (bits_ : BitVec 32) (w : World) (hh : HalfIs w) (hb : RowsB w A ls) (_hnil : A = none → c = 0) (_hc : ls.length ≤ c) (hl : ls.length ≤ 9223372036854775807) (_g : -9223372036854775808 ≤ at_ ∧ at_ ≤ 9223372036854775807) :
    Calls Tryd.prog 11 #[.slice A ls.length c, .int .i64 at_, .int .u32 (n32 bits_)] w fun e w' => e = .returned (.bool true) ∧ Below w.heap.size w w' := by
  have HH := Lib.hid hh
  have HB := Lib.hid hb
  clear hh hb _hnil _hc _g
  have HWk := Lib.hid (works9_calls w)
  obtain ⟨k, hk, e⟩ := mod_pick at_ 2048 (by omega)
  have e' : (IntKind.u64.wrap at_).tmod (2048 : Int) = (k : Int) := e
  have ew : IntKind.i64.wrap (k : Int) = (k : Int) := IntWalk.i64_in _ (by omega)
  have hk4 : k ≤ 4000 := by omega
  have HK := Lib.hid hk
  have HHl := Lib.hid hl
  clear hk
  clear e hl
  go_enter Tryd.func11, Tryd.ntmps11
  go_wp2_with (go_at_call 16; refine HWk.out.mono ?_; rintro e w1 ⟨rfl, hb1⟩; refine park ?_; intro q hq)
  have HB1 := Lib.hid hb1
  clear hb1 HWk
  refine hq.out ?_
  clear hq
  have HMd := Lib.hid (made_calls A ls.length c ls w1 rfl (HB.out.below HB1.out) HHl.out)
  go_wp2_with (go_at_call 24; refine HMd.out.mono ?_; rintro e w2 ⟨r, rfl, hA2, hr2, hb2⟩; refine park ?_; intro q hq)
  have HF := Lib.hid (madeC_fit ls)
  obtain ⟨cs, hcs⟩ : ∃ cs, madeC ls = cs := ⟨_, rfl⟩
  rw [hcs] at hA2 HF
  have HB2 : Hid (Below w.heap.size w w2) := HB1.out.trans (hb2.mono HB1.out.size)
  have hse := SealP_calls (some ⟨r, 0, none⟩) 256 256 (pageB 9 3 cs) w2 (HH.out.below HB2.out) (pageB_length _ _ _ HF.out).symm hA2.bytes (Nat.le_refl _) (by decide) (by decide)
  rw [seal_page 9 3 cs HF.out (by decide) (by decide)] at hse
  have HSe := Lib.hid hse
  clear HMd hcs hA2 hr2 hb2 hse HB1
  refine hq.out ?_
  clear hq
  go_wp2_with (go_at_call 32; refine HSe.out.mono ?_; rintro e w3 ⟨A2, c2, rfl, hown, hb3⟩; refine park ?_; intro q hq)
  clear HSe
  refine hq.out ?_
  clear hq
  have HL : Hid ((sealB (bodyB 9 3 cs)).length = 256) := by show _ = _; rw [sealB_length, bodyB_length _ _ _ HF.out]
  obtain ⟨N, hN⟩ : ∃ N, 2048 = N := ⟨_, rfl⟩
  have hBS := fun j hj => burst_page cs HF.out bits_ k j hj
  rw [hN] at hBS
  have HNn := Lib.hid hN
  clear hN
  have HBS := Lib.hid hBS
  clear hBS
  have hlen : (sealB (bodyB 9 3 cs)).length = 256 := HL.out
  rw [hlen] at hown ⊢
  obtain ⟨g, hA, hcap⟩ : ∃ g, A2 = some ⟨g, 0, none⟩ ∧ 256 ≤ c2 := by
    rcases hown.form with ⟨h, h2⟩ | ⟨g, c', h, _, _, h3⟩
    · rw [h2] at hlen; cases hlen
    · injection h with h1 h2 h4; subst h4; rw [hlen] at h3; exact ⟨g, h1, h3⟩
  subst hA
  have hmax : c2 ≤ 9223372036854775807 := by
    rcases hown.2 with ⟨h, _⟩ | ⟨g, cap, cur, h, _, _, _, h5, _⟩
    · cases h
    · injection h with h1 h2 h3; subst h3; unfold maxLen at h5; omega
  have HG := Lib.hid (hown.lt g rfl).1
  have HO := Lib.hid hown
  have HB3 := Lib.hid hb3
  clear hown hb3 hlen
  go_wp2_with fail
  go_loopw [10, 11] (fun t i wr => ∃ j : Nat, j ≤ 32 ∧ i = .int .i64 j ∧ t = .bool (turned bits_ k N j) ∧ Hid (OwnB wr w2.heap.size (.slice (some ⟨g, 0, none⟩) 256 c2) (bst bits_ k N j (sealB (bodyB 9 3 cs))) ∧ Below w2.heap.size w2 wr)) (fun _ i _ => 32 - (intOf i).toNat)
  case atStart => exact ⟨0, by decide, rfl, by rw [turned], by rw [bst]; exact HO.out, HB3.out⟩
  case round =>
    obtain ⟨j, hj, rfl, rfl, HR⟩ := hrel
    clear e' ew
    by_cases hlt : j < 32 ∧ k + j < 2048
    · obtain ⟨hj1, hj2⟩ := hlt
      have q1 : decide ((k : Int) + (j : Int) < 2048) = true := by simp; omega
      have q3 : ((k : Int) + (j : Int)) / 8 < 256 := by omega
      have q4 : 0 ≤ ((k : Int) + (j : Int)) / 8 := by omega
      have q2 := bit32 bits_ j
      have HJ2 := Lib.hid hj2
      have hlen : (bst bits_ k N j (sealB (bodyB 9 3 cs))).length = 256 := by rw [bst_length, HL.out]
      have hc := HR.out.1.cells ((k + j) / 8) (by rw [hlen]; omega)
      clear hlen hj2
      obtain ⟨hc1, hc2⟩ := hc
      cases hbit : bits_.getLsbD j
      · rw [hbit] at q2
        have HE := Lib.hid (bst_not (k := k) (N := N) (l := sealB (bodyB 9 3 cs)) hbit)
        clear hbit hc1 hc2
        go_wp2_with fail
        refine ⟨⟨j + 1, by omega, by go_num, by rw [HE.out.2], ?_⟩, by simp [intOf]; omega⟩
        rw [HE.out.1]
        exact HR
      · rw [hbit] at q2
        have HE := Lib.hid (bst_yes (k := k) (N := N) (l := sealB (bodyB 9 3 cs)) hbit (by rw [← HNn.out]; exact HJ2.out))
        have HX := Lib.hid (xor_bit8 (at8 (bst bits_ k N j (sealB (bodyB 9 3 cs))) ((k + j) / 8)) ((k + j) % 8) (by omega))
        clear hbit
        go_wp2_with fail
        refine ⟨⟨j + 1, by omega, by go_num, by rw [HE.out.2], ?_⟩, by simp [intOf]; omega⟩
        rw [HE.out.1, HX.out]
        exact ⟨HR.out.1.set _ _, HR.out.2.setCell HG.out _⟩
    · have HOP := Lib.hid (HBS.out j hj)
      have HLN : Hid (256 = (bst bits_ k N j (sealB (bodyB 9 3 cs))).length) := by show _ = _; rw [bst_length, HL.out]
      generalize bst bits_ k N j (sealB (bodyB 9 3 cs)) = m at *
      generalize turned bits_ k N j = tt at *
      have HXr := Lib.hid (HB2.out.trans (HR.out.2.mono HB2.out.size))
      have HHr := Lib.hid (HH.out.below HXr.out)
      have hop := OpenP_calls (some ⟨g, 0, none⟩) 256 c2 m 9 wr HHr.out HLN.out HR.out.1.bytes hcap hmax (by decide)
      have exits : (¬ j < 32) ∨ (j < 32 ∧ ¬ k + j < 2048) := by omega
      cases tt
      · have ho := HOP.out.1 rfl
        rw [ho] at hop
        have HOp := Lib.hid hop
        clear hop ho
        rcases exits with h32 | ⟨h32, hk8⟩
        all_goals
          try (have q1 : decide ((k : Int) + (j : Int) < 2048) = false := by (simp; omega))
          go_wp2_with (go_at_call 34; refine HOp.out.mono ?_; rintro e w5 ⟨A5, c5, rfl, hown5, hb5⟩; refine park ?_; intro q hq)
          have HB5 := Lib.hid hb5
          clear hown5 hb5 HOp
          refine hq.out ?_
          clear hq
          go_wp2_with fail
          go_ret
          exact ⟨rfl, HXr.out.trans (HB5.out.mono HXr.out.size)⟩
      · have ho := HOP.out.2 rfl
        rw [ho] at hop
        have HOp := Lib.hid hop
        clear hop ho
        rcases exits with h32 | ⟨h32, hk8⟩
        all_goals
          try (have q1 : decide ((k : Int) + (j : Int) < 2048) = false := by (simp; omega))
          go_wp2_with (go_at_call 34; refine HOp.out.mono ?_; rintro e w5 ⟨A5, c5, rfl, hown5, hb5⟩; refine park ?_; intro q hq)
          have HB5 := Lib.hid hb5
          clear hown5 hb5 HOp
          refine hq.out ?_
          clear hq
          go_wp2_with fail
          go_ret
          exact ⟨rfl, HXr.out.trans (HB5.out.mono HXr.out.size)⟩
end Go.Proofs.YtibhoekbjgoanaaDoor
