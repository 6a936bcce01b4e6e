/- The walk of StampBursts. -/
import Derived.Test.YtibhoekbjgoanaaDoorStampL
import Derived.Test.YtibhoekbjgoanaaDoorCrcB
set_option linter.unusedSimpArgs false
set_option linter.unusedVariables false
namespace Go.Proofs.YtibhoekbjgoanaaDoor
open Go.RowKit Go.Proofs.YtibhoekbjgoanaaDoor.Crc
theorem bit8_nat : ∀ r, r < 8 → (2 : Int) ^ r % (256 : Int) = ((bit8 r).toNat : Int) := by decide
theorem xor_bit8 (b : UInt8) (r : Nat) (hr : r < 8) : bits .xor .u8 (b.toNat : Int) ((2 : Int) ^ r % (256 : Int)) = ((b ^^^ bit8 r).toNat : Int) := by
  rw [bit8_nat r hr, u8_xor_nat _ _ b.toNat_lt (bit8 r).toNat_lt, UInt8.toNat_xor]
theorem bst_yes {bits : BitVec 32} {k N j : Nat} {l : List UInt8} (h : bits.getLsbD j = true) (hk : k + j < N) : bst bits k N (j + 1) l = Crc.flip (bst bits k N j l) (k + j) ∧ turned bits k N (j + 1) = true := by
  have hc : (bits.getLsbD j && decide (k + j < N)) = true := by simp [h, hk]
  exact ⟨by rw [bst, if_pos hc], by rw [turned, hc]; simp⟩
theorem bst_not {bits : BitVec 32} {k N j : Nat} {l : List UInt8} (h : bits.getLsbD j = false) : bst bits k N (j + 1) l = bst bits k N j l ∧ turned bits k N (j + 1) = turned bits k N j := by
  exact ⟨by rw [bst, h]; simp, by rw [turned, h]; simp⟩
theorem at8_left (x y : List UInt8) (i : Nat) (h : i < x.length) : at8 (x ++ y) i = at8 x i := by
  unfold at8; rw [List.getD_eq_getElem?_getD, List.getElem?_append_left h, ← List.getD_eq_getElem?_getD]
theorem flip_append (x y : List UInt8) (i : Nat) (h : i < 8 * x.length) : Crc.flip (x ++ y) i = Crc.flip x i ++ y := by
  unfold Crc.flip
  rw [at8_left x y _ (by omega), List.set_append_left _ _ (by omega)]
theorem bst_append (bits : BitVec 32) (k N : Nat) (x y : List UInt8) (h : N ≤ 8 * x.length) : ∀ j, bst bits k N j (x ++ y) = bst bits k N j x ++ y
  | 0 => rfl
  | j + 1 => by
    rw [bst, bst_append bits k N x y h j, bst]
    split
    · next hc =>
      have hk : k + j < N := by simp at hc; exact hc.2
      rw [flip_append _ _ _ (by rw [bst_length]; omega)]
    · rfl
theorem openS_bad (l : List UInt8) (hl : l.length = 256) (h : (openB (l.take 248)).2 = 20) : ∃ e : Int, e ≠ 0 ∧ openS l = (0, 0, [], e) := by
  unfold openS
  rw [if_neg (by simpa using hl)]
  split
  · exact ⟨40, by decide, rfl⟩
  · split
    · exact ⟨23, by decide, rfl⟩
    · rw [if_pos (by rw [h]; decide), h]
      exact ⟨20, by decide, rfl⟩
/-- What is told of a burst in a sector. -/
theorem burst_sector (st : Nat) (b : List UInt8) (bits : BitVec 32) (k j : Nat) (hj : j ≤ 32) (h0 : st ≠ 0) (h1 : st < 18446744073709551616) (hb : b.length ≤ 233) :
    (turned bits k 1984 j = false → openS (bst bits k 1984 j (wrapB st 7 b)) = (st, 7, b, 0)) ∧ (turned bits k 1984 j = true → ∃ e : Int, e ≠ 0 ∧ openS (bst bits k 1984 j (wrapB st 7 b)) = (0, 0, [], e)) := by
  have hs : (sealB (headB st 7 b)).length = 248 := by rw [sealB_length, headB_length st 7 b (by omega)]
  have ho := burst_open (headB st 7 b) bits k j hj
  rw [hs, show 8 * 248 = 1984 from rfl] at ho
  constructor
  · intro ht
    rw [bst_still _ _ _ _ _ ht]
    exact open_wrap st 7 b h0 h1 (by decide) hb
  · intro ht
    refine openS_bad _ (by rw [bst_length, wrapB_length st 7 b (by omega)]) ?_
    have e : (bst bits k 1984 j (wrapB st 7 b)).take 248 = bst bits k 1984 j (sealB (headB st 7 b)) := by
      unfold wrapB
      rw [bst_append _ _ _ _ _ (by rw [hs]; decide), List.take_append_of_le_length (by rw [bst_length, hs]; exact Nat.le_refl _), List.take_of_length_le (by rw [bst_length, hs]; exact Nat.le_refl _)]
    rw [e, ho, ht]; rfl
attribute [local irreducible] bst turned wrapB
set_option maxHeartbeats 400000 in
set_option maxRecDepth 100000 in
theorem stampBursts_row (st0 : Int) (A : Option Addr) (c : Nat) (l : List UInt8) (at_ : Int) (bits_ : BitVec 32) (w : World) (hh : HalfIs w) (hst : 0 ≤ st0 ∧ st0 ≤ 18446744073709551615) (hb : Bytes w A l) (hnil : A = none → c = 0) (hc : l.length ≤ c) (hl : l.length ≤ 140737488351232) (_g : -9223372036854775808 ≤ at_ ∧ at_ ≤ 9223372036854775807) :
    Calls Tryd.prog 6 #[.int .u64 st0, .slice A l.length c, .int .i64 at_, .int .u32 (n32 bits_)] w fun e w' => e = .returned (.bool true) ∧ Below w.heap.size w w' := by
  obtain ⟨st, rfl⟩ := Int.eq_ofNat_of_zero_le hst.1
  have HSt := Lib.hid hst.2
  clear hst
  have HH := Lib.hid hh
  have HB := Lib.hid hb
  have HN := Lib.hid hnil
  have HC := Lib.hid hc
  clear hh hb hnil hc _g
  have HWk := Lib.hid (works7_calls w HH.out)
  obtain ⟨k, hk, e⟩ := mod_pick at_ 1984 (by omega)
  have e' : (IntKind.u64.wrap at_).tmod (1984 : Int) = (k : Int) := e
  have ew : IntKind.i64.wrap (k : Int) = (k : Int) := IntWalk.i64_in _ (by omega)
  have hk4 : k ≤ 4000 := by omega
  have HK := Lib.hid hk
  clear hk
  clear e
  go_enter Tryd.func6, Tryd.ntmps6
  go_wp2_with (go_at_call 19; refine HWk.out.mono ?_; rintro e w1 ⟨rfl, hb1⟩; refine park ?_; intro q hq)
  have HB1 := Lib.hid hb1
  clear hb1 HWk
  refine hq.out ?_
  clear hq
  have HWr := Lib.hid (Wrap_calls st HSt.out 7 A l.length c l w1 (HH.out.below HB1.out) rfl (HB.out.below HB1.out) HN.out hl)
  go_wp2_with (go_at_call 17; refine HWr.out.mono ?_; rintro e w2 ⟨A2, c2, rfl, hown, hb2⟩; refine park ?_; intro q hq)
  clear HWr
  refine hq.out ?_
  clear hq
  by_cases hbad : st = 0 ∨ 233 < l.length
  · have h9 : (wrapR st 7 l).1 = [] ∧ ((wrapR st 7 l).2 = 2 ∨ (wrapR st 7 l).2 = 3) := by
      unfold wrapR
      by_cases h0 : st = 0
      · rw [if_pos (.inl h0)]; exact ⟨rfl, .inl rfl⟩
      · rw [if_neg (by rintro (h | h); exact h0 h; exact absurd h (by decide)), if_pos (by rcases hbad with h | h; exact absurd h h0; exact h)]; exact ⟨rfl, .inr rfl⟩
    have HB2 := Lib.hid hb2
    rw [h9.1]
    rcases h9.2 with h | h
    all_goals
      rw [h]
      clear h9 h hown hb2
      go_wp2_with fail
      go_ret
      exact ⟨rfl, HB1.out.trans (HB2.out.mono HB1.out.size)⟩
  · have h0 : st ≠ 0 := fun h => hbad (.inl h)
    have h233 : l.length ≤ 233 := by omega
    have hst1 : st < 18446744073709551616 := by have : (st : Int) ≤ 18446744073709551615 := HSt.out; omega
    have hR : wrapR st 7 l = (wrapB st 7 l, 0) := by
      unfold wrapR; rw [if_neg (by rintro (h | h); exact h0 h; exact absurd h (by decide)), if_neg (by omega)]
    rw [hR] at hown ⊢
    have HL := Lib.hid (wrapB_length st 7 l (by omega))
    obtain ⟨N, hN⟩ : ∃ N, 1984 = N := ⟨_, rfl⟩
    have hBS := fun j hj => burst_sector st l bits_ k j hj h0 hst1 h233
    rw [hN] at hBS
    have HNn := Lib.hid hN
    clear hN
    have HBS := Lib.hid hBS
    clear hR hbad h0 hst1 hBS
    rw [show (wrapB st 7 l, (0 : Int)).1 = wrapB st 7 l from rfl, show (wrapB st 7 l, (0 : Int)).2 = 0 from rfl] at *
    have hlen : (wrapB st 7 l).length = 256 := HL.out
    rw [hlen] at hown ⊢
    obtain ⟨g, hA, hcap⟩ : ∃ g, A2 = some ⟨g, 0, none⟩ ∧ 256 ≤ c2 := by
      rcases hown.form with ⟨h, h2⟩ | ⟨g, c', h, _, _, h3⟩
      · rw [h2] at hlen; cases hlen
      · injection h with h1 h2 h4; subst h4; rw [hlen] at h3; exact ⟨g, h1, h3⟩
    subst hA
    have hmax : c2 ≤ 9223372036854775807 := by
      rcases hown.2 with ⟨h, _⟩ | ⟨g, cap, cur, h, _, _, _, h5, _⟩
      · cases h
      · injection h with h1 h2 h3; subst h3; unfold maxLen at h5; omega
    have HG := Lib.hid (hown.lt g rfl).1
    have HO := Lib.hid hown
    have HB2 := Lib.hid hb2
    clear hown hb2 hlen
    go_wp2_with fail
    go_loopw [12, 13] (fun t i wr => ∃ j : Nat, j ≤ 32 ∧ i = .int .i64 j ∧ t = .bool (turned bits_ k N j) ∧ Hid (OwnB wr w1.heap.size (.slice (some ⟨g, 0, none⟩) 256 c2) (bst bits_ k N j (wrapB st 7 l)) ∧ Below w1.heap.size w1 wr)) (fun _ i _ => 32 - (intOf i).toNat)
    case atStart => exact ⟨0, by decide, rfl, by rw [turned], by rw [bst]; exact HO.out, HB2.out⟩
    case round =>
      obtain ⟨j, hj, rfl, rfl, HR⟩ := hrel
      clear e' ew HC HN
      by_cases hlt : j < 32 ∧ k + j < 1984
      · obtain ⟨hj1, hj2⟩ := hlt
        have q1 : decide ((k : Int) + (j : Int) < 1984) = true := by simp; omega
        have q3 : ((k : Int) + (j : Int)) / 8 < 256 := by omega
        have q4 : 0 ≤ ((k : Int) + (j : Int)) / 8 := by omega
        have q2 := bit32 bits_ j
        have HJ2 := Lib.hid hj2
        have hlen : (bst bits_ k N j (wrapB st 7 l)).length = 256 := by rw [bst_length, HL.out]
        have hc := HR.out.1.cells ((k + j) / 8) (by rw [hlen]; omega)
        clear hlen hj2
        obtain ⟨hc1, hc2⟩ := hc
        cases hbit : bits_.getLsbD j
        · rw [hbit] at q2
          have HE := Lib.hid (bst_not (k := k) (N := N) (l := wrapB st 7 l) hbit)
          clear hbit hc1 hc2
          go_wp2_with fail
          refine ⟨⟨j + 1, by omega, by go_num, by rw [HE.out.2], ?_⟩, by simp [intOf]; omega⟩
          rw [HE.out.1]
          exact HR
        · rw [hbit] at q2
          have HE := Lib.hid (bst_yes (k := k) (N := N) (l := wrapB st 7 l) hbit (by rw [← HNn.out]; exact HJ2.out))
          have HX := Lib.hid (xor_bit8 (at8 (bst bits_ k N j (wrapB st 7 l)) ((k + j) / 8)) ((k + j) % 8) (by omega))
          clear hbit
          go_wp2_with fail
          refine ⟨⟨j + 1, by omega, by go_num, by rw [HE.out.2], ?_⟩, by simp [intOf]; omega⟩
          rw [HE.out.1, HX.out]
          exact ⟨HR.out.1.set _ _, HR.out.2.setCell HG.out _⟩
      · have HOP := Lib.hid (HBS.out j hj)
        have HLN : Hid (256 = (bst bits_ k N j (wrapB st 7 l)).length) := by show _ = _; rw [bst_length, HL.out]
        generalize bst bits_ k N j (wrapB st 7 l) = m at *
        generalize turned bits_ k N j = tt at *
        have HHr := Lib.hid (HH.out.below (HB1.out.trans (HR.out.2.mono HB1.out.size)))
        have HBr := Lib.hid (HB.out.below (HB1.out.trans (HR.out.2.mono HB1.out.size)))
        have HXr := Lib.hid (HB1.out.trans (HR.out.2.mono HB1.out.size))
        have hop := Open7_calls (some ⟨g, 0, none⟩) 256 c2 m wr HHr.out HLN.out HR.out.1.bytes hcap hmax
        have exits : (¬ j < 32) ∨ (j < 32 ∧ ¬ k + j < 1984) := by omega
        cases tt
        · have ho := HOP.out.1 rfl
          rw [ho] at hop
          have HOp := Lib.hid hop
          clear hop ho
          rcases exits with h32 | ⟨h32, hk8⟩
          all_goals
            try (have q1 : decide ((k : Int) + (j : Int) < 1984) = false := by (simp; omega))
            go_wp2_with (go_at_call 20; refine HOp.out.mono ?_; rintro e w5 ⟨A5, c5, rfl, hown5, hb5⟩; refine park ?_; intro q hq)
            have hs1 := run_str (c := c5) rfl hown5.bytes
            have hs2 := run_str (c := c) rfl (HBr.out.below hb5)
            have HB5 := Lib.hid hb5
            clear hown5 hb5 HOp
            refine hq.out ?_
            clear hq
            go_wp2_with fail
            go_ret
            exact ⟨rfl, HXr.out.trans (HB5.out.mono HXr.out.size)⟩
        · obtain ⟨er, her, ho⟩ := HOP.out.2 rfl
          rw [ho] at hop
          have HOp := Lib.hid hop
          have e1 : (er != 0) = true := by simpa using her
          clear hop ho her
          rcases exits with h32 | ⟨h32, hk8⟩
          all_goals
            try (have q1 : decide ((k : Int) + (j : Int) < 1984) = false := by (simp; omega))
            go_wp2_with (go_at_call 20; refine HOp.out.mono ?_; rintro e w5 ⟨A5, c5, rfl, hown5, hb5⟩; refine park ?_; intro q hq)
            have HB5 := Lib.hid hb5
            clear hown5 hb5 HOp
            refine hq.out ?_
            clear hq
            go_wp2_with fail
            go_ret
            exact ⟨rfl, HXr.out.trans (HB5.out.mono HXr.out.size)⟩
end Go.Proofs.YtibhoekbjgoanaaDoor
