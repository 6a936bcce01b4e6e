/- The document's Wrap. -/
import Derived.Test.YtibhoekbjgoanaaDoorStampR
set_option linter.unusedSimpArgs false
set_option linter.unusedVariables false
namespace Go.Proofs.YtibhoekbjgoanaaDoor
open Go.RowKit Go.Proofs.YtibhoekbjgoanaaDoor.Crc
def base0 (st : Nat) (k : UInt8) (b : List UInt8) : List UInt8 := fixB st 8 ++ [k, lenB b] ++ b
theorem base0_length (st : Nat) (k : UInt8) (b : List UInt8) : (base0 st k b).length = 10 + b.length := by simp [base0, fixB_length]; omega
theorem base0_head (st : Nat) (k : UInt8) (b : List UInt8) : base0 st k b ++ List.replicate (234 - b.length) 0 = headB st k b := by unfold base0 headB; simp only [List.append_assoc]
set_option maxRecDepth 100000 in
set_option maxHeartbeats 1000000 in
theorem refWrap_calls (st : Nat) (hst : (st : Int) ≤ 18446744073709551615) (k : UInt8) (A : Option Addr) (n c : Nat) (b : List UInt8) (w : World) (hn : n = b.length) (hb : Bytes w A b) (hnil : A = none → c = 0) (hl : n ≤ 140737488351232) :
    Calls Tryd.prog 18 #[.int .u64 (st : Int), .int .u8 (k.toNat : Int), .slice A n c] w (RetBN w (wrapR st k b).1 (wrapR st k b).2) := by
  obtain ⟨k1, k2⟩ := ltu8 k
  have HSt := Lib.hid hst
  clear hst
  by_cases h0 : st = 0 ∨ k = 0
  · have e : wrapR st k b = ([], 2) := by unfold wrapR; rw [if_pos h0]
    rw [e]
    clear e hb
    by_cases h1 : st = 0
    · have t1 : ((st : Int) == 0) = true := by simp [h1]
      clear h0 h1
      go_enter Tryd.func18, Tryd.ntmps18
      go_wp2_with fail
      go_ret2
      exact RetBN.mk (World.ownsRow_nil _ _ _ _) (Below.refl _ _)
    · have t1 : ((st : Int) == 0) = false := by simp [h1]
      obtain rfl : k = 0 := by rcases h0 with h | h; exact absurd h h1; exact h
      clear h0 h1
      go_enter Tryd.func18, Tryd.ntmps18
      go_wp2_with fail
      go_ret2
      exact RetBN.mk (World.ownsRow_nil _ _ _ _) (Below.refl _ _)
  · have t1 : ((st : Int) == 0) = false := by simp; omega
    have t2 : ((k.toNat : Int) == 0) = false := by
      simp; intro h; exact h0 (.inr (UInt8.toNat_inj.1 (by simpa using h)))
    by_cases hbig : 233 < b.length
    · have e : wrapR st k b = ([], 3) := by unfold wrapR; rw [if_neg h0, if_pos hbig]
      rw [e]
      rw [← hn] at hbig
      clear e hb h0
      go_enter Tryd.func18, Tryd.ntmps18
      go_wp2_with fail
      go_ret2
      exact RetBN.mk (World.ownsRow_nil _ _ _ _) (Below.refl _ _)
    · have e : wrapR st k b = (wrapB st k b, 0) := by unfold wrapR; rw [if_neg h0, if_neg hbig]
      rw [e]
      have hsm : n ≤ 233 := by omega
      have HB := Lib.hid hb
      have HN := Lib.hid hn
      have HNl := Lib.hid hnil
      clear e hb hn h0 hbig hnil
      have hu8 : IntKind.u8.wrap (n : Int) = ((lenB b).toNat : Int) := by
        unfold lenB; rw [← HN.out]; simp only [IntKind.wrap, IntKind.bits, IntKind.signed]; simp
      have HU8 := Lib.hid hu8
      go_enter Tryd.func18, Tryd.ntmps18
      go_wp2_with (go_at_call 40; refine (refFixed_calls st HSt.out 8 (by decide) _).mono ?_; rintro e w1 ⟨A1, c1, rfl, hO1, hb1⟩; refine park ?_; intro q hq)
      have HO1 := Lib.hid hO1
      have HB1 := Lib.hid hb1
      clear hO1 hb1
      refine hq.out ?_
      clear hq
      have HL8 : Hid ((fixB st 8).length = 8) := fixB_length st 8
      go_wp2_with (with_reducible refine park_append ?_; intro q hq)
      refine hq.out ?_
      clear hq
      refine wpList_append_bytes rfl _ _ rfl w.heap.size (.slice A1 (fixB st 8).length c1) (fixB st 8) rfl (HO1.out.alloc _) (some ⟨w1.heap.size, 0, none⟩) 2 2 [k, lenB b] rfl rfl (fun h => by cases h) (bytes_of_block (heap_alloc_new w1 _) rfl) (by rw [HL8.out]; simp) (by have := HB1.out.size; simp; omega) ?_
      intro v2 w2 hown2 hg2 _
      have HB2 := Lib.hid ((HB1.out.alloc HB1.out.size _).grown hg2 (by have := HB1.out.size; simp; omega) (fun j hj => (HO1.out.lt j hj).1))
      have HO2 := Lib.hid hown2
      clear hown2 hg2 HO1
      go_wp2_with (with_reducible refine park_append ?_; intro q hq)
      refine hq.out ?_
      clear hq
      refine wpList_append_bytes rfl _ _ rfl w.heap.size v2 (fixB st 8 ++ [k, lenB b]) rfl HO2.out A n c b rfl HN.out HNl.out (HB.out.below HB2.out) (by rw [List.length_append, HL8.out]; have h6 : n = b.length := HN.out; simp; omega) HB2.out.size ?_
      intro v3 w3 hown3 hg3 _
      have HB3 := Lib.hid (HB2.out.grown hg3 HB2.out.size (fun j hj => (HO2.out.lt j hj).1))
      have HO3 : Hid (OwnB w3 w.heap.size v3 (base0 st k b)) := hown3
      clear hown3 hg3 HO2 HB2 HB1
      have hbl : 10 + b.length = 10 + n := by have h6 : n = b.length := HN.out; omega
      have HBl : Hid ((base0 st k b).length = 10 + n) := by show _ = _; rw [base0_length]; exact hbl
      clear hbl
      go_wp2_with fail
      go_loopw [8] (fun v wr => ∃ (A8 : Option Addr) (z m c8 : Nat), v = .slice A8 m c8 ∧ m = 10 + n + z ∧ m ≤ 244 ∧ Hid (OwnB wr w.heap.size v (base0 st k b ++ List.replicate z 0) ∧ Below w.heap.size w wr)) (fun v _ => 244 - sliceLen_ v)
      case atStart =>
        obtain ⟨A8, c8, rfl, _, _, _⟩ := HO3.out.sl
        exact ⟨A8, 0, _, c8, rfl, by rw [HBl.out]; rfl, by rw [HBl.out]; omega, by have := HO3.out; simpa using this, HB3.out⟩
      case round =>
        obtain ⟨A8, z, m, c8, rfl, hm, hm2, HR⟩ := hrel
        by_cases hlt : m < 244
        · have hm' := Lib.hid hm
          clear hm
          go_wp2_with (with_reducible refine park_append ?_; intro q hq)
          refine hq.out ?_
          clear hq
          refine wpList_append_bytes rfl _ _ rfl w.heap.size (.slice A8 m c8) (base0 st k b ++ List.replicate z 0) rfl (HR.out.1.alloc _) (some ⟨wr.heap.size, 0, none⟩) 1 1 [0] rfl rfl (fun h => by cases h) (bytes_of_block (heap_alloc_new wr _) rfl) (by rw [List.length_append, HBl.out, List.length_replicate]; have := hm'.out; simp; omega) (by have := HR.out.2.size; simp; omega) ?_
          intro v4 w4 hown4 hg4 _
          have HN4 : Hid (OwnB w4 w.heap.size v4 (base0 st k b ++ List.replicate (z + 1) 0) ∧ Below w.heap.size w w4) :=
            ⟨by rw [List.replicate_succ', ← List.append_assoc]; exact hown4, (HR.out.2.alloc HR.out.2.size _).grown hg4 (by have := HR.out.2.size; simp; omega) (fun j hj => (HR.out.1.lt j hj).1)⟩
          clear hown4 hg4 HR
          obtain ⟨A4, c4, rfl, _, _, _⟩ := HN4.out.1.sl
          have hl4 : (base0 st k b ++ List.replicate (z + 1) 0).length = m + 1 := by
            rw [List.length_append, HBl.out, List.length_replicate]; have h8 : m = 10 + n + z := hm'.out; omega
          rw [hl4] at HN4 ⊢
          clear hl4
          go_wp2_with fail
          go_roundw
          case rel => exact ⟨A4, z + 1, m + 1, c4, rfl, by have h8 : m = 10 + n + z := hm'.out; omega, by omega, HN4⟩
          case measure => simp [sliceLen_]; omega
        · have hm4 : m = 244 := by omega
          have he : base0 st k b ++ List.replicate z 0 = headB st k b := by
            rw [← base0_head]
            have h6 : n = b.length := HN.out
            rw [show z = 234 - b.length by omega]
          rw [he] at HR
          have HRr := Lib.hid HR.out.2
          have HOr := Lib.hid HR.out.1
          have HL4 : Hid (m = (headB st k b).length) := by show _ = _; rw [headB_length st k b (by have h6 : n = b.length := HN.out; omega)]; exact hm4
          have hsl := HOr.out.sl
          have hcap : A8 = none → c8 = 0 := by
            obtain ⟨A', c', h, h2, _, _⟩ := hsl
            injection h with h3 h4 h5
            subst h3; subst h5; exact h2
          clear he HR hm4 hm hsl
          have hsc := refSeal_calls A8 c8 m (headB st k b) wr HL4.out HOr.out.bytes hcap (by omega)
          have HSc := Lib.hid hsc
          clear hsc
          go_wp2_with (go_at_call 41; refine HSc.out.mono ?_; rintro e w5 ⟨A5, c5, rfl, hO5, hb5⟩; refine park ?_; intro q hq)
          have HB5 := Lib.hid (HRr.out.trans (hb5.mono HRr.out.size))
          have HO5 := Lib.hid (hO5.base HRr.out.size)
          clear hO5 hb5 HSc HRr HOr
          refine hq.out ?_
          clear hq
          go_wp2_with (go_at_call 40; refine (refFixed_calls st HSt.out 8 (by decide) _).mono ?_; rintro e w6 ⟨A6, c6, rfl, hO6, hb6⟩; refine park ?_; intro q hq)
          have HB6 := Lib.hid (HB5.out.trans (hb6.mono HB5.out.size))
          have HO65 := Lib.hid (HO5.out.below hb6)
          have HO6 := Lib.hid hO6
          clear hO6 hb6 HB5 HO5
          refine hq.out ?_
          clear hq
          have hnil6 : A6 = none → c6 = 0 := by
            obtain ⟨A', c', h, h2, _, _⟩ := HO6.out.sl
            injection h with h3 h4 h5
            subst h3; subst h5; exact h2
          go_wp2_with (with_reducible refine park_append ?_; intro q hq)
          refine hq.out ?_
          clear hq
          refine wpList_append_bytes rfl _ _ rfl w.heap.size (.slice A5 (sealB (headB st k b)).length c5) (sealB (headB st k b)) rfl HO65.out A6 (fixB st 8).length c6 (fixB st 8) rfl rfl hnil6 HO6.out.bytes (by rw [sealB_length, ← HL4.out, HL8.out]; omega) HB6.out.size ?_
          intro v7 w7 hown7 hg7 _
          have HB7 := Lib.hid (HB6.out.grown hg7 HB6.out.size (fun j hj => (HO65.out.lt j hj).1))
          have HO7 : Hid (OwnB w7 w.heap.size v7 (wrapB st k b)) := hown7
          clear hown7 hg7
          go_wp2_with fail
          go_ret2
          exact RetBN.mk HO7.out HB7.out
end Go.Proofs.YtibhoekbjgoanaaDoor
