/- The chapter's example of masters. -/
import Derived.Test.YtcgjejpekefjdaaDoorMasterU
set_option linter.unusedSimpArgs false
set_option linter.unusedVariables false
namespace Go.Proofs.YtcgjejpekefjdaaDoor
open Go.RowKit Go.Proofs.YtcgjejpekefjdaaDoor.Crc
open Go.Proofs.YtcgjejpekefjdaaDoor.Dsk
theorem U64s.lit (w : World) (zs : List Nat) : U64s (w.alloc (.cells (cellsU zs).toArray 49)) (some ⟨w.heap.size, 0, none⟩) zs := by
  intro k hk
  refine ⟨_, rfl, ?_⟩
  rw [Addr.add_lit, Nat.zero_add, cell_of_row _ _ _ _ _ _ (heap_alloc_new w _)]
  unfold cellsU
  simp [hk]
def x1 : MasM := ⟨1, 1, [5, 300], 0, []⟩
def x2 : MasM := ⟨1, 1, [5, 300], 2, []⟩
theorem Kept.below' {S : Nat → Prop} {w w' : World} {base : Nat} (h : Kept S w w') (hb : base ≤ w.heap.size) (hs : ∀ k, k < base → ¬ S k) : Below base w w' := h.below hb hs
set_option maxRecDepth 10000 in
set_option maxHeartbeats 1000000 in
theorem works10_calls (w : World) (hh : HalfIs w) : Calls Tryd.prog 14 #[] w fun e w' => e = .returned (.bool true) ∧ Below w.heap.size w w' := by
  have HO := Lib.hid (opened_calls w hh)
  have HH := Lib.hid hh
  clear hh
  go_enter Tryd.func14, Tryd.ntmps14
  go_wp2_with (go_at_call 15; refine HO.out.mono ?_; rintro e w1 ⟨a, m, r, rfl, h1, b1⟩; refine park ?_; intro q hq)
  refine hq.out ?_
  clear hq HO
  have HS := Lib.hid (Slot_calls h1.out.mas)
  rw [show x0.slot = -1 from rfl] at HS
  go_wp2_with (go_at_call 12; refine HS.out.mono ?_; rintro e w2 ⟨rfl, hb2⟩; refine park ?_; intro q hq)
  refine hq.out ?_
  clear hq HS
  obtain ⟨w3, hw3⟩ : ∃ w3, w2.alloc (.cells #[.int .u64 5, .int .u64 300] 49) = w3 := ⟨_, rfl⟩
  obtain ⟨g, hg⟩ : ∃ g, w2.heap.size = g := ⟨_, rfl⟩
  have hU3 : U64s w3 (some ⟨g, 0, none⟩) [5, 300] := by rw [← hw3, ← hg]; exact U64s.lit w2 [5, 300]
  have hg3 : g < w3.heap.size := by rw [← hw3, ← hg]; exact (Array.getElem?_eq_some_iff.1 (heap_alloc_new w2 _)).1
  have hb3 : Below w1.heap.size w1 w3 := by rw [← hw3]; exact hb2.alloc hb2.size _
  have h3 : MD w3 w.heap.size a m r (.slice none 0 0) (newD 3) x0 := h1.out.below hb3
  have b3 : Below w.heap.size w w3 := b1.out.trans (hb3.mono b1.out.size)
  have hgF : ∀ k, Foot a m (.slice none 0 0) k ∨ k = r → k < w1.heap.size := by
    rintro k (hk | rfl)
    · exact (h1.out.disk.foot k hk).2
    · exact h1.out.mas.lt
  have hgn : ¬ (Foot a m (.slice none 0 0) g ∨ g = r) := fun h => by have := hgF g h; have := hb2.size; omega
  have HSv := Lib.hid (Save_go h3 fr0 (by omega) (HH.out.below b3) (some ⟨g, 0, none⟩) 2 2 1 [5, 300] rfl (fun h => by cases h) hU3 (fun ad hA => by cases hA; exact .inr ⟨hg3, fun h => hgn (.inl h), fun h => hgn (.inr h)⟩) (by decide) (by decide) (by decide))
  rw [show x0.save 1 [5, 300] = x1 from rfl, show ((1 : Nat) : Int) = 1 from rfl] at HSv
  have B3 := Lib.hid b3
  have HBase := Lib.hid h3.base_le
  have H3 := Lib.hid h3.foot
  clear hU3 hg3 hb3 h3 b3 hgF hgn h1 b1 hb2
  go_wp2_with (go_at_call 13; (with_reducible refine HSv.out.mono ?_); rintro e w4 ⟨rfl, wv4, d4, h4, f4, k4⟩; refine park ?_; intro q hq)
  refine hq.out ?_
  clear hq HSv
  have B4 : Hid (Below w.heap.size w w4) := B3.out.trans (k4.out.below HBase.out H3.out)
  clear k4 B3 HBase H3 hw3 hg
  have HS := Lib.hid (Slot_calls h4.out.mas)
  rw [show x1.slot = 0 from rfl] at HS
  go_wp2_with (go_at_call 12; refine HS.out.mono ?_; rintro e w5 ⟨rfl, hb5⟩; refine park ?_; intro q hq)
  refine hq.out ?_
  clear hq HS
  have H5 : Hid (MD w5 w.heap.size a m r wv4 d4 x1) := h4.out.below hb5
  have B5 : Hid (Below w.heap.size w w5) := B4.out.trans (hb5.mono B4.out.size)
  clear h4 B4 hb5
  have HSt := Lib.hid (Go.Proofs.YtcgjejpekefjdaaDoor.Dsk.Steps_calls H5.out.disk)
  rw [f4.out.steps] at HSt
  go_wp2_with (go_at_call 32; refine HSt.out.mono ?_; rintro e w6 ⟨rfl, rfl⟩; refine park ?_; intro q hq)
  refine hq.out ?_
  clear hq HSt
  have HI := Lib.hid (Save_inv H5.out.mas none 0 0 1 (.inl (by decide)))
  go_wp2_with (go_at_call 13; (with_reducible refine HI.out.mono ?_); rintro e w6 ⟨rfl, hb6⟩; refine park ?_; intro q hq)
  refine hq.out ?_
  clear hq HI
  have H6 : Hid (MD w6 w.heap.size a m r wv4 d4 x1) := H5.out.below hb6
  have B6 : Hid (Below w.heap.size w w6) := B5.out.trans (hb6.mono B5.out.size)
  clear H5 B5 hb6
  have HL := Lib.hid (Latest_calls H6.out.mas)
  rw [show x1.last = (1, [5, 300]) from rfl] at HL
  go_wp2_with (go_at_call 11; (with_reducible refine HL.out.mono ?_); rintro e w7 ⟨A7, c7, rfl, hn7, hU7, hb7⟩; refine park ?_; intro q hq)
  refine hq.out ?_
  clear hq HL
  obtain ⟨w8, hw8⟩ : ∃ w8, w7.alloc (.cells #[.int .u64 5, .int .u64 300] 49) = w8 := ⟨_, rfl⟩
  obtain ⟨g8, hg8⟩ : ∃ g, w7.heap.size = g := ⟨_, rfl⟩
  have hU8 : U64s w8 (some ⟨g8, 0, none⟩) [5, 300] := by rw [← hw8, ← hg8]; exact U64s.lit w7 [5, 300]
  have hb8 : Below w7.heap.size w7 w8 := by rw [← hw8]; exact (Below.refl _ _).alloc (Nat.le_refl _) _
  have hU78 := hU7.1.below hb8
  have H8 : Hid (MD w8 w.heap.size a m r wv4 d4 x1) := (H6.out.below hb7).below hb8
  have B8 : Hid (Below w.heap.size w w8) := (B6.out.trans (hb7.mono B6.out.size)).trans (hb8.mono (Nat.le_trans B6.out.size hb7.size))
  have HSa := Lib.hid (Same10_calls w8 A7 (some ⟨g8, 0, none⟩) 2 c7 2 2 [5, 300] [5, 300] rfl rfl hU78 hU8 (by omega))
  rw [show decide (([5, 300] : List Nat) = [5, 300]) = true from rfl] at HSa
  clear hU8 hb8 hU78 H6 B6 hb7 hU7 hn7
  simp only [List.length_cons, List.length_nil, Nat.zero_add, Nat.reduceAdd]
  go_wp2_with (go_at_call 16; (with_reducible refine HSa.out.mono ?_); rintro e w9 ⟨rfl, hb9⟩; refine park ?_; intro q hq)
  refine hq.out ?_
  clear hq HSa hw8 hg8
  have H9 : Hid (MD w9 w.heap.size a m r wv4 d4 x1) := H8.out.below hb9.out
  have B9 : Hid (Below w.heap.size w w9) := B8.out.trans (hb9.out.mono B8.out.size)
  clear H8 B8 hb9
  have HSv := Lib.hid (Save_go H9.out f4.out (by omega) (HH.out.below B9.out) none 0 0 2 [] rfl (fun _ => rfl) (U64o.nil _).1 (fun ad hA => by cases hA) (by decide) (by decide) (by decide))
  rw [show x1.save 2 [] = x2 from rfl, show ((2 : Nat) : Int) = 2 from rfl] at HSv
  have HBase := Lib.hid H9.out.base_le
  have H3 := Lib.hid H9.out.foot
  go_wp2_with (go_at_call 13; (with_reducible refine HSv.out.mono ?_); rintro e w10 ⟨rfl, wv10, d10, h10, f10, k10⟩; refine park ?_; intro q hq)
  refine hq.out ?_
  clear hq HSv
  have B10 : Hid (Below w.heap.size w w10) := B9.out.trans (k10.out.below HBase.out H3.out)
  have HS := Lib.hid (Slot_calls h10.out.mas)
  rw [show x2.slot = 1 from rfl] at HS
  clear k10 HBase H3 H9 B9
  go_wp2_with (go_at_call 12; refine HS.out.mono ?_; rintro e w11 ⟨rfl, hb11⟩; refine park ?_; intro q hq)
  refine hq.out ?_
  clear hq HS
  go_wp2_with fail
  go_ret
  exact ⟨rfl, B10.out.trans (hb11.mono B10.out.size)⟩
end Go.Proofs.YtcgjejpekefjdaaDoor
