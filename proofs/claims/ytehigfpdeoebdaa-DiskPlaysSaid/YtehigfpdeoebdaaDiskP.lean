/- The disk: the law's own example. -/
import Derived.Test.YtehigfpdeoebdaaDiskL
set_option linter.unusedSimpArgs false
set_option linter.unusedVariables false
namespace Go.Proofs.Ytehigfpdeoebdaa.Dsk
open Go.RowKit
def RetY (w0 : World) (l : List UInt8) (e : Ending) (w' : World) : Prop :=
  ∃ g c, e = .returned (.slice (some ⟨g, 0, none⟩) 256 c) ∧ OwnB w' w0.heap.size (.slice (some ⟨g, 0, none⟩) 256 c) l ∧ Below w0.heap.size w0 w'
theorem u8_id (c : UInt8) : IntKind.u8.wrap (c.toNat : Int) = (c.toNat : Int) := by
  have := c.toNat_lt
  simp only [IntKind.wrap, IntKind.bits, IntKind.signed]; simp; omega
def fillK (k : Nat) (c : UInt8) : List UInt8 := List.replicate k c ++ List.replicate (256 - k) 0
theorem fillK_set (k : Nat) (c : UInt8) (h : k < 256) : (fillK k c).set k c = fillK (k + 1) c := by
  unfold fillK
  rw [List.set_append_right _ _ (by simp), List.length_replicate, Nat.sub_self, show 256 - k = (255 - k) + 1 by omega, List.replicate_succ, List.set_cons_zero, List.replicate_succ', List.append_assoc]
  simp [show 256 - (k + 1) = 255 - k by omega]
theorem fillK_len (k : Nat) (c : UInt8) (h : k ≤ 256) : (fillK k c).length = 256 := by simp [fillK]; omega
set_option maxRecDepth 100000 in
set_option maxHeartbeats 400000 in
theorem filled_calls (c : UInt8) (w : World) : Calls Try.prog 20 #[.int .u8 (c.toNat : Int)] w (RetY w (List.replicate 256 c)) := by
  go_enter Try.func20, Try.ntmps20
  go_wp2_with (with_reducible refine park_make ?_; intro q hq)
  refine hq.out ?_
  clear hq
  refine wpList_make_bytes rfl _ _ rfl w.heap.size _ _ 256 rfl rfl rfl rfl (by omega) (Nat.le_refl _) ?_
  intro w1 hown hg
  have HB1 := Lib.hid ((Below.refl w.heap.size w).grown hg (Nat.le_refl _) (fun k hk => by cases hk))
  have HO := Lib.hid hown
  obtain ⟨g, hgg⟩ : ∃ g, w.heap.size = g := ⟨_, rfl⟩
  have hgg := Lib.hid hgg
  clear hown hg
  rw [hgg.out] at HB1 HO ⊢
  obtain ⟨wo, rfl⟩ : ∃ wo : World, wo = w1 := ⟨_, rfl⟩
  go_wp2
  go_loopw [8] (fun i wr => ∃ k : Nat, k ≤ 256 ∧ i = .int .i64 k ∧ Hid (OwnB wr g (.slice (some ⟨g, 0, none⟩) 256 256) (fillK k c) ∧ Kept (fun b => b = g) wo wr)) (fun i _ => 256 - (intOf i).toNat)
  case atStart => exact ⟨0, by omega, rfl, by have : fillK 0 c = List.replicate 256 0 := rfl; rw [this]; exact HO.out, Kept.refl _ _⟩
  case round =>
    obtain ⟨k, hk, rfl, HR⟩ := hrel
    by_cases hlt : k < 256
    · obtain ⟨hc1, hc2⟩ := HR.out.1.cells k (by rw [fillK_len k c hk]; exact hlt)
      have HN : Hid (OwnB (wr.setCell ⟨g, k, none⟩ (.int .u8 (c.toNat : Int))) g (.slice (some ⟨g, 0, none⟩) 256 256) (fillK (k + 1) c) ∧ Kept (fun b => b = g) wo (wr.setCell ⟨g, k, none⟩ (.int .u8 (c.toNat : Int)))) :=
        ⟨by rw [← fillK_set k c hlt]; exact HR.out.1.set k c, HR.out.2.setCell (Or.inl rfl) _⟩
      clear HR
      go_wp2
      go_roundw
      case rel => exact ⟨k + 1, by omega, by go_num, HN⟩
      case measure => simp [intOf]; omega
    · obtain rfl : k = 256 := by omega
      go_wp2
      go_ret
      refine ⟨g, 256, rfl, ?_, ?_⟩
      · have e : List.replicate 256 c = fillK 256 c := by simp [fillK]
        rw [e, hgg.out]; exact HR.out.1
      · rw [hgg.out]; exact HB1.out.trans (HR.out.2.below (by rw [← hgg.out] at HB1 ⊢; exact HB1.out.size) (fun b hb e => by omega))
def wrote1 : DiskM := (newD 3).write 1 (List.replicate 256 1)
theorem a_now : (wrote1.lose [] (-1) 0).now 1 = zsec := rfl
theorem b_now : (wrote1.lose [true] (-1) 0).now 1 = List.replicate 256 1 := rfl
theorem c_now : (wrote1.lose [] 0 2).now 1 = [1, 1] ++ List.replicate 254 0 := rfl
set_option maxRecDepth 100000 in
set_option maxHeartbeats 2000000 in
theorem works_calls (w : World) : Calls Try.prog 6 #[] w fun e w' => e = .returned (.bool true) ∧ Below w.heap.size w w' := by
  have HN := Lib.hid (New_calls 3 (by decide) w)
  go_enter Try.func6, Try.ntmps6
  go_wp2_with (go_at_call 4; refine HN.out.mono ?_; rintro e w1 ⟨a, m, rfl, hD1, hb1⟩; refine park ?_; intro q hq)
  have HD1 := Lib.hid hD1
  have HB1 := Lib.hid hb1
  clear hD1 hb1 HN
  have HFi := Lib.hid (filled_calls 1 w1)
  refine hq.out ?_
  clear hq
  go_wp2_with (go_at_call 20; refine HFi.out.mono ?_; rintro e w2 ⟨g, c, rfl, hO, hb2⟩; refine park ?_; intro q hq)
  have HO := Lib.hid hO
  have HB2 := Lib.hid (HB1.out.trans (hb2.mono HB1.out.size))
  have HD2 := Lib.hid (HD1.out.below hb2)
  clear hO hb2 HFi
  have HW := Lib.hid (Write_calls HD2.out HB2.out.size 1 (by simp [newD]) rfl (some ⟨g, 0, none⟩) c (List.replicate 256 1) List.length_replicate HO.out.bytes (by simp [newD]) (by simp [newD]))
  refine hq.out ?_
  clear hq
  go_wp2_with (go_at_call 8; refine HW.out.mono ?_; rintro e w3 ⟨rfl, wv, hD3, hk3, _⟩; refine park ?_; intro q hq)
  have HD3 : Hid (DiskAt w3 w.heap.size a m wv wrote1) := hD3
  have HB3 := Lib.hid (HB2.out.trans (hk3.below HB2.out.size (fun k hk hf => by have := (HD2.out.foot k hf).1; omega)))
  clear hD3 hk3 HW HD1 HD2 HO HB1 HB2
  have HL : Hid (Calls Try.prog 14 #[.pointer (some ⟨a, 0, none⟩), .agg #[.slice none 0 0, .int .i64 (-1), .int .i64 0]] w3 (RetD w3 (wrote1.lose [] (-1) 0) (.slice none 0 0))) :=
    Lose_calls HD3.out none 0 [] (-1) 0 (fun k hk => absurd hk (by simp)) (by simp) (by omega) (by omega) (by omega)
  refine hq.out ?_
  clear hq
  go_wp2_with (go_at_call 14; refine HL.out.mono ?_; rintro e w4 ⟨a1, m1, rfl, hD4, hb4⟩; refine park ?_; intro q hq)
  have HD4 := Lib.hid hD4
  have HB4 := Lib.hid (HB3.out.trans (hb4.mono HB3.out.size))
  have HE4 := Lib.hid (HD3.out.below hb4)
  clear hD4 hb4 HL HD3
  have HL : Hid (Calls Try.prog 14 #[.pointer (some ⟨a, 0, none⟩), .agg #[.slice (some ⟨w4.heap.size, 0, none⟩) 1 1, .int .i64 (-1), .int .i64 0]] (w4.alloc (.cells #[.bool true] 4)) (RetD (w4.alloc (.cells #[.bool true] 4)) (wrote1.lose [true] (-1) 0) (.slice none 0 0))) :=
    Lose_calls (HE4.out.below ((Below.refl _ _).alloc (Nat.le_refl _) _)) (some ⟨w4.heap.size, 0, none⟩) 1 [true] (-1) 0 (fun k hk => by
      obtain rfl : k = 0 := by simpa using hk
      refine ⟨_, rfl, ?_⟩
      rw [Addr.add_lit, cell_of_row _ _ _ _ _ _ (heap_alloc_new w4 _)]; rfl) (by simp) (by omega) (by omega) (by omega)
  refine hq.out ?_
  clear hq
  go_wp2_with (go_at_call 14; refine HL.out.mono ?_; rintro e w5 ⟨a2, m2, rfl, hD5, hb5⟩; refine park ?_; intro q hq)
  have hba : Below w4.heap.size w4 (w4.alloc (.cells #[.bool true] 4)) := (Below.refl _ _).alloc (Nat.le_refl _) _
  have hb45 : Below w4.heap.size w4 w5 := hba.trans (hb5.mono hba.size)
  have HB5 := Lib.hid (HB4.out.trans (hb45.mono HB4.out.size))
  have HE5 := Lib.hid (HE4.out.below hb45)
  have HA5 := Lib.hid (HD4.out.below hb45)
  have HD5 := Lib.hid hD5
  clear hba hb45 hD5 hb5 HL HD4 HE4
  have HL : Hid (Calls Try.prog 14 #[.pointer (some ⟨a, 0, none⟩), .agg #[.slice none 0 0, .int .i64 0, .int .i64 2]] w5 (RetD w5 (wrote1.lose [] 0 2) (.slice none 0 0))) :=
    Lose_calls HE5.out none 0 [] 0 2 (fun k hk => absurd hk (by simp)) (by simp) (by omega) (by omega) (by omega)
  refine hq.out ?_
  clear hq
  go_wp2_with (go_at_call 14; refine HL.out.mono ?_; rintro e w6 ⟨a3, m3, rfl, hD6, hb6⟩; refine park ?_; intro q hq)
  have HB6 := Lib.hid (HB5.out.trans (hb6.mono HB5.out.size))
  have HA6 := Lib.hid (HA5.out.below hb6)
  have HC6 := Lib.hid (HD5.out.below hb6)
  have HD6 := Lib.hid hD6
  clear hD6 hb6 HL HE5 HA5 HD5
  have HR1 := Lib.hid (Read_calls HA6.out 1 (by decide) rfl)
  refine hq.out ?_
  clear hq
  go_wp2_with (go_at_call 21; refine HR1.out.mono ?_; rintro e w7 ⟨g1, c1, rfl, hO1, hb7⟩; refine park ?_; intro q hq)
  have HB7 := Lib.hid (HB6.out.trans (hb7.mono HB6.out.size))
  have HO1 : Hid (OwnB w7 w6.heap.size (.slice (some ⟨g1, 0, none⟩) 256 c1) zsec) := hO1
  have HC7 := Lib.hid (HC6.out.below hb7)
  have HD7 := Lib.hid (HD6.out.below hb7)
  clear hO1 hb7 HR1 HA6 HC6 HD6
  have HR2 := Lib.hid (Read_calls HC7.out 1 (by decide) rfl)
  refine hq.out ?_
  clear hq
  go_wp2_with (go_at_call 21; refine HR2.out.mono ?_; rintro e w8 ⟨g2, c2, rfl, hO2, hb8⟩; refine park ?_; intro q hq)
  have HB8 := Lib.hid (HB7.out.trans (hb8.mono HB7.out.size))
  have HO2 : Hid (OwnB w8 w7.heap.size (.slice (some ⟨g2, 0, none⟩) 256 c2) (List.replicate 256 1)) := hO2
  have HP1 := Lib.hid (HO1.out.below hb8)
  have HD8 := Lib.hid (HD7.out.below hb8)
  clear hO2 hb8 HR2 HC7 HD7 HO1
  have HR3 := Lib.hid (Read_calls HD8.out 1 (by decide) rfl)
  refine hq.out ?_
  clear hq
  go_wp2_with (go_at_call 21; refine HR3.out.mono ?_; rintro e w9 ⟨g3, c3, rfl, hO3, hb9⟩; refine park ?_; intro q hq)
  have HB9 := Lib.hid (HB8.out.trans (hb9.mono HB8.out.size))
  have hO3' : OwnB w9 w8.heap.size (.slice (some ⟨g3, 0, none⟩) 256 c3) ([1, 1] ++ List.replicate 254 0) := hO3
  have hP1 := HP1.out.below hb9
  have hP2 := HO2.out.below hb9
  have z1 : w9.cell? ⟨g1, 0, none⟩ = some (.int .u8 0) := (hP1.cells 0 (by decide)).1
  have z2 : w9.cell? ⟨g2, 255, none⟩ = some (.int .u8 1) := (hP2.cells 255 (by decide)).1
  have z3 : w9.cell? ⟨g3, 1, none⟩ = some (.int .u8 1) := (hO3'.cells 1 (by decide)).1
  have z4 : w9.cell? ⟨g3, 2, none⟩ = some (.int .u8 0) := (hO3'.cells 2 (by decide)).1
  clear hO3 hO3' hP1 hP2 HP1 HO2 HD8 HR3 hb9
  refine hq.out ?_
  clear hq
  go_wp2
  go_ret
  exact ⟨rfl, HB9.out⟩
end Go.Proofs.Ytehigfpdeoebdaa.Dsk
