/- The walk of StampOpens. -/
import Derived.Test.YtibhoekbjgoanaaDoorStampL
import Derived.Test.YtibhoekbjgoanaaDoorStampRO
set_option linter.unusedSimpArgs false
set_option linter.unusedVariables false
namespace Go.Proofs.YtibhoekbjgoanaaDoor
open Go.RowKit Go.Proofs.YtibhoekbjgoanaaDoor.Crc
set_option maxRecDepth 100000 in
set_option maxHeartbeats 1000000 in
theorem stampOpens_row (A : Option Addr) (c : Nat) (l : List UInt8) (w : World) (hh : HalfIs w) (hb : Bytes w A l) (hnil : A = none → c = 0) (hc : l.length ≤ c) (hl : l.length ≤ 140737488351232) :
    Calls Tryd.prog 5 #[.slice A l.length c] w fun e w' => e = .returned (.bool true) ∧ Below w.heap.size w w' := by
  have HH := Lib.hid hh
  have HB := Lib.hid hb
  have HN := Lib.hid hnil
  clear hh hb hnil
  go_enter Tryd.func5, Tryd.ntmps5
  by_cases hbig : 1000 < l.length
  · go_wp2_with fail
    go_ret
    exact ⟨rfl, Below.refl _ _⟩
  · have hs : l.length ≤ 1000 := by omega
    go_wp2_with (with_reducible refine park_append ?_; intro q hq)
    refine hq.out ?_
    clear hq
    refine wpList_append_bytes rfl _ _ rfl w.heap.size _ [] rfl (OwnB.lit w _ (Nat.le_refl _) [] [] rfl 0 rfl (by decide)) A l.length c l rfl rfl HN.out (HB.out.alloc _) (by simp; omega) (by simp) ?_
    intro v2 w2 hown2 hg2 _
    have HB2 := Lib.hid (((Below.refl w.heap.size w).alloc (Nat.le_refl _) _).grown hg2 (by simp) (fun k hk => by cases hk; exact Nat.le_refl _))
    have HO2 : Hid (OwnB w2 w.heap.size v2 l) := by have := hown2; rw [List.nil_append] at this; exact this
    clear hown2 hg2
    obtain ⟨A2, c2, rfl, _, hlc, hmc⟩ := HO2.out.sl
    have HW := Lib.hid (Open7_calls A2 l.length c2 l w2 (HH.out.below HB2.out) rfl HO2.out.bytes hlc hmc)
    have HR0 := Lib.hid (fun (w' : World) (h : Below w.heap.size w w') => refOpen7_calls A l.length c l w' rfl (HB.out.below h) hc)
    obtain ⟨r, hr⟩ : ∃ r, openS l = r := ⟨_, rfl⟩
    rw [hr] at HW HR0
    obtain ⟨r1, r2, r3, r4⟩ := r
    clear hr
    go_wp2_with (go_at_call 20; refine HW.out.mono ?_; rintro e w3 ⟨A3, c3, rfl, hO3, hb3⟩; refine park ?_; intro q hq)
    have HB3 := Lib.hid (HB2.out.trans (hb3.mono HB2.out.size))
    have HO3 : Hid (OwnB w3 w2.heap.size (.slice A3 r3.length c3) r3) := hO3
    have HO23 := Lib.hid (HO2.out.below hb3)
    have HSz := Lib.hid hb3.size
    clear hO3 hb3 HW
    refine hq.out ?_
    clear hq
    have HR := Lib.hid (HR0.out w3 HB3.out)
    go_wp2_with (go_at_call 21; refine HR.out.mono ?_; rintro e w4 ⟨A4, c4, rfl, hb4', hb4⟩; refine park ?_; intro q hq)
    have HB4 := Lib.hid (HB3.out.trans (hb4.mono HB3.out.size))
    have HO34 := Lib.hid (HO3.out.below hb4)
    have HO24 := Lib.hid (HO23.out.below hb4)
    have s4 : (convert 23 9 (.slice A4 r3.length c4)).run Tryd.prog w4 = .ok (.string (bstr r3)) w4 := run_str rfl hb4'
    have s3 := run_str (c := c3) rfl HO34.out.bytes
    have HSz4 := Lib.hid (Nat.le_trans HSz.out hb4.size)
    clear hb4' hb4 HR HO3 HO23 HR0
    refine hq.out ?_
    clear hq
    have u1 : ((r1 : Int) != (r1 : Int)) = false := by simp
    have u2 : ((r2.toNat : Int) != (r2.toNat : Int)) = false := by simp
    have u4 : (r4 != r4) = false := by simp
    have u3 : ((bstr r3).toList != (bstr r3).toList) = false := by simp
    have hr3 : r3.length ≤ 9223372036854775807 := by
      obtain ⟨A', c', h, _, h2, h3⟩ := HO34.out.sl
      omega
    have HO2lt : Hid (∀ k, (Value.slice A2 l.length c2).ownBlock = some k → k < w2.heap.size) := fun k hk => (HO2.out.lt k hk).2
    have HWsz : Hid (w.heap.size ≤ w2.heap.size) := HB2.out.size
    clear HO2 HB2 HB3 HSz
    go_wp2_with fail
    obtain ⟨wo, rfl⟩ : ∃ wo : World, wo = w4 := ⟨_, rfl⟩
    clear s4 s3
    go_loopw [55] (fun i wr => ∃ (k : Nat) (m : List UInt8), k ≤ r3.length ∧ i = .int .i64 k ∧ Hid (m.length = r3.length ∧ OwnB wr w2.heap.size (.slice A3 r3.length c3) m ∧ Kept (fun b => w2.heap.size ≤ b) wo wr)) (fun i _ => r3.length - (intOf i).toNat)
    case atStart => exact ⟨0, r3, Nat.zero_le _, rfl, rfl, HO34.out, Kept.refl _ _⟩
    case round =>
      obtain ⟨k, m, hk, rfl, HR⟩ := hrel
      by_cases hlt : k < r3.length
      · obtain ⟨g4, hA4⟩ : ∃ g, A3 = some ⟨g, 0, none⟩ := by
          rcases HR.out.2.1.form with ⟨h, h2⟩ | ⟨g, c', h, _⟩
          · have := HR.out.1; rw [h2] at this; simp at this; omega
          · injection h with h; exact ⟨g, h⟩
        subst hA4
        have hg4 := (HR.out.2.1.lt g4 rfl).1
        have hc := HR.out.2.1.cells k (by rw [HR.out.1]; exact hlt)
        obtain ⟨hc1, hc2⟩ := hc
        obtain ⟨y, ha⟩ : ∃ y : UInt8, (((at8 m k).toNat : Int) + (1 : Int)) % (256 : Int) = (y.toNat : Int) := ⟨_, u8_add1 (at8 m k)⟩
        obtain ⟨b1, b2⟩ := ltu8 (at8 m k)
        have HN : Hid ((m.set k y).length = r3.length ∧ OwnB (wr.setCell ⟨g4, k, none⟩ (.int .u8 (y.toNat : Int))) w2.heap.size (.slice (some ⟨g4, 0, none⟩) r3.length c3) (m.set k y) ∧ Kept (fun b => w2.heap.size ≤ b) wo (wr.setCell ⟨g4, k, none⟩ (.int .u8 (y.toNat : Int)))) :=
          ⟨by rw [List.length_set]; exact HR.out.1, HR.out.2.1.set k y, HR.out.2.2.setCell (Or.inl hg4) _⟩
        clear HR hg4
        go_wp2
        go_roundw
        case rel => exact ⟨k + 1, m.set k y, by omega, by go_num, HN⟩
        case measure => simp [intOf]; omega
      · have HK := Lib.hid HR.out.2.2
        clear HR
        have HX : Hid (OwnB wr w.heap.size (.slice A2 l.length c2) l) := HO24.out.kept HK.out (fun b hb e => by
          have := HO2lt.out b hb
          omega)
        have HX4 : Hid (Below w.heap.size w wr) := HB4.out.trans (HK.out.below HB4.out.size (fun b hb e => by have := HWsz.out; omega))
        have hs1 := run_str (c := c2) rfl HX.out.bytes
        have hs2 := run_str (c := c) rfl (HB.out.below HX4.out)
        clear HK
        go_wp2_with (go_at_call 19; refine (works7_calls _ (HH.out.below HX4.out)).mono ?_; rintro e w9 ⟨rfl, hb9⟩; have hb9 := Lib.hid hb9)
        go_ret
        exact ⟨rfl, HX4.out.trans (hb9.out.mono HX4.out.size)⟩
end Go.Proofs.YtibhoekbjgoanaaDoor
