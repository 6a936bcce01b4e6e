/- The walk of CrcSeals. -/
import Derived.Test.YtgodnmlggomaaaaDoorCrcSealsW
import Derived.Deep.RegionHeld
namespace Go.Proofs.YtgodnmlggomaaaaDoor.Crc
open Go.RowKit Go.Proofs.YtgodnmlggomaaaaDoor
set_option linter.unusedSimpArgs false
set_option linter.unusedVariables false

theorem _root_.Go.Proofs.YtgodnmlggomaaaaDoor.OwnB.nonnil {w : World} {base : Nat} {v : Value} {l : List UInt8} (h : OwnB w base v l) (hn : v ≠ .slice none 0 0) : ∃ g c, v = .slice (some ⟨g, 0, none⟩) l.length c ∧ base ≤ g ∧ g < w.heap.size ∧ l.length ≤ c := by
  rcases h.form with ⟨h1, _⟩ | h1
  · exact absurd h1 hn
  · exact h1

def RefOpened (w0 : World) (l : List UInt8) (e : Ending) (w' : World) : Prop :=
  ∃ Az cz, e = .returned (.tuple #[.slice Az (openB l).1.length cz, .int .i64 (openB l).2]) ∧ Bytes w0 Az (openB l).1 ∧ Below w0.heap.size w0 w'
theorem refOpen_told (A : Option Addr) (c m : Nat) (l : List UInt8) (w : World) (hm : m = l.length) (hb : Bytes w A l) (hnil : A = none → c = 0) (hc : m ≤ c) (hl : m ≤ 140737488355328) :
    Calls Tryd.prog 19 #[.slice A m c] w (RefOpened w l) :=
  (refOpen_calls A c m l w hm hb hnil hc hl).mono fun e w' ⟨he, hw⟩ => by
    subst hm
    by_cases h0 : (openB l).2 = 0
    · have h1 : (openB l).1 = l.take (l.length - 4) := by
        unfold openB at h0 ⊢
        by_cases h4 : l.length < 4
        · rw [if_pos h4] at h0; exact absurd h0 (by decide)
        · rw [if_neg h4] at h0 ⊢
          split at h0
          · rename_i h; rw [if_pos h]
          · exact absurd h0 (by decide)
      rw [if_pos h0] at he
      refine ⟨A, c, ?_, ?_, hw⟩
      · rw [he, h1, List.length_take, Nat.min_eq_left (by omega)]
      · rw [h1]; exact hb.take _
    · have h1 : (openB l).1 = [] := by
        unfold openB at h0 ⊢
        by_cases h4 : l.length < 4
        · rw [if_pos h4]
        · rw [if_neg h4] at h0 ⊢
          split at h0
          · exact absurd rfl h0
          · rename_i h; rw [if_neg h]
      rw [if_neg h0] at he
      refine ⟨none, 0, ?_, ?_, hw⟩
      · rw [he, h1]; rfl
      · rw [h1]; exact Bytes.nil _ _

set_option maxHeartbeats 2000000 in
set_option maxRecDepth 100000 in
theorem CrcSeals_walk (A : Option Addr) (c : Nat) (l : List UInt8) (w : World) (hh : HalfIs w) (hb : Bytes w A l) (hnil : A = none → c = 0) (hc : l.length ≤ c) (hl : l.length ≤ 140737488351232) :
    Calls Tryd.prog 7 #[.slice A l.length c] w fun e w' => e = .returned (.bool true) ∧ Below w.heap.size w w' := by
  have HH := Lib.hid hh
  have HB := Lib.hid hb
  have HN := Lib.hid hnil
  have HC := Lib.hid hc
  clear hh hb hnil hc
  go_enter Tryd.func7, Tryd.ntmps7
  by_cases hbig : 3000 < l.length
  · go_wp2
    go_ret
    exact ⟨rfl, Below.refl _ _⟩
  · have hs : l.length ≤ 3000 := by omega
    go_wp2_with (with_reducible refine park_append ?_; intro q hq)
    refine hq.out ?_
    clear hq
    refine wpList_append_bytes rfl _ _ rfl w.heap.size _ [] rfl (OwnB.lit w _ (Nat.le_refl _) [] [] rfl 0 rfl (by decide)) A l.length c l rfl rfl HN.out (HB.out.alloc _) (by simp; omega) (by simp) ?_
    intro v2 w2 hown2 hg2 hnn
    have HB2 := Lib.hid (((Below.refl w.heap.size w).alloc (Nat.le_refl _) _).grown hg2 (by simp) (fun k hk => by cases hk; exact Nat.le_refl _))
    obtain ⟨g2, c2, rfl, hg2b, hg2l, hlc⟩ := OwnB.nonnil hown2 (fun h => by have := (hnn.mp h).1; injection this with h1; cases h1)
    simp only [List.nil_append] at hown2 hlc
    have HO2 := Lib.hid hown2
    clear hown2 hg2 hnn
    simp only [List.nil_append]
    go_wp2_with (go_at_call 17; refine (Seal_calls _ c2 l _ (HH.out.below HB2.out) HO2.out.bytes (fun h => by cases h) (by omega)).mono ?_; rintro e w3 hret; refine park ?_; intro q hq)
    obtain ⟨A3, c3, rfl, hown3, hb3⟩ := hret
    obtain ⟨g3, hA3⟩ : ∃ g, A3 = some ⟨g, 0, none⟩ := by
      rcases hown3.form with ⟨h, _⟩ | ⟨g, c', h, _⟩
      · simp [sealB_length] at h
      · simp at h; exact ⟨g, h.1⟩
    subst hA3
    have HO3 := Lib.hid hown3
    have HB3 := Lib.hid hb3
    clear hown3 hb3
    refine hq.out ?_
    clear hq
    have hhalf3 := Lib.hid (HH.out.below (HB2.out.trans (HB3.out.mono HB2.out.size)))
    have hown23 := Lib.hid (HO2.out.below HB3.out)
    have hopen : (openB l).1.length ≤ l.length := by
      unfold openB
      split
      · simp
      · split
        · simp only [List.length_take]; omega
        · simp
    go_wp2_with (first | (go_at_call 18; refine (Open_calls _ c2 l _ hhalf3.out hown23.out.bytes (fun h => by cases h) hlc (by omega)).mono ?_; rintro e w4 hret; refine park ?_; intro q hq))
    obtain ⟨A4, c4, rfl, hown4, hb4⟩ := hret
    have HO4 := Lib.hid hown4
    have HB4 := Lib.hid hb4
    clear hown4 hb4
    refine hq.out ?_
    clear hq
    have HX : Hid (Below w.heap.size w w4) := (HB2.out.trans (HB3.out.mono HB2.out.size)).trans (HB4.out.mono (Nat.le_trans HB2.out.size HB3.out.size))
    go_wp2_with (first | (go_at_call 19; refine (refOpen_told A c _ l _ rfl (HB.out.below HX.out) HN.out HC.out (by omega)).mono ?_; rintro e w5 hret; refine park ?_; intro q hq))
    obtain ⟨A5, c5, rfl, hby5, hb5⟩ := hret
    have HY5 := Lib.hid (hby5.below hb5)
    have HB5 := Lib.hid hb5
    clear hby5 hb5
    have HX5 : Hid (Below w.heap.size w w5) := HX.out.trans (HB5.out.mono HX.out.size)
    have HO45 := Lib.hid (HO4.out.below HB5.out)
    have HO35 := Lib.hid ((HO3.out.below HB4.out).below HB5.out)
    have HO25 := Lib.hid ((hown23.out.below HB4.out).below HB5.out)
    refine hq.out ?_
    clear hq
    go_wp2
    have hcx := fun (w' : World) (h : Hid (Below w5.heap.size w5 w')) => run_str (c := c3) rfl (HO35.out.below h.out).bytes
    have hcy := fun (w' : World) (h : Hid (Below w5.heap.size w5 w')) => run_str (c := c4) rfl (HO45.out.below h.out).bytes
    have hcz := fun (w' : World) (h : Hid (Below w5.heap.size w5 w')) => run_str (c := c5) rfl (HY5.out.below h.out)
    have C1 := Lib.hid (fun (w' : World) (h : Hid (Below w5.heap.size w5 w')) => refSeal_calls A c _ l w' rfl (HB.out.below (HX5.out.trans (h.out.mono HX5.out.size))) HN.out (by omega))
    have hd : Hid (Below w5.heap.size w5 w5.drew) := (Below.refl _ _).drew
    go_cut [46] (fun s wc => s = .bool false ∧ Hid (Below w5.heap.size w5 wc))
    case first =>
      go_region_held (fun w' => Hid (Below w5.heap.size w5 w')) (first | exact (Below.refl _ _).drew | assumption) (first | (go_at_call 20; (with_reducible refine (C1.out _ (by assumption)).mono ?_); rintro e w' ⟨A', c', rfl, hown, hb⟩; have hb2 := (show Hid (Below w5.heap.size w5 w') from Below.trans (show Below w5.heap.size w5 _ from by assumption) (hb.mono (by have := Below.size (show Below w5.heap.size w5 _ from by assumption); omega))); have hs := run_str (c := c') rfl hown.bytes; clear hown hb))
      all_goals
        go_wp2
        go_meet
        case rel => exact ⟨by first | rfl | (simp; done), by assumption⟩
    case rest =>
      obtain ⟨rfl, HC5⟩ := hcut
      have hsl : (sealB l).length ≤ 3004 := by rw [sealB_length]; omega
      have hol : (openB l).1.length ≤ 3000 := by omega
      clear hcx hcy hcz C1 hd
      have HX := Lib.hid (HO35.out.below HC5.out)
      have HY := Lib.hid (HO45.out.below HC5.out)
      have hx3 : g3 < w3.heap.size ∧ w2.heap.size ≤ g3 := by
        rcases HO3.out.form with ⟨h, _⟩ | ⟨g, c', h, h1, h2, _⟩
        · injection h with h; cases h
        · injection h with h; cases h; exact ⟨h2, h1⟩
      go_wp2
      go_loopw [49] (fun i wr => ∃ (k : Nat) (m : List UInt8), k ≤ (sealB l).length ∧ i = .int .i64 k ∧ Hid (m.length = (sealB l).length ∧ OwnB wr w2.heap.size (.slice (some ⟨g3, 0, none⟩) (sealB l).length c3) m ∧ Kept (fun b => b = g3) wc wr)) (fun i _ => (sealB l).length - (intOf i).toNat)
      case atStart => exact ⟨0, sealB l, Nat.zero_le _, rfl, rfl, HX.out, Kept.refl _ _⟩
      case round =>
        obtain ⟨k, m, hk, rfl, HR⟩ := hrel
        by_cases hlt : k < (sealB l).length
        · have hc := HR.out.2.1.cells k (by rw [HR.out.1]; exact hlt)
          obtain ⟨hc1, hc2⟩ := hc
          obtain ⟨y, ha⟩ : ∃ y : UInt8, (((at8 m k).toNat : Int) + (1 : Int)) % (256 : Int) = (y.toNat : Int) := ⟨_, u8_add1 (at8 m k)⟩
          obtain ⟨b1, b2⟩ := ltu8 (at8 m k)
          have HN : Hid ((m.set k y).length = (sealB l).length ∧ OwnB (wr.setCell ⟨g3, k, none⟩ (.int .u8 (y.toNat : Int))) w2.heap.size (.slice (some ⟨g3, 0, none⟩) (sealB l).length c3) (m.set k y) ∧ Kept (fun b => b = g3) wc (wr.setCell ⟨g3, k, none⟩ (.int .u8 (y.toNat : Int)))) :=
            ⟨by rw [List.length_set]; exact HR.out.1, HR.out.2.1.set k y, HR.out.2.2.setCell (Or.inl rfl) _⟩
          clear HR
          go_wp2
          go_roundw
          case rel => exact ⟨k + 1, m.set k y, by omega, by go_num, HN⟩
          case measure => simp [intOf]; omega
        · have HK := Lib.hid HR.out.2.2
          clear HR
          have HY2 : Hid (OwnB wr w3.heap.size (.slice A4 (openB l).1.length c4) (openB l).1) := HY.out.kept HK.out (fun b hb e => by
            have := HY.out.lt b hb
            have h3 := hx3
            omega)
          have HX2 : Hid (Below w2.heap.size w2 wr) := (((HB3.out.trans (HB4.out.mono HB3.out.size)).trans (HB5.out.mono (Nat.le_trans HB3.out.size HB4.out.size))).trans (HC5.out.mono (Nat.le_trans (Nat.le_trans HB3.out.size HB4.out.size) HB5.out.size))).trans (HK.out.below (Nat.le_trans (Nat.le_trans (Nat.le_trans HB3.out.size HB4.out.size) HB5.out.size) HC5.out.size) (fun b hb e => by have h3 := hx3; omega))
          clear HX HY HC5 HK
          obtain ⟨wo, rfl⟩ : ∃ wo : World, wo = wr := ⟨_, rfl⟩
          go_wp2
          go_loopw [61] (fun i wr => ∃ (k : Nat) (m : List UInt8), k ≤ (openB l).1.length ∧ i = .int .i64 k ∧ Hid (m.length = (openB l).1.length ∧ OwnB wr w3.heap.size (.slice A4 (openB l).1.length c4) m ∧ Kept (fun b => w3.heap.size ≤ b) wo wr)) (fun i _ => (openB l).1.length - (intOf i).toNat)
          case atStart => exact ⟨0, (openB l).1, Nat.zero_le _, rfl, rfl, HY2.out, Kept.refl _ _⟩
          case round =>
            obtain ⟨k, m, hk, rfl, HR⟩ := hrel
            by_cases hlt : k < (openB l).1.length
            · obtain ⟨g4, hA4⟩ : ∃ g, A4 = some ⟨g, 0, none⟩ := by
                rcases HR.out.2.1.form with ⟨h, h2⟩ | ⟨g, c', h, _⟩
                · have := HR.out.1; rw [h2] at this; simp at this; omega
                · injection h with h; exact ⟨g, h⟩
              subst hA4
              have hg4 := (HR.out.2.1.lt g4 rfl).1
              have hc := HR.out.2.1.cells k (by rw [HR.out.1]; exact hlt)
              obtain ⟨hc1, hc2⟩ := hc
              obtain ⟨y, ha⟩ : ∃ y : UInt8, (((at8 m k).toNat : Int) + (1 : Int)) % (256 : Int) = (y.toNat : Int) := ⟨_, u8_add1 (at8 m k)⟩
              obtain ⟨b1, b2⟩ := ltu8 (at8 m k)
              have HN : Hid ((m.set k y).length = (openB l).1.length ∧ OwnB (wr.setCell ⟨g4, k, none⟩ (.int .u8 (y.toNat : Int))) w3.heap.size (.slice (some ⟨g4, 0, none⟩) (openB l).1.length c4) (m.set k y) ∧ Kept (fun b => w3.heap.size ≤ b) wo (wr.setCell ⟨g4, k, none⟩ (.int .u8 (y.toNat : Int)))) :=
                ⟨by rw [List.length_set]; exact HR.out.1, HR.out.2.1.set k y, HR.out.2.2.setCell (Or.inl hg4) _⟩
              clear HR hg4
              go_wp2
              go_roundw
              case rel => exact ⟨k + 1, m.set k y, by omega, by go_num, HN⟩
              case measure => simp [intOf]; omega
            · have HK := Lib.hid HR.out.2.2
              clear HR
              have HX3 : Hid (Below w2.heap.size w2 wr) := HX2.out.trans (HK.out.below HX2.out.size (fun b hb e => by have := HB3.out.size; omega))
              have HX4 : Hid (Below w.heap.size w wr) := HB2.out.trans (HX3.out.mono HB2.out.size)
              have hs1 := run_str (c := c2) rfl (HO2.out.below HX3.out).bytes
              have hs2 := run_str (c := c) rfl (HB.out.below HX4.out)
              clear HX2 HK
              go_wp2_with (go_at_call 12; refine (works_calls _ (HH.out.below HX4.out)).mono ?_; rintro e w9 ⟨rfl, hb9⟩)
              go_ret
              exact ⟨rfl, HX4.out.trans (hb9.mono HX4.out.size)⟩
end Go.Proofs.YtgodnmlggomaaaaDoor.Crc
