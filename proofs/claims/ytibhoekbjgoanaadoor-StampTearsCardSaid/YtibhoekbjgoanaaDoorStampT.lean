/- The walks of stamp.Torn and of the document's Torn. -/
import Derived.Test.YtibhoekbjgoanaaDoorStampW
import Derived.Deep.CutBlock
set_option linter.unusedSimpArgs false
set_option linter.unusedVariables false
namespace Go.Proofs.YtibhoekbjgoanaaDoor
open Go.RowKit Go.Proofs.YtibhoekbjgoanaaDoor.Crc
def tornN (at_ : Int) : Nat := (min (max at_ 0) 256).toNat
def tornB (old young : List UInt8) (at_ : Int) : List UInt8 := young.take (tornN at_) ++ old.drop (tornN at_)
set_option maxRecDepth 100000 in
set_option maxHeartbeats 1000000 in
theorem Torn_calls (A : Option Addr) (n c : Nat) (old : List UInt8) (B : Option Addr) (m d : Nat) (young : List UInt8) (at_ : Int) (w : World) (hn : n = old.length) (hb : Bytes w A old) (hc : n ≤ c) (hnil : A = none → c = 0)
    (hm : m = young.length) (hk : Bytes w B young) (hd : m ≤ d) (hnil2 : B = none → d = 0) (hl : n ≤ 1000) (hl2 : m ≤ 1000) :
    Calls Tryd.prog 22 #[.slice A n c, .slice B m d, .int .i64 at_] w (RetB w (tornB old young at_)) := by
  obtain ⟨a, ha⟩ : ∃ a, tornN at_ = a := ⟨_, rfl⟩
  have ha1 : a ≤ 256 := by rw [← ha]; unfold tornN; omega
  have m1 : min (max at_ 0) 256 = (a : Int) := by rw [← ha]; unfold tornN; omega
  obtain ⟨y, hy⟩ : ∃ y : Nat, min a m = y := ⟨_, rfl⟩
  have m2 : min (a : Int) (m : Int) = (y : Int) := by omega
  have hym : y ≤ m := by omega
  have hty : young.take a = young.take y := by
    rw [← hy, hm]
    by_cases h : a ≤ young.length
    · rw [Nat.min_eq_left h]
    · rw [Nat.min_eq_right (by omega), List.take_length, List.take_of_length_le (by omega)]
  have HT := Lib.hid (show tornB old young at_ = young.take y ++ old.drop a by unfold tornB; rw [ha, hty])
  have HB := Lib.hid hb
  have HK := Lib.hid hk
  have HN := Lib.hid hn
  have HM := Lib.hid hm
  have HN1 := Lib.hid hnil
  have HN2 := Lib.hid hnil2
  rw [HT.out]
  clear hb hk hn hm hnil hnil2 hy ha hty
  have hly : (young.take y).length = y := by rw [List.length_take, ← HM.out]; omega
  have HLy := Lib.hid hly
  clear hly
  go_enter Tryd.func22, Tryd.ntmps22
  go_wp2_with (with_reducible refine park_append ?_; intro q hq)
  refine hq.out ?_
  clear hq
  refine wpList_append_bytes rfl _ _ rfl w.heap.size (.slice none 0 0) [] rfl (World.ownsRow_nil _ _ _ _) B y d (young.take y) rfl HLy.out.symm HN2.out (HK.out.take y) (by rw [HLy.out]; simp; omega) (Nat.le_refl _) ?_
  intro v2 w2 hown2 hg2 _
  have HB2 : Hid (Below w.heap.size w w2) := (Below.refl _ _).grown hg2 (Nat.le_refl _) (fun k hk => by cases hk)
  have HO2 : Hid (OwnB w2 w.heap.size v2 (young.take y)) := by have := hown2; rw [List.nil_append] at this; exact this
  clear hown2 hg2
  by_cases hlt : a < n
  · obtain ⟨b, o, rfl⟩ := HB.out.spot (by rw [← HN.out]; omega)
    have hcn : ¬ c = a := by omega
    go_wp2_with (with_reducible refine park_append ?_; intro q hq)
    refine hq.out ?_
    clear hq
    refine wpList_append_bytes rfl _ _ rfl w.heap.size v2 (young.take y) rfl HO2.out (some ⟨b, o + a, none⟩) (n - a) (c - a) (old.drop a) rfl (by rw [List.length_drop, ← HN.out]) (fun h => by cases h) ((HB.out.below HB2.out).drop a) (by rw [HLy.out, List.length_drop, ← HN.out]; omega) HB2.out.size ?_
    intro v3 w3 hown3 hg3 _
    have HB3 : Hid (Below w.heap.size w w3) := HB2.out.grown hg3 HB2.out.size (fun k hk => (HO2.out.lt k hk).1)
    have HO3 := Lib.hid hown3
    clear hown3 hg3
    go_wp2
    go_ret
    exact RetB.mk HO3.out HB3.out
  · go_wp2
    go_ret
    rw [List.drop_eq_nil_of_le (by rw [← HN.out]; omega), List.append_nil]
    exact RetB.mk HO2.out HB2.out
theorem drop_snoc8 (l : List UInt8) (k a : Nat) (h : k < l.length) (ha : a ≤ k) : (l.take (k + 1)).drop a = (l.take k).drop a ++ [at8 l k] := by
  rw [take_snoc8 l k h, List.drop_append_of_le_length (by rw [List.length_take]; omega)]
theorem drop_over (l : List UInt8) (k a : Nat) (ha : k ≤ a) : (l.take k).drop a = [] := by
  apply List.drop_eq_nil_of_le
  rw [List.length_take]; omega
set_option maxRecDepth 100000 in
set_option maxHeartbeats 1000000 in
theorem refTorn_calls (A : Option Addr) (n c : Nat) (old : List UInt8) (B : Option Addr) (m d : Nat) (young : List UInt8) (at_ : Int) (w : World) (hn : n = old.length) (hb : Bytes w A old)
    (hm : m = young.length) (hk : Bytes w B young) (hl : n ≤ 1000) (hl2 : m ≤ 1000) (hat : -9223372036854775808 ≤ at_ ∧ at_ ≤ 9223372036854775807) :
    Calls Tryd.prog 23 #[.slice A n c, .slice B m d, .int .i64 at_] w (RetB w (tornB old young at_)) := by
  have HB := Lib.hid hb
  have HK := Lib.hid hk
  have HN := Lib.hid hn
  have HM := Lib.hid hm
  clear hb hk hn hm
  obtain ⟨x, hx⟩ : ∃ x : Int, min at_ 256 = x := ⟨_, rfl⟩
  have HX := Lib.hid hx
  have hx1 : x ≤ 256 := by omega
  have hxn : (tornN at_ : Int) = max x 0 := by unfold tornN; omega
  have hx2 : -9223372036854775808 ≤ x := by omega
  clear hx
  obtain ⟨a, ha⟩ : ∃ a, tornN at_ = a := ⟨_, rfl⟩
  have hT : tornB old young at_ = young.take a ++ old.drop a := by unfold tornB; rw [ha]
  rw [hT]
  rw [ha] at hxn
  clear ha hT
  go_enter Tryd.func23, Tryd.ntmps23
  go_upto_if 11 with fail
  go_cut [2] (fun s wc => s = .int .i64 x ∧ w = wc)
  case first =>
    by_cases h : at_ > 256
    · have hx : x = 256 := by have := HX.out; omega
      have HX2 := Lib.hid hx
      clear hx
      go_wp2_with fail
      go_meet
      exact ⟨by rw [HX2.out], rfl⟩
    · have hx : x = at_ := by have := HX.out; omega
      have HX2 := Lib.hid hx
      clear hx
      go_wp2_with fail
      go_meet
      exact ⟨by rw [HX2.out], rfl⟩
  case rest =>
    obtain ⟨rfl, rfl⟩ := hcut
    clear HX
    go_upto_block 0 with fail
    go_cut [7, 8] (fun v _ wc => Hid (OwnB wc w.heap.size v (young.take a) ∧ Below w.heap.size w wc))
    case first =>
      go_wp2_with fail
      go_loopw [7, 8] (fun v i wr => ∃ k : Nat, k ≤ m ∧ (k : Int) ≤ max x 0 ∧ i = .int .i64 k ∧ Hid (OwnB wr w.heap.size v (young.take k) ∧ Below w.heap.size w wr)) (fun _ i _ => m - (intOf i).toNat)
      case atStart => exact ⟨0, by omega, by omega, rfl, World.ownsRow_nil _ _ _ _, Below.refl _ _⟩
      case round =>
        obtain ⟨k, hk, hkx, rfl, HR⟩ := hrel
        by_cases hlt : k < m
        · by_cases hkx2 : (k : Int) < x
          · obtain ⟨ad, hA, hc⟩ := HK.out k (by rw [← HM.out]; exact hlt)
            cases hA
            have hc2 : wr.cell? (ad.add k) = some (.int .u8 ((at8 young k).toNat : Int)) := (HR.out.2.cell (World.block_lt_of_cell? w _ hc)).trans hc
            obtain ⟨b1, b2⟩ := ltu8 (at8 young k)
            go_wp2_with (with_reducible refine park_append ?_; intro q hq)
            refine hq.out ?_
            clear hq
            refine wpList_append_bytes rfl _ _ rfl w.heap.size u7 (young.take k) rfl (HR.out.1.alloc _) (some ⟨wr.heap.size, 0, none⟩) 1 1 [at8 young k] rfl rfl (fun h => by cases h) (bytes_of_block (heap_alloc_new wr _) rfl) (by simp; omega) (by have := HR.out.2.size; simp; omega) ?_
            intro v2 w2 hown2 hg2 _
            have HN2 : Hid (OwnB w2 w.heap.size v2 (young.take (k + 1)) ∧ Below w.heap.size w w2) :=
              ⟨by rw [take_snoc8 young k (by rw [← HM.out]; exact hlt)]; exact hown2, (HR.out.2.alloc HR.out.2.size _).grown hg2 (by have := HR.out.2.size; simp; omega) (fun j hj => (HR.out.1.lt j hj).1)⟩
            clear hown2 hg2 HR hc hc2
            go_wp2
            go_roundw
            case rel => exact ⟨k + 1, by omega, by omega, by go_num, HN2⟩
            case measure => simp [intOf]; omega
          · go_wp2_with fail
            go_meet
            have e : k = a := by omega
            rw [← e]; exact HR.out
        · have e2 : k = m := by omega
          have E2 := Lib.hid e2
          clear e2
          go_wp2_with fail
          go_meet
          have e : young.take k = young.take a := by rw [List.take_of_length_le (by rw [← HM.out]; omega), List.take_of_length_le (by rw [← HM.out]; omega)]
          rw [← e]; exact HR.out
    case rest =>
      have HC := hcut
      go_wp2_with fail
      go_loopw [7, 9] (fun v i wr => ∃ k : Nat, k ≤ n ∧ i = .int .i64 k ∧ Hid (OwnB wr w.heap.size v (young.take a ++ (old.take k).drop a) ∧ Below w.heap.size w wr)) (fun _ i _ => n - (intOf i).toNat)
      case atStart => exact ⟨0, by omega, rfl, by rw [List.take_zero, List.drop_nil, List.append_nil]; exact HC.out.1, HC.out.2⟩
      case round =>
        obtain ⟨k, hk, rfl, HR⟩ := hrel
        clear HC hcut
        by_cases hlt : k < n
        · by_cases hkx2 : (k : Int) ≥ x
          · obtain ⟨ad, hA, hc⟩ := HB.out k (by rw [← HN.out]; exact hlt)
            cases hA
            have hc2 : wr.cell? (ad.add k) = some (.int .u8 ((at8 old k).toNat : Int)) := (HR.out.2.cell (World.block_lt_of_cell? w _ hc)).trans hc
            obtain ⟨b1, b2⟩ := ltu8 (at8 old k)
            go_wp2_with (with_reducible refine park_append ?_; intro q hq)
            refine hq.out ?_
            clear hq
            have hle : (young.take a ++ (old.take k).drop a).length ≤ 2000 := by
              rw [List.length_append, List.length_take, List.length_drop, List.length_take, ← HM.out]; omega
            refine wpList_append_bytes rfl _ _ rfl w.heap.size u7 (young.take a ++ (old.take k).drop a) rfl (HR.out.1.alloc _) (some ⟨wr.heap.size, 0, none⟩) 1 1 [at8 old k] rfl rfl (fun h => by cases h) (bytes_of_block (heap_alloc_new wr _) rfl) (by rw [show [at8 old k].length = 1 from rfl]; omega) (by have := HR.out.2.size; simp; omega) ?_
            intro v2 w2 hown2 hg2 _
            have HN2 : Hid (OwnB w2 w.heap.size v2 (young.take a ++ (old.take (k + 1)).drop a) ∧ Below w.heap.size w w2) :=
              ⟨by rw [drop_snoc8 old k a (by rw [← HN.out]; exact hlt) (by omega), ← List.append_assoc]; exact hown2, (HR.out.2.alloc HR.out.2.size _).grown hg2 (by have := HR.out.2.size; simp; omega) (fun j hj => (HR.out.1.lt j hj).1)⟩
            clear hown2 hg2 HR hc hc2 hle
            go_wp2
            go_roundw
            case rel => exact ⟨k + 1, by omega, by go_num, HN2⟩
            case measure => simp [intOf]; omega
          · have HN2 : Hid (OwnB wr w.heap.size u7 (young.take a ++ (old.take (k + 1)).drop a) ∧ Below w.heap.size w wr) := by
              have h := HR.out
              rw [drop_over old k a (by omega)] at h
              refine ⟨?_, h.2⟩
              rw [drop_over old (k + 1) a (by omega)]; exact h.1
            clear HR
            go_wp2
            go_roundw
            case rel => exact ⟨k + 1, by omega, by go_num, HN2⟩
            case measure => simp [intOf]; omega
        · have e2 : k = n := by omega
          have E2 := Lib.hid e2
          clear e2
          go_wp2
          go_ret
          have h := HR.out
          rw [show old.take k = old from List.take_of_length_le (by rw [← HN.out]; omega)] at h
          exact RetB.mk h.1 h.2
end Go.Proofs.YtibhoekbjgoanaaDoor
