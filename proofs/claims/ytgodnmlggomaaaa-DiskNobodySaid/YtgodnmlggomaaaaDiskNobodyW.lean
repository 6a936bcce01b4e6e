/- The walk of DiskNobody. -/
import Derived.Test.YtgodnmlggomaaaaDiskD
import Derived.Test.YtgodnmlggomaaaaIntKit
set_option linter.unusedSimpArgs false
set_option linter.unusedVariables false
namespace Go.Proofs.Ytgodnmlggomaaaa
open Go.RowKit
def nobodyW (w : World) (x y z : Value) : World :=
  ((w.alloc (.cells #[x, y, z] 25)).alloc (.cells #[.int .i64 0, .map none, .slice none 0 0, .int .i64 0, .bool false, .int .i64 0] 63)).alloc (.cells #[.pointer none, .pointer (some ⟨w.heap.size + 1, 0, none⟩)] 26)
set_option maxRecDepth 100000 in
set_option maxHeartbeats 1000000 in
theorem nobody_calls (i : Int) (B : Option Addr) (n c : Nat) (x y z : Value) (w : World) :
    Calls Try.prog 7 #[.int .i64 i, .slice B n c, .agg #[x, y, z]] w fun e w' => e = .returned (.bool true) ∧ Below w.heap.size w w' := by
  obtain ⟨W, hW⟩ : ∃ W, nobodyW w x y z = W := ⟨_, rfl⟩
  have HW := Lib.hid hW
  have HB0 : Hid (Below w.heap.size w W) := by
    rw [← hW]
    exact (((Below.refl w.heap.size w).alloc (Nat.le_refl _) _).alloc (by simp) _).alloc (by simp; omega) _
  have hs1 : (w.alloc (.cells #[x, y, z] 25)).heap.size = w.heap.size + 1 := by simp
  have a0 := heap_alloc_new w (.cells #[x, y, z] 25)
  have a1 := heap_alloc_new (w.alloc (.cells #[x, y, z] 25)) (.cells #[.int .i64 0, .map none, .slice none 0 0, .int .i64 0, .bool false, .int .i64 0] 63)
  have b1 := (Below.refl (w.heap.size + 1) (w.alloc (.cells #[x, y, z] 25))).alloc (by simp) (.cells #[.int .i64 0, .map none, .slice none 0 0, .int .i64 0, .bool false, .int .i64 0] 63)
  have b2 := (Below.refl (w.heap.size + 2) ((w.alloc (.cells #[x, y, z] 25)).alloc (.cells #[.int .i64 0, .map none, .slice none 0 0, .int .i64 0, .bool false, .int .i64 0] 63))).alloc (by simp) (.cells #[.pointer none, .pointer (some ⟨w.heap.size + 1, 0, none⟩)] 26)
  have h0 : W.heap[w.heap.size]? = some (.cells #[x, y, z] 25 (0, 0)) := by rw [← hW]; exact (b2.block _ (by omega)).trans ((b1.block _ (by omega)).trans a0)
  have h1 : W.heap[w.heap.size + 1]? = some (.cells #[.int .i64 0, .map none, .slice none 0 0, .int .i64 0, .bool false, .int .i64 0] 63 (0, 0)) := by rw [← hW]; rw [hs1] at a1; exact (b2.block _ (by omega)).trans a1
  have h2 : W.heap[w.heap.size + 2]? = some (.cells #[.pointer none, .pointer (some ⟨w.heap.size + 1, 0, none⟩)] 26 (0, 0)) := by
    rw [← hW]
    have := heap_alloc_new ((w.alloc (.cells #[x, y, z] 25)).alloc (.cells #[.int .i64 0, .map none, .slice none 0 0, .int .i64 0, .bool false, .int .i64 0] 63)) (.cells #[.pointer none, .pointer (some ⟨w.heap.size + 1, 0, none⟩)] 26)
    have hs2 : ((w.alloc (.cells #[x, y, z] 25)).alloc (.cells #[.int .i64 0, .map none, .slice none 0 0, .int .i64 0, .bool false, .int .i64 0] 63)).heap.size = w.heap.size + 2 := by simp
    rw [hs2] at this
    exact this
  clear a0 a1 b1 b2 hs1
  have H0 := Lib.hid h0
  have H1 := Lib.hid h1
  have H2 := Lib.hid h2
  clear h0 h1 h2
  unfold nobodyW at hW
  have HWk := Lib.hid hW
  clear hW
  go_enter Try.func7, Try.ntmps7
  go_wp2
  rw [HWk.out]
  have hbase : Hid (∀ wr, Below W.heap.size W wr → wr.cell? ⟨w.heap.size, 0, none⟩ = some x ∧ wr.cell? ⟨w.heap.size, 1, none⟩ = some y ∧ wr.cell? ⟨w.heap.size, 2, none⟩ = some z ∧ wr.cell? ⟨w.heap.size + 1, 0, none⟩ = some (.int .i64 0) ∧ wr.cell? ⟨w.heap.size + 2, 0, none⟩ = some (.pointer none) ∧ wr.cell? ⟨w.heap.size + 2, 1, none⟩ = some (.pointer (some ⟨w.heap.size + 1, 0, none⟩))) := fun wr hb => by
    have e0 := (hb.block _ (Array.getElem?_eq_some_iff.1 H0.out).1).trans H0.out
    have e1 := (hb.block _ (Array.getElem?_eq_some_iff.1 H1.out).1).trans H1.out
    have e2 := (hb.block _ (Array.getElem?_eq_some_iff.1 H2.out).1).trans H2.out
    refine ⟨?_, ?_, ?_, ?_, ?_, ?_⟩ <;> first | (rw [cell_of_row _ _ _ _ _ _ e0]; rfl) | (rw [cell_of_row _ _ _ _ _ _ e1]; rfl) | (rw [cell_of_row _ _ _ _ _ _ e2]; rfl)
  clear H0 H1 H2 HW HWk
  go_loopw [17] (fun s wr => ∃ k : Nat, k ≤ 2 ∧ s = .int .i64 k ∧ Hid (Below W.heap.size W wr)) (fun s _ => 2 - (intOf s).toNat)
  case atStart => exact ⟨0, by omega, rfl, Below.refl _ _⟩
  case round =>
    obtain ⟨k, hk, rfl, HR⟩ := hrel
    by_cases hlt : k < 2
    · obtain ⟨z0, z1, z2, z3, z4, z5⟩ := hbase.out wr HR.out
      obtain ⟨p, hp, hpn⟩ : ∃ p, wr.cell? ⟨w.heap.size + 2, k, none⟩ = some (.pointer p) ∧ ∀ w', Below W.heap.size W w' → None_ p w' := by
        rcases (show k = 0 ∨ k = 1 by omega) with rfl | rfl
        · exact ⟨none, z4, fun w' _ => None_.nil w'⟩
        · exact ⟨_, z5, fun w' hb => None_.zero (hbase.out w' hb).2.2.2.1⟩
      have HP := Lib.hid hpn
      have HL := Lib.hid (Lose_none (p := p) (w := wr) (fun w' hb => HP.out w' (HR.out.trans (hb.mono HR.out.size))) x y z)
      clear hpn z3 z4 z5
      go_wp2_with (first | (go_at_call 13; refine (Read_none (HP.out _ HR.out) i).mono ?_; rintro e w' ⟨rfl, rfl⟩) | (go_at_call 14; refine HL.out.mono ?_; rintro e w2 ⟨rfl, hb2⟩; refine park ?_; intro q hq))
      have HR2 := Lib.hid (HR.out.trans (hb2.mono HR.out.size))
      clear hb2 HL z0 z1 z2 hp
      have HN := Lib.hid (HP.out _ HR2.out)
      refine hq.out ?_
      clear hq
      go_wp2_with (first | (go_at_call 10; refine (Write_none HN.out i _).mono ?_; rintro e w' ⟨rfl, rfl⟩) | (go_at_call 12; refine (Sync_none HN.out).mono ?_; rintro e w' ⟨rfl, rfl⟩) | (go_at_call 15; refine (Cut_none HN.out i).mono ?_; rintro e w' ⟨rfl, rfl⟩) | (go_at_call 24; refine (Spoil_none HN.out i i _).mono ?_; rintro e w' ⟨rfl, rfl⟩) | (go_at_call 26; refine (Size_none HN.out).mono ?_; rintro e w' ⟨rfl, rfl⟩) | (go_at_call 16; refine (Steps_none HN.out).mono ?_; rintro e w' ⟨rfl, rfl⟩) | (go_at_call 27; refine (Pending_none HN.out).mono ?_; rintro e w' ⟨rfl, rfl⟩))
      go_roundw
      case rel => exact ⟨k + 1, by omega, by go_num, HR2⟩
      case measure => simp [intOf]; omega
    · have HB1 := Lib.hid (HB0.out.trans (HR.out.mono HB0.out.size))
      have HWo := Lib.hid (works_calls wr)
      go_wp2_with (go_at_call 9; refine HWo.out.mono ?_; rintro e w2 ⟨rfl, hb2⟩; have hb2 := Lib.hid hb2)
      go_ret
      exact ⟨rfl, HB1.out.trans (hb2.out.mono HB1.out.size)⟩
theorem nobody_row (i : Int) (B : Option Addr) (c : Nat) (l : List UInt8) (x y z : Value) (w : World) (g0 : -9223372036854775808 ≤ i ∧ i ≤ 9223372036854775807) (hb : Bytes w B l) (hn : B = none → c = 0) (hc : l.length ≤ c) (hl : l.length ≤ 140737488351232) :
    Calls Try.prog 7 #[.int .i64 i, .slice B l.length c, .agg #[x, y, z]] w fun e w' => e = .returned (.bool true) ∧ Below w.heap.size w w' := nobody_calls i B l.length c x y z w
end Go.Proofs.Ytgodnmlggomaaaa
