/- The disk: New, filled, Write. -/
import Derived.Test.YtgodnmlggomaaaaDiskR
set_option linter.unusedSimpArgs false
set_option linter.unusedVariables false
namespace Go.Proofs.Ytgodnmlggomaaaa
open Go.RowKit
def newD (n : Int) : DiskM := ⟨n, fun _ => zsec, [], 0, false, 0, 0⟩
theorem newD_ok (n : Int) (h : 1 ≤ n ∧ n ≤ 4096) : (newD n).Ok := ⟨fun _ => zsec_length, by simp [newD], h, by simp [newD], by simp [newD], by simp [newD]⟩
def RetD (w0 : World) (d : DiskM) (wv : Value) (e : Ending) (w' : World) : Prop :=
  ∃ a m, e = .returned (.tuple #[.pointer (some ⟨a, 0, none⟩), .int .i64 0]) ∧ DiskAt w' w0.heap.size a m wv d ∧ Below w0.heap.size w0 w'
set_option maxRecDepth 100000 in
set_option maxHeartbeats 400000 in
theorem New_calls (n : Int) (hn : 1 ≤ n ∧ n ≤ 4096) (w : World) : Calls Try.prog 8 #[.int .i64 n] w (RetD w (newD n) (.slice none 0 0)) := by
  have h1 : decide (n < (1 : Int)) = false := by simp; omega
  have h2 : decide (n > (4096 : Int)) = false := by simp; omega
  have hmk : (Instr.makeMap 60 none).run Try.prog w = .ok (.map (some w.heap.size)) (w.alloc (.map #[] 0)) := by simp [Instr.makeMap, run_newObj_alloc]
  go_enter Try.func8, Try.ntmps8
  go_wp2
  go_ret2
  have hb : ((w.alloc (.map #[] 0)).alloc (.cells #[.int .i64 n, .map (some w.heap.size), .slice none 0 0, .int .i64 0, .bool false, .int .i64 0] 63)).heap[w.heap.size + 1]? = some (.cells #[.int .i64 n, .map (some w.heap.size), .slice none 0 0, .int .i64 0, .bool false, .int .i64 0] 63 (0, 0)) := by
    have := heap_alloc_new (w.alloc (.map #[] 0)) (.cells #[.int .i64 n, .map (some w.heap.size), .slice none 0 0, .int .i64 0, .bool false, .int .i64 0] 63)
    simpa using this
  have hB : Below w.heap.size w ((w.alloc (.map #[] 0)).alloc (.cells #[.int .i64 n, .map (some w.heap.size), .slice none 0 0, .int .i64 0, .bool false, .int .i64 0] 63)) :=
    ((Below.refl w.heap.size w).alloc (Nat.le_refl _) _).alloc (by simp) _
  have hM : MAt ((w.alloc (.map #[] 0)).alloc (.cells #[.int .i64 n, .map (some w.heap.size), .slice none 0 0, .int .i64 0, .bool false, .int .i64 0] 63)) w.heap.size 0 (.map []) (newD n).held :=
    (MAt.new w).kept (S := fun _ => False) (Kept.of_below ((Below.refl _ _).alloc (Nat.le_refl _) _)) (fun x => x)
  refine ⟨w.heap.size + 1, w.heap.size, ?_, ⟨hb, ⟨0, _, hM, by simp [newD]⟩, ⟨rfl, .inl ⟨rfl, rfl⟩⟩, ⟨by omega, Nat.le_refl _⟩, newD_ok n hn⟩, hB⟩
  simp
def RetY (w0 : World) (l : List UInt8) (e : Ending) (w' : World) : Prop :=
  ∃ g c, e = .returned (.slice (some ⟨g, 0, none⟩) 256 c) ∧ OwnB w' w0.heap.size (.slice (some ⟨g, 0, none⟩) 256 c) l ∧ Below w0.heap.size w0 w'
theorem u8_id (c : UInt8) : IntKind.u8.wrap (c.toNat : Int) = (c.toNat : Int) := by
  have := c.toNat_lt
  simp only [IntKind.wrap, IntKind.bits, IntKind.signed]; simp; omega
def fillK (k : Nat) (c : UInt8) : List UInt8 := List.replicate k c ++ List.replicate (256 - k) 0
theorem fillK_set (k : Nat) (c : UInt8) (h : k < 256) : (fillK k c).set k c = fillK (k + 1) c := by
  unfold fillK
  rw [List.set_append_right _ _ (by simp), List.length_replicate, Nat.sub_self, show 256 - k = (255 - k) + 1 by omega, List.replicate_succ, List.set_cons_zero, List.replicate_succ', List.append_assoc]
  simp [show 256 - (k + 1) = 255 - k by omega]
theorem fillK_len (k : Nat) (c : UInt8) (h : k ≤ 256) : (fillK k c).length = 256 := by simp [fillK]; omega
set_option maxRecDepth 100000 in
set_option maxHeartbeats 400000 in
theorem filled_calls (c : UInt8) (w : World) : Calls Try.prog 11 #[.int .u8 (c.toNat : Int)] w (RetY w (List.replicate 256 c)) := by
  go_enter Try.func11, Try.ntmps11
  go_wp2_with (with_reducible refine park_make ?_; intro q hq)
  refine hq.out ?_
  clear hq
  refine wpList_make_bytes rfl _ _ rfl w.heap.size _ _ 256 rfl rfl rfl rfl (by omega) (Nat.le_refl _) ?_
  intro w1 hown hg
  have HB1 := Lib.hid ((Below.refl w.heap.size w).grown hg (Nat.le_refl _) (fun k hk => by cases hk))
  have HO := Lib.hid hown
  obtain ⟨g, hgg⟩ : ∃ g, w.heap.size = g := ⟨_, rfl⟩
  have hgg := Lib.hid hgg
  clear hown hg
  rw [hgg.out] at HB1 HO ⊢
  obtain ⟨wo, rfl⟩ : ∃ wo : World, wo = w1 := ⟨_, rfl⟩
  go_wp2
  go_loopw [8] (fun i wr => ∃ k : Nat, k ≤ 256 ∧ i = .int .i64 k ∧ Hid (OwnB wr g (.slice (some ⟨g, 0, none⟩) 256 256) (fillK k c) ∧ Kept (fun b => b = g) wo wr)) (fun i _ => 256 - (intOf i).toNat)
  case atStart => exact ⟨0, by omega, rfl, by have : fillK 0 c = List.replicate 256 0 := rfl; rw [this]; exact HO.out, Kept.refl _ _⟩
  case round =>
    obtain ⟨k, hk, rfl, HR⟩ := hrel
    by_cases hlt : k < 256
    · obtain ⟨hc1, hc2⟩ := HR.out.1.cells k (by rw [fillK_len k c hk]; exact hlt)
      have HN : Hid (OwnB (wr.setCell ⟨g, k, none⟩ (.int .u8 (c.toNat : Int))) g (.slice (some ⟨g, 0, none⟩) 256 256) (fillK (k + 1) c) ∧ Kept (fun b => b = g) wo (wr.setCell ⟨g, k, none⟩ (.int .u8 (c.toNat : Int)))) :=
        ⟨by rw [← fillK_set k c hlt]; exact HR.out.1.set k c, HR.out.2.setCell (Or.inl rfl) _⟩
      clear HR
      go_wp2
      go_roundw
      case rel => exact ⟨k + 1, by omega, by go_num, HN⟩
      case measure => simp [intOf]; omega
    · obtain rfl : k = 256 := by omega
      go_wp2
      go_ret
      refine ⟨g, 256, rfl, ?_, ?_⟩
      · have e : List.replicate 256 c = fillK 256 c := by simp [fillK]
        rw [e, hgg.out]; exact HR.out.1
      · rw [hgg.out]; exact HB1.out.trans (HR.out.2.below (by rw [← hgg.out] at HB1 ⊢; exact HB1.out.size) (fun b hb e => by omega))
end Go.Proofs.Ytgodnmlggomaaaa
