/- The disk: New, filled, Write. -/
import Derived.Test.YtehigfpdeoebdaaDiskR
set_option linter.unusedSimpArgs false
set_option linter.unusedVariables false
namespace Go.Proofs.Ytehigfpdeoebdaa.Dsk
open Go.RowKit
def newD (n : Int) : DiskM := ⟨n, fun _ => zsec, [], 0, false, 0, 0⟩
theorem newD_ok (n : Int) (h : 1 ≤ n ∧ n ≤ 4096) : (newD n).Ok := ⟨fun _ => zsec_length, by simp [newD], h, by simp [newD], by simp [newD], by simp [newD]⟩
def RetD (w0 : World) (d : DiskM) (wv : Value) (e : Ending) (w' : World) : Prop :=
  ∃ a m, e = .returned (.tuple #[.pointer (some ⟨a, 0, none⟩), .int .i64 0]) ∧ DiskAt w' w0.heap.size a m wv d ∧ Below w0.heap.size w0 w'
set_option maxRecDepth 100000 in
set_option maxHeartbeats 400000 in
theorem New_calls (n : Int) (hn : 1 ≤ n ∧ n ≤ 4096) (w : World) : Calls Try.prog 4 #[.int .i64 n] w (RetD w (newD n) (.slice none 0 0)) := by
  have h1 : decide (n < (1 : Int)) = false := by simp; omega
  have h2 : decide (n > (4096 : Int)) = false := by simp; omega
  have hmk : (Instr.makeMap 50 none).run Try.prog w = .ok (.map (some w.heap.size)) (w.alloc (.map #[] 0)) := by simp [Instr.makeMap, run_newObj_alloc]
  go_enter Try.func4, Try.ntmps4
  go_wp2
  go_ret2
  have hb : ((w.alloc (.map #[] 0)).alloc (.cells #[.int .i64 n, .map (some w.heap.size), .slice none 0 0, .int .i64 0, .bool false, .int .i64 0] 53)).heap[w.heap.size + 1]? = some (.cells #[.int .i64 n, .map (some w.heap.size), .slice none 0 0, .int .i64 0, .bool false, .int .i64 0] 53 (0, 0)) := by
    have := heap_alloc_new (w.alloc (.map #[] 0)) (.cells #[.int .i64 n, .map (some w.heap.size), .slice none 0 0, .int .i64 0, .bool false, .int .i64 0] 53)
    simpa using this
  have hB : Below w.heap.size w ((w.alloc (.map #[] 0)).alloc (.cells #[.int .i64 n, .map (some w.heap.size), .slice none 0 0, .int .i64 0, .bool false, .int .i64 0] 53)) :=
    ((Below.refl w.heap.size w).alloc (Nat.le_refl _) _).alloc (by simp) _
  have hM : MAt ((w.alloc (.map #[] 0)).alloc (.cells #[.int .i64 n, .map (some w.heap.size), .slice none 0 0, .int .i64 0, .bool false, .int .i64 0] 53)) w.heap.size 0 (.map []) (newD n).held :=
    (MAt.new w).kept (S := fun _ => False) (Kept.of_below ((Below.refl _ _).alloc (Nat.le_refl _) _)) (fun x => x)
  refine ⟨w.heap.size + 1, w.heap.size, ?_, ⟨hb, ⟨0, _, hM, by simp [newD]⟩, ⟨rfl, .inl ⟨rfl, rfl⟩⟩, ⟨by omega, Nat.le_refl _⟩, newD_ok n hn⟩, hB⟩
  simp
end Go.Proofs.Ytehigfpdeoebdaa.Dsk
