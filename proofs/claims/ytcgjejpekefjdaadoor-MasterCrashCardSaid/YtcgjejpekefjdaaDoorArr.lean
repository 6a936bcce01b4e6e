/- Arrays of 256 bytes; copies into bytes. -/
import Derived.Test.YtcgjejpekefjdaaDoorCrcK
import Derived.Deep.MidRow
import Derived.Deep.WholeRow
import Derived.Great.Walk
import Derived.Maps.AppendAt
set_option linter.unusedSimpArgs false
set_option linter.unusedVariables false
namespace Go.Proofs.YtcgjejpekefjdaaDoor
open Go.RowKit Go.Proofs.YtcgjejpekefjdaaDoor.Crc
/-- A block that is bytes, whole. -/
def BlkB (w : World) (g : Nat) (t : TypeId) (l : List UInt8) : Prop := w.heap[g]? = some (.cells (cells8 l).toArray t (0, 0))
theorem BlkB.kept {S : Nat → Prop} {w w' : World} {g : Nat} {t : TypeId} {l : List UInt8} (h : BlkB w g t l) (hk : Kept S w w') (hs : ¬ S g) : BlkB w' g t l := by
  unfold BlkB at h ⊢
  rw [hk.block g (Array.getElem?_eq_some_iff.1 h).1 hs]; exact h
theorem BlkB.below {w w' : World} {g : Nat} {t : TypeId} {l : List UInt8} (h : BlkB w g t l) (hk : Below w.heap.size w w') : BlkB w' g t l := h.kept (S := fun _ => False) (Kept.of_below hk) (fun x => x)
theorem BlkB.lt {w : World} {g : Nat} {t : TypeId} {l : List UInt8} (h : BlkB w g t l) : g < w.heap.size := (Array.getElem?_eq_some_iff.1 h).1
theorem BlkB.cell {w : World} {g : Nat} {t : TypeId} {l : List UInt8} (h : BlkB w g t l) (i : Nat) (hi : i < l.length) : w.cell? ⟨g, i, none⟩ = some (.int .u8 ((at8 l i).toNat : Int)) ∧ w.frozen? ⟨g, i, none⟩ = false := by
  refine ⟨?_, frozen_of_row _ _ _ _ _ h⟩
  rw [cell_of_row _ _ _ _ _ _ h]
  simpa using cells8_get l i hi
theorem BlkB.set {w : World} {g : Nat} {t : TypeId} {l : List UInt8} (h : BlkB w g t l) (i : Nat) (x : UInt8) : BlkB (w.setCell ⟨g, i, none⟩ (.int .u8 (x.toNat : Int))) g t (l.set i x) := by
  unfold BlkB at h ⊢
  simp [World.setCell, Array.getElem?_modify, h, ← cells8_set]
theorem BlkB.bytes {w : World} {g : Nat} {t : TypeId} {l : List UInt8} (h : BlkB w g t l) : Bytes w (some ⟨g, 0, none⟩) l := bytes_of_block h rfl
theorem BlkB.from_ {w : World} {g : Nat} {t : TypeId} {l : List UInt8} (h : BlkB w g t l) (n : Nat) : Bytes w (some ⟨g, n, none⟩) (l.drop n) := by
  have := h.bytes.drop n
  rwa [Nat.zero_add] at this
theorem cells8_splice (l m : List UInt8) (off : Nat) : splice (cells8 l) off (cells8 m) = cells8 (splice l off m) := by
  unfold splice
  rw [cells8_length, cells8_take, cells8_drop, cells8_append, cells8_append]
section
variable {ops : Array Oper} {rest : List Oper} {o : Oper} {a : Act} {Q : Exit → Act → World → Prop} {w : World}
/-- copy of bytes into a block that is bytes. -/
theorem wpList_copyB (hg : o.guard = none) (d s : Operand) (ho : o.op = .call { callee := .builtin .copy, args := #[d, s], argTypes := #[59, 59] })
    (g off dLen dCap : Nat) (sp : Option Addr) (sLen sCap : Nat) (hd : a.eval d = .slice (some ⟨g, off, none⟩) dLen dCap) (hs : a.eval s = .slice sp sLen sCap)
    (t : TypeId) (cur l : List UInt8) (hb : BlkB w g t cur) (hl : sLen = l.length) (hsrc : Bytes w sp l) (hfit : off + Nat.min dLen l.length ≤ cur.length)
    (h : ∀ w', BlkB w' g t (splice cur off (l.take dLen)) → Kept (· = g) w w' → wpList Tryd.prog ops Q rest (a.put o.dst (goInt (l.take dLen).length)) w') : wpList Tryd.prog ops Q (o :: rest) a w := by
  subst hl
  have hlen : (cells8 (l.take dLen)).length = Nat.min l.length dLen := by rw [cells8_length, List.length_take, Nat.min_comm]
  have hlen2 : (l.take dLen).length = (cells8 (l.take dLen)).length := by rw [cells8_length]
  by_cases h0 : (l.take dLen).length = 0
  · refine wpList_copy_nothing hg d s _ _ ho 5 Tryd.underlying59 (by kernel_rfl) _ _ dLen dCap l.length sCap hd hs (by rw [← hlen, cells8_length]; exact h0) ?_
    have e : l.take dLen = [] := List.eq_nil_of_length_eq_zero h0
    have := h w (by rw [e]; simpa [splice] using hb) (Kept.refl _ _)
    rw [h0] at this
    exact this
  · obtain ⟨ad, rfl, _⟩ := hsrc 0 (by rw [List.length_take] at h0; omega)
    rw [hlen2] at h
    refine wpList_copy_own hg d s _ _ ho 5 Tryd.underlying59 (by kernel_rfl) g off dLen dCap ad l.length sCap hd hs (cells8 cur).toArray t hb (cells8 (l.take dLen)) hlen ?_ ?_ (cells8_one _) ?_
    · intro j v hj
      have hlt : j < (l.take dLen).length := by have := (List.getElem?_eq_some_iff.1 hj).1; rwa [cells8_length] at this
      obtain ⟨ad', hA, hc⟩ := hsrc.take dLen j hlt
      cases hA
      rw [cells8_get _ j hlt] at hj
      rw [hc, hj]
    · rw [hlen, show Nat.min l.length dLen = Nat.min dLen l.length from Nat.min_comm _ _]
      simpa [cells8_length] using hfit
    · refine h _ ?_ (Kept.setRow w _)
      have := setRow_heap w g (cells8 cur).toArray (splice (cells8 cur) off (cells8 (l.take dLen))).toArray t (0, 0) hb
      unfold BlkB
      rw [← cells8_splice]
      simpa [splice] using this
theorem under256 : Tryd.prog.underlying 92 = some (.array 256 5) := by kernel_rfl
theorem info256 : (Tryd.prog.info? 92).map (fun i => (i.zero, i.size)) = some (some (.agg (cells8 zsec).toArray), 256) := by kernel_rfl
theorem wpList_alloc256 (hg : o.guard = none) (ho : o.op = .alloc 92) (h : BlkB (w.alloc (.cells (cells8 zsec).toArray 92)) w.heap.size 92 zsec → wpList Tryd.prog ops Q rest (a.put o.dst (.pointer (some ⟨w.heap.size, 0, none⟩))) (w.alloc (.cells (cells8 zsec).toArray 92))) : wpList Tryd.prog ops Q (o :: rest) a w := by
  refine Great.wpList_runTo hg _ rfl _ _ ?_ (h (heap_alloc_new w _))
  unfold execOp
  simp only [ho, Instr.alloc, Sem.run_bind, (zero_of_info info256).1 w, Result.andThen_ok, newVar, newRow, run_newObj_alloc, Sem.run_pure]
  rfl
end
end Go.Proofs.YtcgjejpekefjdaaDoor
