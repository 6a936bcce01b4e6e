/- Pages: the walks of page.own, Kind, Count. -/
import Derived.Test.YtibhoekbjgoanaaDoorPageS
import Derived.Deep.OwnRows
set_option linter.unusedSimpArgs false
set_option linter.unusedVariables false
namespace Go.Proofs.YtibhoekbjgoanaaDoor
open Go.RowKit Go.Proofs.YtibhoekbjgoanaaDoor.Crc
theorem below_keep2 {r : Nat} {w a b : World} (hr : w.heap.size = r) (h : Below r w a) (k : Kept (· = r) a b) : Below r w b := h.trans (k.below (by have := h.size; omega) (fun k hk e => by omega))
section
variable {ops : Array Oper} {rest : List Oper} {o : Oper} {a : Act} {Q : Exit → Act → World → Prop} {w : World}
/-- make of 256 bytes. -/
theorem wpList_make256 (hg : o.guard = none) (l c : Operand) (ho : o.op = Op.makeSlice 23 l c) (hl : a.eval l = .int .i64 256) (hc : a.eval c = .int .i64 256)
    (h : ∀ w', BlkB w' w.heap.size 5 zsec → Below w.heap.size w w' → wpList Tryd.prog ops Q rest (a.put o.dst (.slice (some ⟨w.heap.size, 0, none⟩) 256 256)) w') : wpList Tryd.prog ops Q (o :: rest) a w := by
  obtain ⟨i, hi, hz0, hz1, hz2⟩ := info_parts info8
  refine wpList_make_row w hg l c _ ho 5 i (.int .u8 0) Tryd.underlying23 hi hz0 hz1 rfl .i64 .i64 256 hl hc (by rw [hz2]; decide) (by decide) ?_
  refine h _ ?_ ((Below.refl _ _).alloc (Nat.le_refl _) _)
  have e : madeCells #[Value.int .u8 0] 256 = (cells8 zsec).toArray := by kernel_rfl
  rw [e]
  exact heap_alloc_new w _
end
def ownP (l : List UInt8) : List UInt8 := l.take 252 ++ [0, 0, 0, 0]
theorem ownP_len (l : List UInt8) (h : 252 ≤ l.length) : (ownP l).length = 256 := by
  unfold ownP; rw [List.length_append, List.length_take, Nat.min_eq_left h]; rfl
theorem splice_own (l : List UInt8) (h : 252 ≤ l.length) : splice zsec 0 ((l.take 252).take 256) = ownP l := by
  unfold splice ownP
  have h1 : (l.take 252).length = 252 := by rw [List.length_take, Nat.min_eq_left h]
  have h2 : ((l.take 252).take 256) = l.take 252 := List.take_of_length_le (by omega)
  rw [h2, h1]
  rfl
set_option maxRecDepth 100000 in
set_option maxHeartbeats 400000 in
theorem own_calls (A : Option Addr) (n c : Nat) (l : List UInt8) (w : World) (hn : n = l.length) (hb : Bytes w A l) (h252 : 252 ≤ n) (hc : n ≤ c) (hm : c ≤ 9223372036854775807) :
    Calls Tryd.prog 52 #[.slice A n c] w fun e w' => ∃ r, e = .returned (.slice (some ⟨r, 0, none⟩) 256 256) ∧ w.heap.size ≤ r ∧ BlkB w' r 5 (ownP l) ∧ Below w.heap.size w w' := by
  have HB := Lib.hid hb
  obtain ⟨b, o, rfl⟩ := hb.spot (by omega)
  have HL : Hid (252 ≤ l.length) := by show 252 ≤ _; omega
  have f1 : 252 ≤ c := by omega
  clear hb hn
  go_enter Tryd.func52, Tryd.ntmps52
  go_wp2_with (with_reducible refine park_make ?_; intro q hq)
  refine hq.out ?_
  clear hq
  refine wpList_make256 rfl _ _ rfl rfl rfl ?_
  intro w1 hA1 hk1
  have HA1 := Lib.hid hA1
  have HK1 := Lib.hid hk1
  have HB1 := Lib.hid (HB.out.below hk1)
  clear hA1 hk1
  obtain ⟨r, hr⟩ : ∃ r, w.heap.size = r := ⟨_, rfl⟩
  have HR := Lib.hid hr
  rw [hr] at HA1 ⊢
  clear hr
  go_wp2_with (with_reducible refine park_copy ?_; intro q hq)
  refine hq.out ?_
  clear hq
  have hl2 : (l.take 252).length = 252 := by rw [List.length_take, Nat.min_eq_left HL.out]
  refine wpList_copyB rfl _ _ rfl r 0 256 256 (some ⟨b, o, none⟩) 252 c rfl rfl _ zsec (l.take 252) HA1.out hl2.symm (HB1.out.take 252) (by rw [hl2]; decide) ?_
  intro w2 hA2 hk2
  rw [splice_own l HL.out] at hA2
  have HA2 := Lib.hid hA2
  have HK2 := Lib.hid hk2
  rw [List.length_take, hl2]
  clear hA2 hk2 hl2
  go_wp2_with fail
  go_ret
  exact ⟨r, rfl, Nat.le_of_eq HR.out, HA2.out, below_keep2 rfl HK1.out (by rw [HR.out]; exact HK2.out)⟩
end Go.Proofs.YtibhoekbjgoanaaDoor
