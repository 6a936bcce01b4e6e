/- Pages: the walk of the chapter's example. -/
import Derived.Test.YtibhoekbjgoanaaDoorPageK
import Derived.Lib.SlBytesConst
set_option linter.unusedSimpArgs false
set_option linter.unusedVariables false
namespace Go.Proofs.YtibhoekbjgoanaaDoor
open Go.RowKit Go.Proofs.YtibhoekbjgoanaaDoor.Crc
theorem free_page {w : World} {r : Nat} {no : Nat} {k : UInt8} {cs : List (List UInt8)} (hA : BlkB w r 5 (pageB no k cs)) (hf : fitC cs) (hno : no ≤ 2147483647) (hk : k ≠ 0) (F : Int) (hF : (if 244 - (2 * cs.length + sizC cs) < 2 then -1 else ((244 - (2 * cs.length + sizC cs) : Nat) : Int) - 2) = F) :
    Calls Tryd.prog 27 #[.slice (some ⟨r, 0, none⟩) 256 256] w fun e w' => e = .returned (.int .i64 F) ∧ ∃ m, w' = w.drewN m := by
  have h := Free_calls (some ⟨r, 0, none⟩) 256 256 (pageB no k cs) w (pageB_length _ _ _ hf).symm hA.bytes (Nat.le_refl _) (by decide) (by decide)
  rw [(pgl_page no k cs hf).free hno hk, hF] at h
  exact h
theorem ab_head : bstr ((pageB 7 1 [[97, 98]]).take 12) = { data := #[0, 0, 0, 7, 1, 1, 0, 2, 0, 2, 97, 98] } := by decide +kernel
theorem ab_len : ((pageB 7 1 [[97, 98]]).take 12).length = 12 := by decide +kernel
set_option maxRecDepth 100000 in
set_option maxHeartbeats 1000000 in
theorem works9_calls (w : World) : Calls Tryd.prog 16 #[] w fun e w' => e = .returned (.bool true) ∧ Below w.heap.size w w' := by
  have hNew := New_calls 7 1 w (by decide) (by decide)
  rw [show ((7 : Nat) : Int) = 7 from rfl, show (((1 : UInt8).toNat : Nat) : Int) = 1 from rfl] at hNew
  have HNew := Lib.hid hNew
  clear hNew
  go_enter Tryd.func16, Tryd.ntmps16
  go_wp2_with (go_at_call 15; (with_reducible refine HNew.out.mono ?_); rintro e w1 ⟨r, rfl, hr1, hA1, hb1⟩; refine park ?_; intro q hq)
  rw [newB_page] at hA1
  have HA1 := Lib.hid hA1
  have HB1 := Lib.hid hb1
  have HR1 := Lib.hid hr1
  have hI := fun (w' : World) (h : BlkB w' r 5 (pageB 7 1 [])) (Ab : Option Addr) (hs : SlB w' Ab 2 2 [97, 98]) => Ins_end r [] 7 1 Ab 2 2 [97, 98] w' h fit_nil (by decide) (by decide) hs
  rw [show ((([] : List (List UInt8)).length : Nat) : Int) = 0 from rfl, show addC [] [97, 98] = [[97, 98]] from rfl] at hI
  have HI := Lib.hid hI
  clear hA1 hb1 hr1 hI HNew
  refine hq.out ?_
  clear hq
  have kc := fun (w : World) (C : Array Value) (n c : Nat) => Lib.run_convert_bytes_const (P := Tryd.prog) w 23 5 C n c Tryd.underlying23 Tryd.underlying5
  go_wp2_with (go_at_call 26; refine park ?_; intro q hq)
  have hAl : Below w1.heap.size w1 (w1.alloc (Obj.cells #[Value.int IntKind.u8 97, Value.int IntKind.u8 98] 5 (2, 3))) := (Below.refl _ _).alloc (Nat.le_refl _) _
  have hO : Bytes (w1.alloc (Obj.cells #[Value.int IntKind.u8 97, Value.int IntKind.u8 98] 5 (2, 3))) (some ⟨w1.heap.size, 0, none⟩) [97, 98] := bytes_of_block (heap_alloc_new w1 _) rfl
  have HI1 := Lib.hid (HI.out _ (HA1.out.below hAl) _ ⟨rfl, hO, by decide, by decide, fun h => by cases h⟩)
  have HA1b := Lib.hid (HA1.out.below hAl)
  have HB2 : Hid (Below w.heap.size w (w1.alloc (Obj.cells #[Value.int IntKind.u8 97, Value.int IntKind.u8 98] 5 (2, 3)))) := HB1.out.trans (hAl.mono HB1.out.size)
  clear hAl hO HI HA1 HB1
  refine hq.out ?_
  clear hq
  refine HI1.out.mono ?_
  clear HI1
  rintro e w2 ⟨v, er, rfl, hb2, hor⟩
  rcases hor with ⟨_, h, _⟩ | ⟨rfl, r2, rfl, hA2, _⟩
  · cases h
  have HA2 := Lib.hid hA2
  have HAr := Lib.hid (HA1b.out.below hb2)
  have HB3 : Hid (Below w.heap.size w w2) := HB2.out.trans (hb2.mono HB2.out.size)
  have x3 : w2.cell? ⟨r, 3, none⟩ = some (.int .u8 7) := (HAr.out.cell 3 (by decide +kernel)).1
  have hfit1 : fitC [[(97 : UInt8), 98]] := by unfold fitC; decide
  have HF1 := Lib.hid (fun (w' : World) (h : BlkB w' r 5 (pageB 7 1 [])) => free_page h fit_nil (by decide) (by decide) 242 rfl)
  have HF2 := Lib.hid (fun (w' : World) (h : BlkB w' r2 5 (pageB 7 1 [[97, 98]])) => free_page h hfit1 (by decide) (by decide) 238 rfl)
  have hs := fun (w' : World) (h : BlkB w' r2 5 (pageB 7 1 [[97, 98]])) => run_str (w := w') (A := some ⟨r2, 0, none⟩) (m := 12) (c := 256) (l := (pageB 7 1 [[97, 98]]).take 12) ab_len.symm (h.bytes.take 12)
  rw [ab_head] at hs
  have HS := Lib.hid hs
  clear hA2 hb2 HA1b hs hfit1
  go_wp2_with (first | (go_at_call 27; with_reducible refine (HF1.out _ HAr.out).mono ?_; rintro e w3 ⟨rfl, m3, rfl⟩; refine park ?_; intro q hq))
  have hs3 := HS.out _ (HA2.out.below (kept_drewN w2 m3))
  refine hq.out ?_
  clear hq
  go_wp2_with (first | (go_at_call 27; with_reducible refine (HF2.out _ (HA2.out.below (kept_drewN w2 m3))).mono ?_; rintro e w4 ⟨rfl, m4, rfl⟩))
  go_ret
  exact ⟨rfl, HB3.out.trans ((kept_drewN w2 (m3 + m4)).mono HB3.out.size)⟩
end Go.Proofs.YtibhoekbjgoanaaDoor
