/- The walks of codec: Uint, Err, End. -/
import Derived.Test.YtcgjejpekefjdaaDoorCodecR
set_option linter.unusedSimpArgs false
set_option linter.unusedVariables false
namespace Go.Proofs.YtcgjejpekefjdaaDoor
open Go.RowKit Go.Proofs.YtcgjejpekefjdaaDoor.Crc
theorem RdL.kept {S : Nat → Prop} {w w' : World} {r : Nat} {l : List UInt8} (h : RdL w r l) (hk : Kept S w w') (hs : ∀ k, k < w.heap.size → S k → r < k) : RdL w' r l := by
  obtain ⟨A, c, h1, h2, h3, h4, h5⟩ := h
  have hlt : r < w.heap.size := (Array.getElem?_eq_some_iff.1 h1).1
  refine ⟨A, c, ?_, h2.kept hk (fun ad hA hS => ?_), h3, h4, h5⟩
  · unfold RdAt at h1 ⊢
    rw [hk.block r hlt (fun hS => by have := hs r hlt hS; omega)]; exact h1
  · have h6 := h5 ad hA
    have := hs ad.block (by omega) hS
    omega
theorem RdL.lt {w : World} {r : Nat} {l : List UInt8} (h : RdL w r l) : r < w.heap.size := by
  obtain ⟨A, c, h1, _⟩ := h
  exact (Array.getElem?_eq_some_iff.1 h1).1
set_option maxHeartbeats 400000 in
theorem Uint_calls {w : World} {r N most : Nat} {rest : List UInt8} (hN : N < 18446744073709551616) (hm : N ≤ most) (h : RdL w r (putU N ++ rest)) :
    Calls Tryd.prog 58 #[.pointer (some ⟨r, 0, none⟩), .int .u64 (most : Int)] w fun e w' => e = .returned (.int .u64 (N : Int)) ∧ RdL w' r rest ∧ Kept (· = r) w w' := by
  have h' := h
  obtain ⟨A, c, hr, _⟩ := h'
  have HR := Lib.hid (ready_calls hr)
  have HT := Lib.hid (number_calls hN h)
  have hd : decide ((N : Int) > (most : Int)) = false := by simp; omega
  clear h hr
  go_enter Tryd.func58, Tryd.ntmps58
  go_wp2_with (first | (go_at_call 73; refine HR.out.mono ?_; rintro e w' ⟨rfl, rfl⟩) | (go_at_call 74; refine HT.out.mono ?_; rintro e w2 ⟨rfl, hr2, hk2⟩))
  go_ret
  exact ⟨rfl, hr2, hk2⟩
set_option maxHeartbeats 400000 in
theorem Err_calls {w : World} {r n c : Nat} {A : Option Addr} (h : RdAt w r A n c) : Calls Tryd.prog 76 #[.pointer (some ⟨r, 0, none⟩)] w fun e w' => e = .returned (.int .i64 0) ∧ w = w' := by
  obtain ⟨h0, h1, h2, h3⟩ := h.cells
  have H := Lib.hid h
  clear h
  go_enter Tryd.func76, Tryd.ntmps76
  go_wp2
  go_ret
  exact ⟨rfl, rfl⟩
set_option maxHeartbeats 400000 in
theorem End_calls {w : World} {r : Nat} (h : RdL w r []) : Calls Tryd.prog 59 #[.pointer (some ⟨r, 0, none⟩)] w fun e w' => e = .returned (.int .i64 0) ∧ w = w' := by
  obtain ⟨A, c, h, _⟩ := h
  obtain ⟨h0, h1, h2, h3⟩ := h.cells
  have HE := Lib.hid (Err_calls h)
  clear h
  go_enter Tryd.func59, Tryd.ntmps59
  go_wp2_with (go_at_call 76; refine HE.out.mono ?_; rintro e w' ⟨rfl, rfl⟩)
  go_ret
  exact ⟨rfl, rfl⟩
end Go.Proofs.YtcgjejpekefjdaaDoor
