/- A master in memory; Slot. -/
import Derived.Test.YtcgjejpekefjdaaDoorMasterA
set_option linter.unusedSimpArgs false
set_option linter.unusedVariables false
namespace Go.Proofs.YtcgjejpekefjdaaDoor
open Go.RowKit Go.Proofs.YtcgjejpekefjdaaDoor.Crc
/-- What a master holds. -/
structure MasM where
  pos : Nat
  e0 : Nat
  f0 : List Nat
  e1 : Nat
  f1 : List Nat
def MasM.slot (x : MasM) : Int := if x.e0 = 0 ∧ x.e1 = 0 then -1 else if x.e0 < x.e1 then 1 else 0
def MasM.last (x : MasM) : Nat × List Nat := if x.e0 = 0 ∧ x.e1 = 0 then (0, []) else if x.e0 < x.e1 then (x.e1, x.f1) else (x.e0, x.f0)
structure MasM.Ok (x : MasM) : Prop where
  pos : x.pos ≤ 4096
  e0 : x.e0 ≤ 1000000000
  e1 : x.e1 ≤ 1000000000
  f0 : x.f0.length ≤ 20
  f1 : x.f1.length ≤ 20
def MsRow (w : World) (r : Nat) (p : Option Addr) (x : MasM) (A0 : Option Addr) (c0 : Nat) (A1 : Option Addr) (c1 : Nat) : Prop :=
  w.heap[r]? = some (.cells #[.pointer p, .int .i64 (x.pos : Int), .int .i64 (x.e0 : Int), .slice A0 x.f0.length c0, .int .i64 (x.e1 : Int), .slice A1 x.f1.length c1] 37 (0, 0))
/-- A master in memory. -/
def MsAt (w : World) (r : Nat) (p : Option Addr) (x : MasM) : Prop :=
  ∃ A0 c0 A1 c1, MsRow w r p x A0 c0 A1 c1 ∧ U64o w A0 x.f0 ∧ U64o w A1 x.f1 ∧ (A0 = none → c0 = 0) ∧ (A1 = none → c1 = 0) ∧ x.Ok
theorem MsRow.cells {w : World} {r : Nat} {p : Option Addr} {x : MasM} {A0 A1 : Option Addr} {c0 c1 : Nat} (h : MsRow w r p x A0 c0 A1 c1) :
    w.cell? ⟨r, 0, none⟩ = some (.pointer p) ∧ w.cell? ⟨r, 1, none⟩ = some (.int .i64 (x.pos : Int)) ∧ w.cell? ⟨r, 2, none⟩ = some (.int .i64 (x.e0 : Int)) ∧ w.cell? ⟨r, 3, none⟩ = some (.slice A0 x.f0.length c0) ∧ w.cell? ⟨r, 4, none⟩ = some (.int .i64 (x.e1 : Int)) ∧ w.cell? ⟨r, 5, none⟩ = some (.slice A1 x.f1.length c1) :=
  ⟨by rw [cell_of_row _ _ _ _ _ _ h]; rfl, by rw [cell_of_row _ _ _ _ _ _ h]; rfl, by rw [cell_of_row _ _ _ _ _ _ h]; rfl, by rw [cell_of_row _ _ _ _ _ _ h]; rfl, by rw [cell_of_row _ _ _ _ _ _ h]; rfl, by rw [cell_of_row _ _ _ _ _ _ h]; rfl⟩
theorem MsRow.fr {w : World} {r : Nat} {p : Option Addr} {x : MasM} {A0 A1 : Option Addr} {c0 c1 : Nat} (h : MsRow w r p x A0 c0 A1 c1) (k : Nat) : w.frozen? ⟨r, k, none⟩ = false := frozen_of_row _ _ _ _ _ h
theorem MsAt.lt {w : World} {r : Nat} {p : Option Addr} {x : MasM} (h : MsAt w r p x) : r < w.heap.size := by
  obtain ⟨A0, c0, A1, c1, h1, _⟩ := h
  exact (Array.getElem?_eq_some_iff.1 h1).1
theorem MsAt.ok {w : World} {r : Nat} {p : Option Addr} {x : MasM} (h : MsAt w r p x) : x.Ok := by
  obtain ⟨A0, c0, A1, c1, _, _, _, _, _, h1⟩ := h
  exact h1
/-- A master stays where no block of numbers and not its own is touched. -/
theorem MsAt.kept {S : Nat → Prop} {w w' : World} {r : Nat} {p : Option Addr} {x : MasM} (h : MsAt w r p x) (hk : Kept S w w') (hr : ¬ S r) (hs : ∀ k cs fz, w.heap[k]? = some (.cells cs 49 fz) → ¬ S k) : MsAt w' r p x := by
  obtain ⟨A0, c0, A1, c1, h1, h2, h3, h4, h5, h6⟩ := h
  refine ⟨A0, c0, A1, c1, ?_, h2.kept hk ?_, h3.kept hk ?_, h4, h5, h6⟩
  · unfold MsRow at h1 ⊢
    rw [hk.block r (Array.getElem?_eq_some_iff.1 h1).1 hr]; exact h1
  · intro ad hA; obtain ⟨cs, fz, hx⟩ := h2.2 ad hA; exact hs _ _ _ hx
  · intro ad hA; obtain ⟨cs, fz, hx⟩ := h3.2 ad hA; exact hs _ _ _ hx
theorem MsAt.below {w w' : World} {r : Nat} {p : Option Addr} {x : MasM} (h : MsAt w r p x) (hb : Below w.heap.size w w') : MsAt w' r p x := h.kept (S := fun _ => False) (Kept.of_below hb) (fun x => x) (fun _ _ _ _ x => x)
set_option maxHeartbeats 400000 in
theorem Slot_nil (w : World) : Calls Tryd.prog 12 #[.pointer none] w fun e w' => e = .returned (.int .i64 (-1)) ∧ w = w' := by
  go_enter Tryd.func12, Tryd.ntmps12
  go_wp2
  go_ret
  exact ⟨rfl, rfl⟩
set_option maxHeartbeats 1000000 in
theorem Slot_calls {w : World} {r : Nat} {p : Option Addr} {x : MasM} (h : MsAt w r p x) : Calls Tryd.prog 12 #[.pointer (some ⟨r, 0, none⟩)] w fun e w' => e = .returned (.int .i64 x.slot) ∧ Below w.heap.size w w' := by
  obtain ⟨A0, c0, A1, c1, h1, _⟩ := h
  obtain ⟨_, _, k2, _, k4, _⟩ := h1.cells
  obtain ⟨pos, e0, f0, e1, f1⟩ := x
  simp only at k2 k4
  unfold MasM.slot
  simp only
  clear h1
  by_cases h0 : e0 = 0
  · subst h0
    by_cases h1 : e1 = 0
    · subst h1
      rw [if_pos ⟨rfl, rfl⟩]
      go_enter Tryd.func12, Tryd.ntmps12
      go_wp2_with fail
      go_ret
      exact ⟨rfl, Below.refl _ _⟩
    · rw [if_neg (fun h => h1 h.2), if_pos (by omega)]
      have d1 : ((e1 : Int) == 0) = false := by simp; omega
      have d2 : 0 < e1 := by omega
      clear h1
      go_enter Tryd.func12, Tryd.ntmps12
      go_wp2_with fail
      go_region
      go_wp2_with fail
      go_ret
      exact ⟨rfl, (Below.refl _ _).drew⟩
  · rw [if_neg (fun h => h0 h.1)]
    have d0 : ((e0 : Int) == 0) = false := by simp; omega
    by_cases hl : e0 < e1
    · rw [if_pos hl]
      clear h0
      go_enter Tryd.func12, Tryd.ntmps12
      go_wp2_with fail
      go_region
      go_wp2_with fail
      go_ret
      exact ⟨rfl, (Below.refl _ _).drew⟩
    · rw [if_neg hl]
      clear h0
      go_enter Tryd.func12, Tryd.ntmps12
      go_wp2_with fail
      go_region
      go_wp2_with fail
      go_ret
      exact ⟨rfl, (Below.refl _ _).drew⟩
end Go.Proofs.YtcgjejpekefjdaaDoor
