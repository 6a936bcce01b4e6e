/- The disk: what a loss of power leaves, in plain words. -/
import Derived.Test.YtehigfpdeoebdaaDiskD
set_option linter.unusedSimpArgs false
set_option linter.unusedVariables false
namespace Go.Proofs.Ytehigfpdeoebdaa.Dsk
open Go.RowKit
theorem upd_self (f : Int → List UInt8) (i : Int) : upd f i (f i) = f := by
  funext j; unfold upd; split
  · next h => rw [h]
  · rfl
theorem loseF_none (at_ : Int) (n : Nat) : ∀ (l : List (Int × List UInt8)) (k : Nat) (f : Int → List UInt8), loseF [] (-1) at_ n k l f = f
  | [], k, f => rfl
  | e :: l, k, f => by
    rw [loseF]
    have : loseS [] (-1) at_ n k e.2 (f e.1) = f e.1 := by unfold loseS; rw [if_neg (by omega)]; simp
    rw [this, upd_self, loseF_none at_ n l]
theorem loseF_all (at_ : Int) (n : Nat) : ∀ (l : List (Int × List UInt8)) (k : Nat) (f : Int → List UInt8), k + l.length ≤ n → loseF (List.replicate n true) (-1) at_ n k l f = syncF l f
  | [], k, f, _ => rfl
  | e :: l, k, f, h => by
    simp only [List.length_cons] at h
    rw [loseF]
    have : loseS (List.replicate n true) (-1) at_ n k e.2 (f e.1) = e.2 := by
      unfold loseS; rw [if_neg (by omega), if_pos]
      rw [List.getD_eq_getElem?_getD, List.getElem?_replicate, if_pos (by omega)]; rfl
    rw [this, loseF_all at_ n l _ _ (by omega), syncF]
theorem syncF_last (i : Int) : ∀ (l : List (Int × List UInt8)) (f : Int → List UInt8), syncF l f i = lastOf i (f i) l
  | [], f => rfl
  | e :: l, f => by
    rw [syncF, syncF_last i l, lastOf]
    congr 1
    unfold upd
    by_cases h : i = e.1
    · rw [if_pos h, if_pos h.symm]
    · rw [if_neg h, if_neg (fun c => h c.symm)]
theorem loseF_miss (K : List Bool) (torn at_ : Int) (n : Nat) (i : Int) : ∀ (l : List (Int × List UInt8)) (k : Nat) (f : Int → List UInt8), (∀ e ∈ l, e.1 ≠ i) → loseF K torn at_ n k l f i = f i
  | [], k, f, _ => rfl
  | e :: l, k, f, h => by
    rw [loseF, loseF_miss K torn at_ n i l _ _ (fun x hx => h x (.tail _ hx))]
    unfold upd
    rw [if_neg (fun c => h e (.head _) c.symm)]
/-- What has been lost is refused where a torn write has no place. -/
theorem lose_now (d : DiskM) (K : List Bool) (torn at_ i : Int) : (d.lose K torn at_).now i = loseF K torn at_ d.wait.length 0 d.wait d.held i := rfl
set_option maxRecDepth 100000 in
set_option maxHeartbeats 2000000 in
theorem Lose_bad {w : World} {base a m : Nat} {wv : Value} {d : DiskM} (h : DiskAt w base a m wv d) (kv : Value) (torn at_ : Int) (ht : 0 ≤ torn ∧ torn < d.wait.length) (ha : at_ < 0 ∨ 256 < at_) :
    Calls Try.prog 14 #[.pointer (some ⟨a, 0, none⟩), .agg #[kv, .int .i64 torn, .int .i64 at_]] w fun e w' => e = .returned (.tuple #[.pointer none, .int .i64 2]) ∧ Below w.heap.size w w' := by
  obtain ⟨W, cw, rfl, _⟩ := h.form2
  obtain ⟨w1, hw1⟩ : ∃ w1, w.alloc (.cells #[kv, .int .i64 torn, .int .i64 at_] 33) = w1 := ⟨_, rfl⟩
  have HW1 := Lib.hid hw1
  have HB1 : Hid (Below w.heap.size w w1) := by rw [← hw1]; exact (Below.refl _ _).alloc (Nat.le_refl _) _
  have HA : Hid (DiskAt w1 base a m (.slice W d.wait.length cw) d) := h.below HB1.out
  have HM := Lib.hid (made_calls HA.out)
  obtain ⟨q, hq⟩ : ∃ q, w.heap.size = q := ⟨_, rfl⟩
  have HQ := Lib.hid hq
  have hlb : w1.heap[q]? = some (.cells #[kv, .int .i64 torn, .int .i64 at_] 33 (0, 0)) := by rw [← hw1, ← hq]; exact heap_alloc_new w _
  have l1 : w1.cell? ⟨q, 1, none⟩ = some (.int .i64 torn) := by rw [cell_of_row _ _ _ _ _ _ hlb]; rfl
  have l2 : w1.cell? ⟨q, 2, none⟩ = some (.int .i64 at_) := by rw [cell_of_row _ _ _ _ _ _ hlb]; rfl
  have c2 := HA.out.c2
  have hlen : d.wait.length ≤ 1000 := by obtain ⟨n, D, _, hn⟩ := h.map; have := h.ok.bud; omega
  clear h hlb hq
  have e0 : decide (torn ≥ (0 : Int)) = true := by simp; omega
  have e1 : decide (torn < (d.wait.length : Int)) = true := by simp; omega
  go_enter Try.func14, Try.ntmps14
  clear hw1
  go_wp2_with (with_reducible refine park_at (.box 33 _) ?_; intro pq hq)
  refine hq.out ?_
  clear hq
  refine Great.wpList_boxTo rfl 33 _ rfl _ rfl q HQ.out #[kv, .int .i64 torn, .int .i64 at_] rfl ?_
  rw [HW1.out]
  go_wp2_with (first | (go_at_call 22; refine HM.out.mono ?_; rintro e w' ⟨rfl, rfl⟩))
  have k1 : ∀ w', Hid (Below w1.heap.size w1 w') → w'.cell? ⟨q, 1, none⟩ = some (.int .i64 torn) := fun w' h => (h.out.cell (World.block_lt_of_cell? w1 _ l1)).trans l1
  have k2 : ∀ w', Hid (Below w1.heap.size w1 w') → w'.cell? ⟨a, 2, none⟩ = some (.slice W d.wait.length cw) := fun w' h => (HA.out.below h.out).c2
  have hd1 : Hid (Below w1.heap.size w1 w1.drew) := (Below.refl _ _).drew
  go_cut [6] (fun s wc => s = .bool true ∧ Hid (Below w1.heap.size w1 wc))
  case first =>
    go_region_held (fun w' => Hid (Below w1.heap.size w1 w')) (first | exact hd1 | assumption) (fail)
    all_goals
      go_wp2
      go_meet
      case rel => exact ⟨rfl, by assumption⟩
  case rest =>
    obtain ⟨rfl, HC⟩ := hcut
    have j2 : wc.cell? ⟨q, 2, none⟩ = some (.int .i64 at_) := (HC.out.cell (World.block_lt_of_cell? w1 _ l2)).trans l2
    clear k1 k2 hd1 l1 l2 c2
    have HB2 : Hid (Below w.heap.size w wc) := HB1.out.trans (HC.out.mono HB1.out.size)
    rcases ha with ha | ha
    · have e2 : decide (at_ < (0 : Int)) = true := by simpa using ha
      go_wp2
      go_ret2
      exact ⟨rfl, HB2.out⟩
    · have e2 : decide (at_ < (0 : Int)) = false := by simp; omega
      have e3 : decide (at_ > (256 : Int)) = true := by simpa using ha
      go_wp2
      go_ret2
      exact ⟨rfl, HB2.out⟩
end Go.Proofs.Ytehigfpdeoebdaa.Dsk
