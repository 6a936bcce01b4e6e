/- The disk and the document's disk: they keep in step. -/
import Derived.Test.YtehigfpdeoebdaaRefJ
import Derived.Test.YtehigfpdeoebdaaDiskY
set_option linter.unusedSimpArgs false
set_option linter.unusedVariables false
namespace Go.Proofs.Ytehigfpdeoebdaa.Dsk
open Go.RowKit
structure Rel (d : DiskM) (r : RefM) : Prop where
  size : d.size = r.held.length
  held : ∀ k : Nat, k < r.held.length → d.held (k : Int) = atH r.held k
  wait : d.wait = r.wait
  steps : d.steps = r.steps
  left : (d.cut = false ∧ r.left = -1) ∨ (d.cut = true ∧ r.left = d.left)
theorem Rel.off {d : DiskM} {r : RefM} (h : Rel d r) : d.isOff = (r.left == 0) := by
  unfold DiskM.isOff
  rcases h.left with ⟨h1, h2⟩ | ⟨h1, h2⟩
  · rw [h1, h2]; rfl
  · rw [h1, h2]; rfl
theorem Rel.offT {d : DiskM} {r : RefM} (h : Rel d r) (hr : r.left = 0) : d.isOff = true := by rw [h.off, hr]; rfl
theorem Rel.offF {d : DiskM} {r : RefM} (h : Rel d r) (hr : ¬ r.left = 0) : d.isOff = false := by rw [h.off]; simpa using hr
theorem Rel.has {d : DiskM} {r : RefM} (h : Rel d r) (i : Int) : (0 ≤ i ∧ i < d.size) ↔ (0 ≤ i ∧ i < r.held.length) := by rw [h.size]
theorem Rel.now {d : DiskM} {r : RefM} (h : Rel d r) (i : Int) (hi : 0 ≤ i ∧ i < r.held.length) : d.now i = r.now i := by
  unfold DiskM.now RefM.now
  obtain ⟨k, rfl⟩ := Int.eq_ofNat_of_zero_le hi.1
  rw [h.wait, h.held k (by omega)]; rfl
theorem Rel.new (n : Nat) (h : 1 ≤ n) : Rel (newD n) (newR n) := by
  refine ⟨by simp [newD, newR], fun k hk => ?_, rfl, rfl, .inl ⟨rfl, rfl⟩⟩
  have hk' : k < n := by simpa [newR] using hk
  rw [atH_eq _ _ hk]; simp [newD, newR]
theorem Rel.step {d : DiskM} {r : RefM} (h : Rel d r) (ho : ¬ r.left = 0) (hl : 0 ≤ d.left) : Rel d.step r.step := by
  refine ⟨h.size, h.held, h.wait, by simp only [DiskM.step, RefM.step]; rw [h.steps], ?_⟩
  rcases h.left with ⟨h1, h2⟩ | ⟨h1, h2⟩
  · refine .inl ⟨h1, ?_⟩; simp only [RefM.step]; rw [if_neg (by omega)]; exact h2
  · refine .inr ⟨h1, ?_⟩; simp only [RefM.step, DiskM.step]; rw [if_pos (by omega), if_pos h1, h2]
theorem Rel.put {d : DiskM} {r : RefM} (h : Rel d r) (i : Int) (l : List UInt8) (ho : ¬ r.left = 0) (hl : 0 ≤ d.left) : Rel (d.write i l) (r.put i l).step :=
  Rel.step (d := d.put i l) (r := r.put i l) ⟨h.size, h.held, by simp only [DiskM.put, RefM.put]; rw [h.wait], h.steps, h.left⟩ ho hl
theorem atH_set (h : List (List UInt8)) (j k : Nat) (s : List UInt8) (hj : j < h.length) : atH (h.set j s) k = if k = j then s else atH h k := by
  unfold atH
  rw [List.getD_eq_getElem?_getD, List.getD_eq_getElem?_getD, List.getElem?_set]
  by_cases e : j = k
  · subst e; simp [hj]
  · rw [if_neg e, if_neg (fun c => e c.symm)]
theorem syncF_rel : ∀ (l : List (Int × List UInt8)) (f : Int → List UInt8) (h : List (List UInt8)), (∀ e ∈ l, 0 ≤ e.1 ∧ e.1 < h.length) → (∀ k : Nat, k < h.length → f (k : Int) = atH h k) → ∀ k : Nat, k < h.length → syncF l f (k : Int) = atH (syncL l h) k
  | [], f, h, _, hf => hf
  | e :: l, f, h, hl, hf => by
    have he := hl e (.head _)
    obtain ⟨j, hj⟩ := Int.eq_ofNat_of_zero_le he.1
    rw [syncF, syncL]
    intro k hk
    refine syncF_rel l _ _ (fun x hx => by rw [List.length_set]; exact hl x (.tail _ hx)) ?_ k (by rw [List.length_set]; exact hk)
    intro k hk
    rw [List.length_set] at hk
    rw [atH_set _ _ _ _ (by omega)]
    unfold upd
    by_cases c : k = e.1.toNat
    · rw [if_pos (by omega), if_pos c]
    · rw [if_neg (by omega), if_neg c]; exact hf k hk
theorem Rel.sync {d : DiskM} {r : RefM} (h : Rel d r) (hr : r.Ok) (ho : ¬ r.left = 0) (hl : 0 ≤ d.left) : Rel d.sync r.sync := by
  refine Rel.step (d := d.settled) (r := r.settled) ⟨?_, ?_, rfl, h.steps, h.left⟩ ho hl
  · simp only [DiskM.settled, RefM.settled, syncL_length]; exact h.size
  · intro k hk
    simp only [RefM.settled, syncL_length] at hk
    simp only [DiskM.settled, RefM.settled, h.wait]
    exact syncF_rel _ _ _ (fun e he => (hr.wlen e he).2) h.held k hk
theorem Rel.cut {d : DiskM} {r : RefM} (h : Rel d r) (n : Int) (hn : 0 ≤ n) (ho : ¬ r.left = 0) : Rel { d with cut := true, left := n } (r.cut n) := by
  unfold RefM.cut
  rw [if_neg (by omega), if_neg ho]
  exact ⟨h.size, h.held, h.wait, h.steps, .inr ⟨rfl, rfl⟩⟩
theorem loseF_rel (K : List Bool) (torn at_ : Int) (n : Nat) : ∀ (l : List (Int × List UInt8)) (j : Nat) (f : Int → List UInt8) (h : List (List UInt8)), (∀ e ∈ l, 0 ≤ e.1 ∧ e.1 < h.length) → (∀ k : Nat, k < h.length → f (k : Int) = atH h k) → ∀ k : Nat, k < h.length → loseF K torn at_ n j l f (k : Int) = atH (loseL K torn at_ n j l h) k
  | [], j, f, h, _, hf => hf
  | e :: l, j, f, h, hl, hf => by
    have he := hl e (.head _)
    obtain ⟨z, hz⟩ := Int.eq_ofNat_of_zero_le he.1
    rw [loseF, loseL]
    intro k hk
    refine loseF_rel K torn at_ n l _ _ _ (fun x hx => by rw [List.length_set]; exact hl x (.tail _ hx)) ?_ k (by rw [List.length_set]; exact hk)
    intro k hk
    rw [List.length_set] at hk
    rw [atH_set _ _ _ _ (by omega)]
    unfold upd
    have hfe : f e.1 = atH h e.1.toNat := by
      have := hf e.1.toNat (by omega)
      rw [show ((e.1.toNat : Nat) : Int) = e.1 by omega] at this; exact this
    by_cases c : k = e.1.toNat
    · rw [if_pos (by omega), if_pos c, hfe]
    · rw [if_neg (by omega), if_neg c]; exact hf k hk
theorem Rel.lose {d : DiskM} {r : RefM} (h : Rel d r) (hr : r.Ok) (K : List Bool) (torn at_ : Int) : Rel (d.lose K torn at_) (r.lose K torn at_) := by
  refine ⟨?_, ?_, rfl, rfl, .inl ⟨rfl, rfl⟩⟩
  · simp only [DiskM.lose, RefM.lose, newD, loseL_length]; exact h.size
  · intro k hk
    simp only [RefM.lose, loseL_length] at hk
    simp only [DiskM.lose, RefM.lose, h.wait]
    exact loseF_rel K torn at_ _ _ _ _ _ (fun e he => (hr.wlen e he).2) h.held k hk
theorem Rel.spoil {d : DiskM} {r : RefM} (h : Rel d r) (i : Nat) (hi : i < r.held.length) (k : Nat) (b : UInt8) : Rel (d.spoil i k b) (r.spoil i k b) := by
  refine ⟨?_, ?_, ?_, h.steps, h.left⟩
  · simp only [DiskM.spoil, RefM.spoil, List.length_set]; exact h.size
  · intro j hj
    simp only [RefM.spoil, List.length_set] at hj
    simp only [DiskM.spoil, RefM.spoil]
    rw [atH_set _ _ _ _ hi]
    unfold upd
    by_cases c : j = i
    · rw [if_pos (by omega), if_pos c, h.held i hi]
    · rw [if_neg (by omega), if_neg c]; exact h.held j hj
  · simp only [DiskM.spoil, RefM.spoil]; rw [h.wait]
end Go.Proofs.Ytehigfpdeoebdaa.Dsk
