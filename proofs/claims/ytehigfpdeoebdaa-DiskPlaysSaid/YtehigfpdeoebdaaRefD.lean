/- The document's disk: its state in memory; walks of its functions. -/
import Derived.Test.YtehigfpdeoebdaaDiskQ
import Derived.StillTailTactics
set_option linter.unusedSimpArgs false
set_option linter.unusedVariables false
namespace Go.Proofs.Ytehigfpdeoebdaa.Dsk
open Go.RowKit
def strW (l : List UInt8) : Value := .string (bstr l)
def wrL (e : Int × List UInt8) : List Value := [.int .i64 e.1, .string (bstr e.2)]
def wrCells (l : List (Int × List UInt8)) : List Value := l.flatMap wrL
theorem wrCells_length : ∀ (l : List (Int × List UInt8)), (wrCells l).length = l.length * 2
  | [] => rfl
  | e :: l => by
    have := wrCells_length l
    simp only [wrCells, List.flatMap_cons, List.length_append] at *
    rw [this, List.length_cons]
    simp [wrL]; omega
theorem wrCells_get : ∀ (l : List (Int × List UInt8)) (k : Nat) (hk : k < l.length) (j : Nat), j < 2 → (wrCells l)[k * 2 + j]? = (wrL l[k])[j]?
  | [], k, hk, _, _ => absurd hk (by simp)
  | e :: l, 0, _, j, hj => by
    simp only [wrCells, List.flatMap_cons, Nat.zero_mul, Nat.zero_add, List.getElem_cons_zero]
    rw [List.getElem?_append_left (by simp [wrL]; omega)]
  | e :: l, k + 1, hk, j, hj => by
    have ih := wrCells_get l k (by simpa using hk) j hj
    simp only [wrCells, List.flatMap_cons, List.getElem_cons_succ] at *
    rw [List.getElem?_append_right (by simp [wrL]; omega), ← ih]
    congr 1
    simp [wrL]; omega
theorem wrCells_snoc (l : List (Int × List UInt8)) (e : Int × List UInt8) : wrCells (l ++ [e]) = wrCells l ++ wrL e := by simp [wrCells]
theorem wrCells_set : ∀ (l : List (Int × List UInt8)) (j : Nat) (hj : j < l.length) (x : List UInt8), (wrCells l).set (j * 2 + 1) (.string (bstr x)) = wrCells (l.set j (l[j].1, x))
  | [], j, hj, _ => absurd hj (by simp)
  | e :: l, 0, _, x => by
    simp only [wrCells, List.flatMap_cons, List.set_cons_zero, List.getElem_cons_zero, Nat.zero_mul, Nat.zero_add]
    rw [List.set_append_left _ _ (by simp [wrL])]
    rfl
  | e :: l, j + 1, hj, x => by
    have ih := wrCells_set l j (by simpa using hj) x
    simp only [wrCells, List.flatMap_cons, List.set_cons_succ, List.getElem_cons_succ] at *
    rw [List.set_append_right _ _ (by simp [wrL]; omega), ← ih]
    congr 2
    simp [wrL]; omega
structure RefM where
  held : List (List UInt8)
  wait : List (Int × List UInt8)
  steps : Int
  left : Int
structure RefM.Ok (r : RefM) : Prop where
  hlen : ∀ l ∈ r.held, l.length = 256
  wlen : ∀ e ∈ r.wait, e.2.length = 256 ∧ 0 ≤ e.1 ∧ e.1 < r.held.length
  size : r.held.length ≤ 4096
  wsize : r.wait.length ≤ 1000
  steps : 0 ≤ r.steps ∧ r.steps ≤ 1000000
  left : -1 ≤ r.left ∧ r.left ≤ 9223372036854775807
structure RefAt (w : World) (base a : Nat) (hv wv : Value) (r : RefM) : Prop where
  blk : w.heap[a]? = some (.cells #[hv, wv, .int .i64 r.steps, .int .i64 r.left] 57 (0, 0))
  row : OwnVs w base 9 hv (r.held.map strW)
  wrow : w.ownsRow base 68 2 wv r.wait.length (wrCells r.wait)
  lo : base ≤ a
  ok : r.Ok
def FootR (a : Nat) (hv wv : Value) (k : Nat) : Prop := k = a ∨ hv.ownBlock = some k ∨ wv.ownBlock = some k
section
variable {w w' : World} {base a : Nat} {hv wv : Value} {r : RefM}
theorem own_kept {S : Nat → Prop} {t : TypeId} {n sz : Nat} {xs : List Value} {v : Value} (h : w.ownsRow base t sz v n xs) (hk : Kept S w w') (hs : ∀ k, v.ownBlock = some k → ¬ S k) : w'.ownsRow base t sz v n xs := by
  refine ⟨h.1, ?_⟩
  rcases h.2 with h2 | ⟨g, cap, cur, h1, h2, h3, r⟩
  · exact .inl h2
  · exact .inr ⟨g, cap, cur, h1, h2, by rw [hk.block g ((Array.getElem?_eq_some_iff.1 h3).1) (hs g (by rw [h1]; rfl))]; exact h3, r⟩
theorem RefAt.kept {S : Nat → Prop} (h : RefAt w base a hv wv r) (hk : Kept S w w') (hs : ∀ k, FootR a hv wv k → ¬ S k) : RefAt w' base a hv wv r :=
  ⟨by rw [hk.block a (Array.getElem?_eq_some_iff.1 h.blk).1 (hs a (.inl rfl))]; exact h.blk, h.row.kept hk (fun k hk' => hs k (.inr (.inl hk'))), own_kept h.wrow hk (fun k hk' => hs k (.inr (.inr hk'))), h.lo, h.ok⟩
theorem RefAt.below (h : RefAt w base a hv wv r) (hk : Below w.heap.size w w') : RefAt w' base a hv wv r :=
  h.kept (S := fun _ => False) (Kept.of_below hk) (fun _ _ x => x)
theorem RefAt.foot (h : RefAt w base a hv wv r) : ∀ k, FootR a hv wv k → base ≤ k ∧ k < w.heap.size := by
  intro k hk
  rcases hk with rfl | hk | hk
  · exact ⟨h.lo, (Array.getElem?_eq_some_iff.1 h.blk).1⟩
  · exact h.row.lt k hk
  · exact World.ownsRow.lt h.wrow k hk
theorem RefAt.base' {base' : Nat} (h : RefAt w base a hv wv r) (hb : base' ≤ base) : RefAt w base' a hv wv r := by
  refine ⟨h.blk, h.row.base' hb, ⟨h.wrow.1, ?_⟩, Nat.le_trans hb h.lo, h.ok⟩
  rcases h.wrow.2 with h2 | ⟨g, cap, cur, h1, h2, r⟩
  · exact .inl h2
  · exact .inr ⟨g, cap, cur, h1, Nat.le_trans hb h2, r⟩
theorem own_ty {t : TypeId} {n sz : Nat} {xs : List Value} {v : Value} (h : w.ownsRow base t sz v n xs) : ∀ k, v.ownBlock = some k → ∃ cur, w.heap[k]? = some (.cells cur t (0, 0)) := by
  intro k hk
  rcases h.2 with h2 | ⟨g, cap, cur, h1, h2, h3, _⟩
  · rw [h2.1] at hk; cases hk
  · rw [h1] at hk; cases hk; exact ⟨cur, h3⟩
theorem RefAt.ha (h : RefAt w base a hv wv r) : ¬ hv.ownBlock = some a := fun e => by
  obtain ⟨cur, h3⟩ := own_ty h.row a e
  have ha := h.blk
  rw [h3] at ha; cases ha
theorem RefAt.wa (h : RefAt w base a hv wv r) : ¬ wv.ownBlock = some a := fun e => by
  obtain ⟨cur, h3⟩ := own_ty h.wrow a e
  have ha := h.blk
  rw [h3] at ha; cases ha
theorem RefAt.hw (h : RefAt w base a hv wv r) : ∀ k, hv.ownBlock = some k → ¬ wv.ownBlock = some k := fun k e e' => by
  obtain ⟨cur, h3⟩ := own_ty h.row k e
  obtain ⟨cur', h4⟩ := own_ty h.wrow k e'
  rw [h3] at h4; cases h4
theorem RefAt.c0 (h : RefAt w base a hv wv r) : w.cell? ⟨a, 0, none⟩ = some hv := by rw [cell_of_row _ _ _ _ _ _ h.blk]; rfl
theorem RefAt.c1 (h : RefAt w base a hv wv r) : w.cell? ⟨a, 1, none⟩ = some wv := by rw [cell_of_row _ _ _ _ _ _ h.blk]; rfl
theorem RefAt.c2 (h : RefAt w base a hv wv r) : w.cell? ⟨a, 2, none⟩ = some (.int .i64 r.steps) := by rw [cell_of_row _ _ _ _ _ _ h.blk]; rfl
theorem RefAt.c3 (h : RefAt w base a hv wv r) : w.cell? ⟨a, 3, none⟩ = some (.int .i64 r.left) := by rw [cell_of_row _ _ _ _ _ _ h.blk]; rfl
theorem RefAt.fr (h : RefAt w base a hv wv r) (k : Nat) : w.frozen? ⟨a, k, none⟩ = false := frozen_of_row _ _ _ _ _ h.blk
/-- The values: the slices, and what lies in them. -/
theorem RefAt.hform (h : RefAt w base a hv wv r) : ∃ A c, hv = .slice A r.held.length c ∧ ∀ k, (hk : k < r.held.length) → ∃ g, A = some ⟨g, 0, none⟩ ∧ w.cell? ⟨g, k, none⟩ = some (.string (bstr r.held[k])) ∧ w.frozen? ⟨g, k, none⟩ = false := by
  obtain ⟨A, c, h1, _⟩ := h.row.sl
  have hr := h.row
  rw [h1] at hr
  refine ⟨A, c, by simpa using h1, fun k hk => ?_⟩
  obtain ⟨g, h2, h3, h4⟩ := hr.fr k (by simpa using hk)
  exact ⟨g, h2, by simpa [strW] using h4, h3⟩
theorem RefAt.wform (h : RefAt w base a hv wv r) : ∃ A c, wv = .slice A r.wait.length c ∧ ∀ k, (hk : k < r.wait.length) → ∃ g, A = some ⟨g, 0, none⟩ ∧ w.cell? ⟨g, k * 2, none⟩ = some (.int .i64 r.wait[k].1) ∧ w.cell? ⟨g, k * 2 + 1, none⟩ = some (.string (bstr r.wait[k].2)) ∧ w.frozen? ⟨g, k * 2 + 1, none⟩ = false := by
  rcases h.wrow.2 with ⟨h1, h2⟩ | ⟨g, cap, cur, h1, _⟩
  · exact ⟨none, 0, by rw [h1, h2], fun k hk => by rw [h2] at hk; exact absurd hk (Nat.not_lt_zero _)⟩
  · have hr := h.wrow
    rw [h1] at hr
    refine ⟨some ⟨g, 0, none⟩, cap, h1, fun k hk => ⟨g, rfl, ?_, ?_, World.ownsRow.frozenAt hr _⟩⟩
    · rw [World.ownsRow.cellAt hr (k * 2) (by omega)]
      have := wrCells_get r.wait k hk 0 (by decide)
      rw [Nat.add_zero] at this; rw [this]; rfl
    · rw [World.ownsRow.cellAt hr (k * 2 + 1) (by omega), wrCells_get r.wait k hk 1 (by decide)]; rfl
end
def RefM.isOff (r : RefM) : Bool := r.left == 0
def RefM.step (r : RefM) : RefM := { r with steps := r.steps + 1, left := if 0 < r.left then r.left - 1 else r.left }
theorem RefAt.put2 {w : World} {base a : Nat} {hv wv : Value} {r : RefM} (h : RefAt w base a hv wv r) (i : Nat) (u : Value) (r' : RefM) (hk : r'.Ok) (hh : r'.held = r.held) (hw : r'.wait = r.wait)
    (he : (#[hv, wv, .int .i64 r.steps, .int .i64 r.left] : Array Value).setIfInBounds i u = #[hv, wv, .int .i64 r'.steps, .int .i64 r'.left]) : RefAt (w.setCell ⟨a, i, none⟩ u) base a hv wv r' := by
  have hk' : Kept (· = a) w (w.setCell ⟨a, i, none⟩ u) := Kept.set1 w a i u
  exact ⟨by rw [blk_put h.blk, he], by rw [hh]; exact h.row.kept hk' (fun k e e' => h.ha (by rw [e, e'])), by rw [hw]; exact own_kept h.wrow hk' (fun k e e' => h.wa (by rw [e, e'])), h.lo, hk⟩
set_option maxHeartbeats 400000 in
theorem stepR_calls {w : World} {base a : Nat} {hv wv : Value} {r : RefM} (h : RefAt w base a hv wv r) (hst : r.steps + 1 ≤ 1000000) :
    Calls Try.prog 26 #[.pointer (some ⟨a, 0, none⟩)] w fun e w' => e = .returned undef ∧ RefAt w' base a hv wv r.step ∧ Kept (· = a) w w' := by
  have c2 := h.c2
  have c3 := h.c3
  have f2 := h.fr 2
  have f3 := h.fr 3
  have s0 := h.ok.steps
  have s1 := h.ok.left
  have o := h.ok
  by_cases hl : 0 < r.left
  · have hD : RefAt ((w.setCell ⟨a, 2, none⟩ (.int .i64 (r.steps + 1))).setCell ⟨a, 3, none⟩ (.int .i64 (r.left - 1))) base a hv wv r.step := by
      have k1 : RefAt (w.setCell ⟨a, 2, none⟩ (.int .i64 (r.steps + 1))) base a hv wv { r with steps := r.steps + 1 } := h.put2 2 _ _ ⟨o.hlen, o.wlen, o.size, o.wsize, by simp only []; omega, o.left⟩ rfl rfl rfl
      exact k1.put2 3 _ _ ⟨o.hlen, o.wlen, o.size, o.wsize, by simp only [RefM.step]; omega, by simp only [RefM.step, hl, if_true]; omega⟩ rfl rfl (by simp [RefM.step, hl])
    have HD := Lib.hid hD
    have hl' : decide (r.left > (0 : Int)) = true := by simpa using hl
    clear hD o h
    go_enter Try.func26, Try.ntmps26
    go_wp2
    go_end0
    exact ⟨rfl, HD.out, (Kept.set1 w a 2 _).trans (Kept.set1 _ a 3 _)⟩
  · have hD : RefAt (w.setCell ⟨a, 2, none⟩ (.int .i64 (r.steps + 1))) base a hv wv r.step := h.put2 2 _ _ ⟨o.hlen, o.wlen, o.size, o.wsize, by simp only [RefM.step]; omega, by simp only [RefM.step, hl, if_false]; omega⟩ rfl rfl (by simp [RefM.step, hl])
    have HD := Lib.hid hD
    have hl' : decide (r.left > (0 : Int)) = false := by simpa using hl
    clear hD o h
    go_enter Try.func26, Try.ntmps26
    go_wp2
    go_end0
    exact ⟨rfl, HD.out, Kept.set1 w a 2 _⟩
def RefM.cutC (n : Int) : Int := if n < 0 then 2 else 0
def RefM.cut (r : RefM) (n : Int) : RefM := if n < 0 then r else if r.left = 0 then r else { r with left := n }
set_option maxHeartbeats 400000 in
theorem CutR_calls {w : World} {base a : Nat} {hv wv : Value} {r : RefM} (h : RefAt w base a hv wv r) (n : Int) (hn : n ≤ 9223372036854775807) :
    Calls Try.prog 13 #[.pointer (some ⟨a, 0, none⟩), .int .i64 n] w fun e w' => e = .returned (.int .i64 (RefM.cutC n)) ∧ RefAt w' base a hv wv (r.cut n) ∧ Kept (· = a) w w' := by
  have c3 := h.c3
  have f3 := h.fr 3
  have H := Lib.hid h
  have o := Lib.hid h.ok
  clear h
  unfold RefM.cutC RefM.cut
  by_cases h0 : n < 0
  · rw [if_pos h0, if_pos h0]
    have e1 : decide (n < (0 : Int)) = true := by simpa using h0
    go_enter Try.func13, Try.ntmps13
    go_wp2
    go_ret
    exact ⟨rfl, H.out, Kept.refl _ _⟩
  · rw [if_neg h0, if_neg h0]
    have e1 : decide (n < (0 : Int)) = false := by simpa using h0
    by_cases h1 : r.left = 0
    · rw [if_pos h1]
      have e2 : (r.left != (0 : Int)) = false := by simp [h1]
      clear h0 h1
      go_enter Try.func13, Try.ntmps13
      go_wp2
      go_ret
      exact ⟨rfl, H.out, Kept.refl _ _⟩
    · rw [if_neg h1]
      have e2 : (r.left != (0 : Int)) = true := by simp [h1]
      have HD : Hid (RefAt (w.setCell ⟨a, 3, none⟩ (.int .i64 n)) base a hv wv { r with left := n }) := H.out.put2 3 _ _ ⟨o.out.hlen, o.out.wlen, o.out.size, o.out.wsize, o.out.steps, by simp only []; omega⟩ rfl rfl rfl
      clear h0 h1
      go_enter Try.func13, Try.ntmps13
      go_wp2
      go_ret
      exact ⟨rfl, HD.out, Kept.set1 w a 3 _⟩
set_option maxRecDepth 100000 in
set_option maxHeartbeats 400000 in
theorem ZeroR_calls (w : World) : Calls Try.prog 19 #[] w fun e w' => e = .returned (.string (bstr zsec)) ∧ Below w.heap.size w w' := by
  go_enter Try.func19, Try.ntmps19
  go_wp2_with (with_reducible refine park_make ?_; intro q hq)
  refine hq.out ?_
  clear hq
  refine wpList_make_bytes rfl _ _ rfl w.heap.size 256 256 256 rfl rfl rfl rfl (by decide) (Nat.le_refl _) ?_
  intro w' hown hg
  have hrun := run_str (w := w') (A := some ⟨w.heap.size, 0, none⟩) (m := 256) (c := 256) (l := zsec) zsec_length.symm hown.bytes
  have HB : Hid (Below w.heap.size w w') := (Below.refl _ _).grown hg (Nat.le_refl _) (fun k hk => by cases hk)
  clear hown hg
  go_wp2
  go_ret
  exact ⟨rfl, HB.out⟩
end Go.Proofs.Ytehigfpdeoebdaa.Dsk
