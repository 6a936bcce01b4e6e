/- The disk: its state, and walks of its functions. -/
import Derived.Test.YtehigfpdeoebdaaDiskM
import Derived.Maps.AppendAt
set_option linter.unusedSimpArgs false
set_option linter.unusedVariables false
namespace Go.Proofs.Ytehigfpdeoebdaa.Dsk
open Go.RowKit

structure DiskM where
  size : Int
  held : Int → List UInt8
  wait : List (Int × List UInt8)
  steps : Int
  cut : Bool
  left : Int
  bud : Nat
def DiskM.isOff (d : DiskM) : Bool := d.cut && (d.left == 0)
def DiskM.step (d : DiskM) : DiskM := { d with steps := d.steps + 1, left := if d.cut then d.left - 1 else d.left }
def lastOf (i : Int) (z : List UInt8) : List (Int × List UInt8) → List UInt8
  | [] => z
  | e :: r => lastOf i (if e.1 = i then e.2 else z) r
def DiskM.now (d : DiskM) (i : Int) : List UInt8 := lastOf i (d.held i) d.wait
theorem lastOf_snoc (i : Int) (e : Int × List UInt8) : ∀ (l : List (Int × List UInt8)) (z : List UInt8), lastOf i z (l ++ [e]) = if e.1 = i then e.2 else lastOf i z l
  | [], z => rfl
  | x :: l, z => by rw [List.cons_append, lastOf, lastOf_snoc i e l]; rfl
theorem lastOf_miss (i : Int) : ∀ (l : List (Int × List UInt8)) (z : List UInt8), (∀ e ∈ l, e.1 ≠ i) → lastOf i z l = z
  | [], z, _ => rfl
  | x :: l, z, h => by rw [lastOf, lastOf_miss i l _ (fun e he => h e (.tail _ he)), if_neg (h x (.head _))]

structure DiskM.Ok (d : DiskM) : Prop where
  hlen : ∀ i, (d.held i).length = 256
  wlen : ∀ e ∈ d.wait, e.2.length = 256 ∧ 0 ≤ e.1 ∧ e.1 < d.size
  size : 1 ≤ d.size ∧ d.size ≤ 4096
  bud : d.bud ≤ 1000
  steps : 0 ≤ d.steps ∧ d.steps ≤ 1000000
  left : 0 ≤ d.left ∧ d.left ≤ 9223372036854775807
structure DiskAt (w : World) (base a m : Nat) (wv : Value) (d : DiskM) : Prop where
  blk : w.heap[a]? = some (.cells #[.int .i64 d.size, .map (some m), wv, .int .i64 d.steps, .bool d.cut, .int .i64 d.left] 53 (0, 0))
  map : ∃ n D, MAt w m n D d.held ∧ n + d.wait.length ≤ d.bud
  row : w.ownsRow base 66 257 wv d.wait.length (entCells d.wait)
  lo : base ≤ a ∧ base ≤ m
  ok : d.Ok
def Foot (a m : Nat) (wv : Value) (k : Nat) : Prop := k = a ∨ k = m ∨ wv.ownBlock = some k
section
variable {w w' : World} {base a m : Nat} {wv : Value} {d : DiskM}
theorem row_kept {S : Nat → Prop} {n : Nat} {xs : List Value} (h : w.ownsRow base 66 257 wv n xs) (hk : Kept S w w') (hs : ∀ k, wv.ownBlock = some k → ¬ S k) : w'.ownsRow base 66 257 wv n xs := by
  refine ⟨h.1, ?_⟩
  rcases h.2 with h2 | ⟨g, cap, cur, h1, h2, h3, r⟩
  · exact .inl h2
  · exact .inr ⟨g, cap, cur, h1, h2, by rw [hk.block g ((Array.getElem?_eq_some_iff.1 h3).1) (hs g (by rw [h1]; rfl))]; exact h3, r⟩
theorem DiskAt.kept {S : Nat → Prop} (h : DiskAt w base a m wv d) (hk : Kept S w w') (hs : ∀ k, Foot a m wv k → ¬ S k) : DiskAt w' base a m wv d := by
  obtain ⟨n, D, hm, hn⟩ := h.map
  exact ⟨by rw [hk.block a (Array.getElem?_eq_some_iff.1 h.blk).1 (hs a (.inl rfl))]; exact h.blk, ⟨n, D, hm.kept hk (hs m (.inr (.inl rfl))), hn⟩, row_kept h.row hk (fun k hk' => hs k (.inr (.inr hk'))), h.lo, h.ok⟩
theorem DiskAt.below (h : DiskAt w base a m wv d) (hk : Below w.heap.size w w') : DiskAt w' base a m wv d :=
  h.kept (S := fun _ => False) (Kept.of_below hk) (fun _ _ x => x)
theorem DiskAt.foot (h : DiskAt w base a m wv d) : ∀ k, Foot a m wv k → base ≤ k ∧ k < w.heap.size := by
  intro k hk
  obtain ⟨n, D, hm, hn⟩ := h.map
  rcases hk with rfl | rfl | hk
  · exact ⟨h.lo.1, (Array.getElem?_eq_some_iff.1 h.blk).1⟩
  · exact ⟨h.lo.2, hm.1.lt⟩
  · exact World.ownsRow.lt h.row k hk
theorem DiskAt.am (h : DiskAt w base a m wv d) : m ≠ a := by
  rintro rfl
  obtain ⟨n, D, ⟨⟨es, c, hb, _⟩, _⟩, _⟩ := h.map
  have ha := h.blk
  rw [hb] at ha; cases ha
theorem DiskAt.ag (h : DiskAt w base a m wv d) : ∀ k, wv.ownBlock = some k → k ≠ a := by
  rintro k hk rfl
  have ha := h.blk
  rcases h.row.2 with h2 | ⟨g, cap, cur, h1, h2, h3, r⟩
  · rw [h2.1] at hk; cases hk
  · rw [h1] at hk; cases hk
    rw [h3] at ha; cases ha
theorem DiskAt.mg (h : DiskAt w base a m wv d) : ∀ k, wv.ownBlock = some k → k ≠ m := by
  rintro k hk rfl
  obtain ⟨n, D, ⟨⟨es, c, hb, _⟩, _⟩, _⟩ := h.map
  rcases h.row.2 with h2 | ⟨g, cap, cur, h1, h2, h3, r⟩
  · rw [h2.1] at hk; cases hk
  · rw [h1] at hk; cases hk
    rw [h3] at hb; cases hb
theorem DiskAt.c0 (h : DiskAt w base a m wv d) : w.cell? ⟨a, 0, none⟩ = some (.int .i64 d.size) := by rw [cell_of_row _ _ _ _ _ _ h.blk]; rfl
theorem DiskAt.c1 (h : DiskAt w base a m wv d) : w.cell? ⟨a, 1, none⟩ = some (.map (some m)) := by rw [cell_of_row _ _ _ _ _ _ h.blk]; rfl
theorem DiskAt.c2 (h : DiskAt w base a m wv d) : w.cell? ⟨a, 2, none⟩ = some wv := by rw [cell_of_row _ _ _ _ _ _ h.blk]; rfl
theorem DiskAt.c3 (h : DiskAt w base a m wv d) : w.cell? ⟨a, 3, none⟩ = some (.int .i64 d.steps) := by rw [cell_of_row _ _ _ _ _ _ h.blk]; rfl
theorem DiskAt.c4 (h : DiskAt w base a m wv d) : w.cell? ⟨a, 4, none⟩ = some (.bool d.cut) := by rw [cell_of_row _ _ _ _ _ _ h.blk]; rfl
theorem DiskAt.c5 (h : DiskAt w base a m wv d) : w.cell? ⟨a, 5, none⟩ = some (.int .i64 d.left) := by rw [cell_of_row _ _ _ _ _ _ h.blk]; rfl
theorem DiskAt.fr (h : DiskAt w base a m wv d) (k : Nat) : w.frozen? ⟨a, k, none⟩ = false := frozen_of_row _ _ _ _ _ h.blk
end
set_option maxHeartbeats 400000 in
theorem made_calls {w : World} {base a m : Nat} {wv : Value} {d : DiskM} (h : DiskAt w base a m wv d) :
    Calls Try.prog 22 #[.pointer (some ⟨a, 0, none⟩)] w fun e w' => e = .returned (.bool true) ∧ w = w' := by
  have c0 := h.c0
  have hs : decide (d.size > 0) = true := by have := h.ok.size; simp; omega
  have H := Lib.hid h
  clear h
  go_enter Try.func22, Try.ntmps22
  go_wp2
  go_ret
  exact ⟨rfl, rfl⟩
set_option maxHeartbeats 400000 in
theorem made_nil (w : World) : Calls Try.prog 22 #[.pointer none] w fun e w' => e = .returned (.bool false) ∧ w = w' := by
  go_enter Try.func22, Try.ntmps22
  go_wp2
  go_ret
  exact ⟨rfl, rfl⟩
set_option maxHeartbeats 400000 in
theorem made_zero (a : Nat) (w : World) (c0 : w.cell? ⟨a, 0, none⟩ = some (.int .i64 0)) : Calls Try.prog 22 #[.pointer (some ⟨a, 0, none⟩)] w fun e w' => e = .returned (.bool false) ∧ w = w' := by
  go_enter Try.func22, Try.ntmps22
  go_wp2
  go_ret
  exact ⟨rfl, rfl⟩
set_option maxHeartbeats 400000 in
theorem has_calls {w : World} {base a m : Nat} {wv : Value} {d : DiskM} (h : DiskAt w base a m wv d) (i : Int) :
    Calls Try.prog 23 #[.pointer (some ⟨a, 0, none⟩), .int .i64 i] w fun e w' => e = .returned (.bool (decide (0 ≤ i ∧ i < d.size))) ∧ w = w' := by
  have c0 := h.c0
  have H := Lib.hid h
  clear h
  go_enter Try.func23, Try.ntmps23
  by_cases h0 : 0 ≤ i
  · have h1 : decide (i ≥ (0 : Int)) = true := by simp; omega
    have h2 : decide (0 ≤ i ∧ i < d.size) = decide (i < d.size) := by simp [h0]
    rw [h2]
    go_wp2
    go_ret
    exact ⟨rfl, rfl⟩
  · have h1 : decide (i ≥ (0 : Int)) = false := by simp; omega
    have h2 : decide (0 ≤ i ∧ i < d.size) = false := by simp; omega
    rw [h2]
    go_wp2
    go_ret
    exact ⟨rfl, rfl⟩
set_option maxHeartbeats 400000 in
theorem off_calls {w : World} {base a m : Nat} {wv : Value} {d : DiskM} (h : DiskAt w base a m wv d) :
    Calls Try.prog 24 #[.pointer (some ⟨a, 0, none⟩)] w fun e w' => e = .returned (.bool d.isOff) ∧ w = w' := by
  have c4 := h.c4
  have c5 := h.c5
  have H := Lib.hid h
  clear h
  unfold DiskM.isOff
  go_enter Try.func24, Try.ntmps24
  cases hc : d.cut
  · rw [hc] at c4
    go_wp2
    go_ret
    exact ⟨rfl, rfl⟩
  · rw [hc] at c4
    go_wp2
    go_ret
    exact ⟨rfl, rfl⟩
/-! step -/
theorem blk_put {w : World} {g : Nat} {t : TypeId} {cs : Array Value} (h : w.heap[g]? = some (.cells cs t (0, 0))) (i : Nat) (u : Value) :
    (w.setCell ⟨g, i, none⟩ u).heap[g]? = some (.cells (cs.setIfInBounds i u) t (0, 0)) := by
  simp [World.setCell, Array.getElem?_modify, h]
theorem DiskAt.put {w : World} {base a m : Nat} {wv : Value} {d : DiskM} (h : DiskAt w base a m wv d) (i : Nat) (u : Value) (d' : DiskM) (hk : d'.Ok) (hh : d'.held = d.held) (hw : d'.wait = d.wait) (hb : d'.bud = d.bud)
    (he : (#[.int .i64 d.size, .map (some m), wv, .int .i64 d.steps, .bool d.cut, .int .i64 d.left] : Array Value).setIfInBounds i u = #[.int .i64 d'.size, .map (some m), wv, .int .i64 d'.steps, .bool d'.cut, .int .i64 d'.left]) :
    DiskAt (w.setCell ⟨a, i, none⟩ u) base a m wv d' := by
  have hk' : Kept (· = a) w (w.setCell ⟨a, i, none⟩ u) := Kept.set1 w a i u
  obtain ⟨n, D, hm, hn⟩ := h.map
  have ha := h.blk
  exact ⟨by rw [blk_put h.blk, he], ⟨n, D, by rw [hh]; exact hm.kept hk' h.am, by rw [hw, hb]; exact hn⟩, by rw [hw]; exact row_kept h.row hk' h.ag, h.lo, hk⟩
set_option maxHeartbeats 400000 in
theorem step_calls {w : World} {base a m : Nat} {wv : Value} {d : DiskM} (h : DiskAt w base a m wv d) (hst : d.steps + 1 ≤ 1000000) (hl : d.cut = true → 1 ≤ d.left) :
    Calls Try.prog 25 #[.pointer (some ⟨a, 0, none⟩)] w fun e w' => e = .returned undef ∧ DiskAt w' base a m wv d.step ∧ Kept (· = a) w w' := by
  have c3 := h.c3
  have c4 := h.c4
  have c5 := h.c5
  have f3 := h.fr 3
  have f5 := h.fr 5
  have s0 := h.ok.steps
  have s1 := h.ok.left
  have o := h.ok
  have H := Lib.hid h
  clear h
  cases hc : d.cut
  · have hD : DiskAt (w.setCell ⟨a, 3, none⟩ (.int .i64 (d.steps + 1))) base a m wv d.step := H.out.put 3 _ _ ⟨o.hlen, o.wlen, o.size, o.bud, by simp [DiskM.step]; omega, by simp [DiskM.step, hc]; omega⟩ rfl rfl rfl (by simp [DiskM.step, hc])
    have HD := Lib.hid hD
    clear hD o
    rw [hc] at c4
    go_enter Try.func25, Try.ntmps25
    go_wp2
    go_end0
    exact ⟨rfl, HD.out, Kept.set1 w a 3 _⟩
  · have hD : DiskAt ((w.setCell ⟨a, 3, none⟩ (.int .i64 (d.steps + 1))).setCell ⟨a, 5, none⟩ (.int .i64 (d.left - 1))) base a m wv d.step := by
      have k1 : DiskAt (w.setCell ⟨a, 3, none⟩ (.int .i64 (d.steps + 1))) base a m wv { d with steps := d.steps + 1 } := H.out.put 3 _ _ ⟨o.hlen, o.wlen, o.size, o.bud, by simp; omega, o.left⟩ rfl rfl rfl (by simp [hc])
      exact k1.put 5 _ _ ⟨o.hlen, o.wlen, o.size, o.bud, by simp [DiskM.step]; omega, by have := hl hc; simp [DiskM.step, hc]; omega⟩ rfl rfl rfl (by simp [DiskM.step, hc])
    have HD := Lib.hid hD
    have hl1 := hl hc
    clear hD o
    rw [hc] at c4
    go_enter Try.func25, Try.ntmps25
    go_wp2
    go_end0
    exact ⟨rfl, HD.out, (Kept.set1 w a 3 _).trans (Kept.set1 _ a 5 _)⟩
/-! what waits -/
theorem entCells_get : ∀ (l : List (Int × List UInt8)) (hl : ∀ e ∈ l, e.2.length = 256) (k : Nat) (hk : k < l.length) (j : Nat), j < 257 → (entCells l)[k * 257 + j]? = (entL l[k])[j]?
  | [], _, k, hk, _, _ => absurd hk (by simp)
  | e :: l, hl, 0, _, j, hj => by
    have := entL_length e (hl e (.head _))
    simp only [entCells, List.flatMap_cons, Nat.zero_mul, Nat.zero_add, List.getElem_cons_zero]
    rw [List.getElem?_append_left (by omega)]
  | e :: l, hl, k + 1, hk, j, hj => by
    have := entL_length e (hl e (.head _))
    have ih := entCells_get l (fun x hx => hl x (.tail _ hx)) k (by simpa using hk) j hj
    simp only [entCells, List.flatMap_cons, List.getElem_cons_succ] at *
    rw [List.getElem?_append_right (by omega), ← ih]
    congr 1
    omega
theorem DiskAt.form {w : World} {base a m : Nat} {wv : Value} {d : DiskM} (h : DiskAt w base a m wv d) : (wv = .slice none 0 0 ∧ d.wait = []) ∨ ∃ g c, wv = .slice (some ⟨g, 0, none⟩) d.wait.length c := by
  rcases h.row.2 with ⟨h1, h2⟩ | ⟨g, cap, cur, h1, _⟩
  · exact .inl ⟨h1, List.eq_nil_of_length_eq_zero h2⟩
  · exact .inr ⟨g, cap, h1⟩
theorem wait_at {w : World} {base a m g n c : Nat} {d : DiskM} (h : DiskAt w base a m (.slice (some ⟨g, 0, none⟩) n c) d) (k : Nat) (hk : k < d.wait.length) : w.rangeAt g (k * 257) (entL d.wait[k]) := by
  intro j v hv
  have hj : j < 257 := by
    have := (List.getElem?_eq_some_iff.1 hv).1
    rwa [entL_length _ (h.ok.wlen _ (List.getElem_mem hk)).1] at this
  have hl := entCells_length d.wait (fun e he => (h.ok.wlen e he).1)
  have hn : n = d.wait.length := by
    rcases h.form with ⟨h1, _⟩ | ⟨g', c', h1⟩
    · cases h1
    · cases h1; rfl
  subst hn
  rw [World.ownsRow.cellAt h.row (k * 257 + j) (by omega), entCells_get d.wait (fun e he => (h.ok.wlen e he).1) k hk j hj]
  exact hv
theorem rangeAt_tail {w : World} {b o : Nat} {e : Int × List UInt8} (h : w.rangeAt b o (entL e)) : w.rangeAt b (o + 1) (cells8 e.2) := by
  intro j v hv
  have := h (j + 1) v (by simpa [entL] using hv)
  rw [← this]; congr 2; omega
theorem rangeAt_head {w : World} {b o : Nat} {e : Int × List UInt8} (h : w.rangeAt b o (entL e)) : w.cell? ⟨b, o, none⟩ = some (.int .i64 e.1) := h 0 _ rfl
end Go.Proofs.Ytehigfpdeoebdaa.Dsk
