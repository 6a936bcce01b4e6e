/- The document's Parse. -/
import Derived.Test.YtibhoekbjgoanaaDoorPagePA
import Derived.Test.YtibhoekbjgoanaaDoorHandM
set_option linter.unusedSimpArgs false
set_option linter.unusedVariables false
namespace Go.Proofs.YtibhoekbjgoanaaDoor
open Go.RowKit Go.Proofs.YtibhoekbjgoanaaDoor.Crc
/-- What Parse tells. -/
def RetPs (w0 : World) (l : List UInt8) (e : Ending) (w' : World) : Prop :=
  Below w0.heap.size w0 w' ∧ ((soundB l = false ∧ e = .returned (.tuple #[.agg #[.int .i64 0, .int .u8 0, .slice none 0 0], .bool false])) ∨
    (soundB l = true ∧ ∃ A c, e = .returned (.tuple #[.agg #[.int .i64 (numP l : Int), .int .u8 ((at8 l 4).toNat : Int), .slice A (cntB l) c], .bool true]) ∧ RowsB w' A (cellsR l (cntB l) (cntB l))))
theorem sizePg : (Tryd.prog.info? 63).map (·.size) = some 3 := by kernel_rfl
theorem run_retPage {w : World} {r : Nat} {x y z : Value} (h : w.heap[r]? = some (.cells #[x, y, z] 63 (0, 0))) : (loadVar 63 ⟨r, 0, none⟩).run Tryd.prog w = .ok (.agg #[x, y, z]) w :=
  run_loadVar_row _ _ _ 63 _ (0, 0) _ h Tryd.underlying63 rfl sizePg
theorem results_cell2 {fn : Func} {t : TypeId} {k j r : Nat} {w : World} {v u : Value} (hf : fn.results = #[.cell k t, .tmp j]) (tmps : Array Value) (hp : tmps.getD k undef = .pointer (some ⟨r, 0, none⟩)) (hu : tmps.getD j undef = u)
    (h : (loadVar t ⟨r, 0, none⟩).run Tryd.prog w = .ok v w) : (results fn tmps).run Tryd.prog w = .ok (.tuple #[v, u]) w := by
  rw [Array.getD_eq_getD_getElem?] at hp hu
  simp [results, hf, hp, hu, asAddr, h]
theorem sound_short (l : List UInt8) (h : l.length ≠ 256 ∨ 127 < (at8 l 0).toNat ∨ at8 l 4 = 0) : soundB l = false := by
  cases hS : soundB l with
  | false => rfl
  | true =>
    obtain ⟨h1, h2, h3, _⟩ := sound_up l hS
    rcases h with h | h | h
    · exact absurd h1 h
    · omega
    · exact absurd h h3
theorem sound_not (l : List UInt8) (N S : Nat) (hN : cntB l = N) (hS : sizB l = S) (h : ¬ (2 * N + S ≤ 244 ∧ upTo l N S ∧ eAt l N = S)) : soundB l = false := by
  cases hs : soundB l with
  | false => rfl
  | true =>
    obtain ⟨_, _, _, h4, h5, h6⟩ := sound_up l hs
    rw [hN, hS] at h4
    rw [hN, hS] at h5
    rw [hN, hS] at h6
    exact absurd ⟨h4, h5, h6⟩ h
theorem retPs_no {w0 w : World} {l : List UInt8} (hb : Below w0.heap.size w0 w) (h : soundB l = false) : RetPs w0 l (.returned (.tuple #[.agg #[.int .i64 0, .int .u8 0, .slice none 0 0], .bool false])) w := ⟨hb, .inl ⟨h, rfl⟩⟩
set_option maxRecDepth 100000 in
set_option maxHeartbeats 400000 in
theorem refParse_bad (A : Option Addr) (n c : Nat) (l : List UInt8) (w : World) (hn : n = l.length) (hb : Bytes w A l) (h : l.length ≠ 256 ∨ 127 < (at8 l 0).toNat ∨ at8 l 4 = 0) :
    Calls Tryd.prog 59 #[.slice A n c] w (RetPs w l) := by
  have HS := Lib.hid (sound_short l h)
  by_cases h256 : l.length = 256
  · obtain ⟨b, o, rfl⟩ := hb.spot (by omega)
    obtain rfl : n = 256 := by omega
    have cellAt : ∀ i, i < 256 → w.cell? ⟨b, o + i, none⟩ = some (.int .u8 ((at8 l i).toNat : Int)) := fun i hi => by
      obtain ⟨ad, h, hx⟩ := hb i (by omega)
      cases h
      rw [Addr.add_lit] at hx
      exact hx
    have x0 := cellAt 0 (by decide)
    rw [Nat.add_zero] at x0
    have x4 := cellAt 4 (by decide)
    have hblt : b < w.heap.size := World.block_lt_of_cell? w _ x4
    obtain ⟨u1, u2⟩ := ltu8 (at8 l 0)
    obtain ⟨u3, u4⟩ := ltu8 (at8 l 4)
    by_cases h0 : 127 < (at8 l 0).toNat
    · have d0 : decide (((at8 l 0).toNat : Int) > 127) = true := by simp; omega
      clear h hn hb cellAt h256 h0
      go_enter Tryd.func59, Tryd.ntmps59
      go_wp2_with fail
      refine bodyPost_ret_by (results_cell2 rfl _ rfl rfl (run_retPage (heap_alloc_new w _))) rfl ?_
      exact retPs_no ((Below.refl _ _).alloc (Nat.le_refl _) _) HS.out
    · have d0 : decide (((at8 l 0).toNat : Int) > 127) = false := by simp; omega
      have h4 : at8 l 4 = 0 := by
        rcases h with h | h | h
        · exact absurd h256 h
        · exact absurd h h0
        · exact h
      have d4 : (((at8 l 4).toNat : Int) == 0) = true := by rw [h4]; rfl
      clear h hn hb cellAt h256 h0 h4
      go_enter Tryd.func59, Tryd.ntmps59
      go_wp2_with fail
      refine bodyPost_ret_by (results_cell2 rfl _ rfl rfl (run_retPage (heap_alloc_new w _))) rfl ?_
      exact retPs_no ((Below.refl _ _).alloc (Nat.le_refl _) _) HS.out
  · have h2 : ((n : Int) != 256) = true := by simp; omega
    clear h hn hb h256
    go_enter Tryd.func59, Tryd.ntmps59
    go_wp2_with fail
    refine bodyPost_ret_by (results_cell2 rfl _ rfl rfl (run_retPage (heap_alloc_new w _))) rfl ?_
    exact retPs_no ((Below.refl _ _).alloc (Nat.le_refl _) _) HS.out
/-- Parse under way: the reader, the page, the memory of the result. -/
def PsI (w0 : World) (B2 r p no : Nat) (k : UInt8) (v : Value) (rest : List UInt8) (w : World) : Prop :=
  Below w0.heap.size w0 w ∧ w.heap[B2]? = some (.cells #[.int .i64 0, .int .u8 0, .slice none 0 0] 63 (0, 0)) ∧ RfL w r rest ∧ PgAt w p no k v ∧ w0.heap.size ≤ B2 ∧ B2 < r ∧ r < p
theorem PsI.read {w0 : World} {B2 r p no : Nat} {k : UInt8} {v : Value} {rest rest' : List UInt8} {w w' : World} (h : PsI w0 B2 r p no k v rest w) (hr : RfL w' r rest') (hk : Kept (· = r) w w') : PsI w0 B2 r p no k v rest' w' := by
  obtain ⟨h1, h2, h3, h4, h5, h6, h7⟩ := h
  refine ⟨h1.trans (hk.below h1.size (fun j hj e => by omega)), ?_, hr, h4.kept hk (by show ¬ p = r; omega), h5, h6, h7⟩
  rw [hk.block B2 (Array.getElem?_eq_some_iff.1 h2).1 (by show ¬ B2 = r; omega)]; exact h2
theorem PsI.page {w0 : World} {B2 r p no no' : Nat} {k k' : UInt8} {v v' : Value} {rest : List UInt8} {w w' : World} (h : PsI w0 B2 r p no k v rest w) (hp : PgAt w' p no' k' v') (hk : Kept (· = p) w w') : PsI w0 B2 r p no' k' v' rest w' := by
  obtain ⟨h1, h2, h3, h4, h5, h6, h7⟩ := h
  refine ⟨h1.trans (hk.below h1.size (fun j hj e => by omega)), ?_, h3.kept hk (fun j hj e => by omega), hp, h5, h6, h7⟩
  rw [hk.block B2 (Array.getElem?_eq_some_iff.1 h2).1 (by show ¬ B2 = p; omega)]; exact h2
theorem PsI.below {w0 : World} {B2 r p no : Nat} {k : UInt8} {v : Value} {rest : List UInt8} {w w' : World} (h : PsI w0 B2 r p no k v rest w) (hb : Below w.heap.size w w') : PsI w0 B2 r p no k v rest w' := by
  obtain ⟨h1, h2, h3, h4, h5, h6, h7⟩ := h
  refine ⟨h1.trans (hb.mono h1.size), ?_, h3.below hb, h4.below hb, h5, h6, h7⟩
  rw [hb.block B2 (Array.getElem?_eq_some_iff.1 h2).1]; exact h2
theorem PsI.kept {S : Nat → Prop} {w0 : World} {B2 r p no : Nat} {k : UInt8} {v : Value} {rest : List UInt8} {w w' : World} (h : PsI w0 B2 r p no k v rest w) (hk : Kept S w w') (hS : ∀ j, S j → p < j) : PsI w0 B2 r p no k v rest w' := by
  obtain ⟨h1, h2, h3, h4, h5, h6, h7⟩ := h
  refine ⟨h1.trans (hk.below h1.size (fun j hj e => by have := hS j e; omega)), ?_, h3.kept hk (fun j hj e => by have := hS j e; omega), h4.kept hk (fun e => by have := hS p e; omega), h5, h6, h7⟩
  rw [hk.block B2 (Array.getElem?_eq_some_iff.1 h2).1 (fun e => by have := hS B2 e; omega)]; exact h2
theorem PsI.retNo {w0 : World} {B2 r p no : Nat} {k : UInt8} {v : Value} {rest : List UInt8} {w : World} (h : PsI w0 B2 r p no k v rest w) : (loadVar 63 ⟨B2, 0, none⟩).run Tryd.prog w = .ok (.agg #[.int .i64 0, .int .u8 0, .slice none 0 0]) w := run_retPage h.2.1
/-- The result's memory, set to what it was. -/
theorem PsI.res {w0 : World} {B2 r p no : Nat} {k : UInt8} {v : Value} {rest : List UInt8} {w : World} (h : PsI w0 B2 r p no k v rest w) : w.cell? ⟨B2, 0, none⟩ = some (.int .i64 0) ∧ w.cell? ⟨B2, 1, none⟩ = some (.int .u8 0) ∧ w.cell? ⟨B2, 2, none⟩ = some (.slice none 0 0) ∧ w.frozen? ⟨B2, 0, none⟩ = false ∧ w.frozen? ⟨B2, 1, none⟩ = false ∧ w.frozen? ⟨B2, 2, none⟩ = false :=
  ⟨by rw [cell_of_row _ _ _ _ _ _ h.2.1]; rfl, by rw [cell_of_row _ _ _ _ _ _ h.2.1]; rfl, by rw [cell_of_row _ _ _ _ _ _ h.2.1]; rfl, frozen_of_row _ _ _ _ _ h.2.1, frozen_of_row _ _ _ _ _ h.2.1, frozen_of_row _ _ _ _ _ h.2.1⟩
theorem PsI.fixed {w0 : World} {B2 r p no : Nat} {k : UInt8} {v : Value} {rest : List UInt8} {w : World} (h : PsI w0 B2 r p no k v rest w) (s : Nat) (hs : s ≤ rest.length) (h8 : s ≤ 8) :
    Calls Tryd.prog 49 #[.pointer (some ⟨r, 0, none⟩), .int .i64 (s : Int)] w fun e w' => e = .returned (.int .u64 (natB (rest.take s) : Int)) ∧ Hid (PsI w0 B2 r p no k v (rest.drop s) w' ∧ Kept (· = r) w w') :=
  (refRFixed_calls h.2.2.1 s hs h8).mono fun _ _ ⟨he, hr, hk⟩ => ⟨he, h.read hr hk, hk⟩
theorem PsI.lo {w0 : World} {B2 r p no : Nat} {k : UInt8} {v : Value} {rest : List UInt8} {w : World} (h : PsI w0 B2 r p no k v rest w) : Below w0.heap.size w0 w := h.1
theorem PsI.pg {w0 : World} {B2 r p no : Nat} {k : UInt8} {v : Value} {rest : List UInt8} {w : World} (h : PsI w0 B2 r p no k v rest w) : PgAt w p no k v := h.2.2.2.1
/-- The result's memory, written. -/
theorem PsI.put3 {w0 : World} {B2 r p no : Nat} {k : UInt8} {v : Value} {rest : List UInt8} {w : World} (h : PsI w0 B2 r p no k v rest w) (x y z : Value) :
    (loadVar 63 ⟨B2, 0, none⟩).run Tryd.prog (((w.setCell ⟨B2, 0, none⟩ x).setCell ⟨B2, 1, none⟩ y).setCell ⟨B2, 2, none⟩ z) = .ok (.agg #[x, y, z]) (((w.setCell ⟨B2, 0, none⟩ x).setCell ⟨B2, 1, none⟩ y).setCell ⟨B2, 2, none⟩ z) ∧ Below w0.heap.size w0 (((w.setCell ⟨B2, 0, none⟩ x).setCell ⟨B2, 1, none⟩ y).setCell ⟨B2, 2, none⟩ z) ∧ Kept (· = B2) w (((w.setCell ⟨B2, 0, none⟩ x).setCell ⟨B2, 1, none⟩ y).setCell ⟨B2, 2, none⟩ z) := by
  have hk : Kept (· = B2) w (((w.setCell ⟨B2, 0, none⟩ x).setCell ⟨B2, 1, none⟩ y).setCell ⟨B2, 2, none⟩ z) := ((Kept.set1 w B2 0 x).trans (Kept.set1 _ B2 1 y)).trans (Kept.set1 _ B2 2 z)
  refine ⟨run_retPage ?_, h.1.trans (hk.below h.1.size (fun j hj e => by have := h.2.2.2.2.1; omega)), hk⟩
  have := h.2.1
  simp [World.setCell, Array.getElem?_modify, this]
def sizesR (l : List UInt8) (j : Nat) : List Nat := (List.range j).map fun t => eAt l (t + 1) - eAt l t
theorem sizesR_succ (l : List UInt8) (j : Nat) : sizesR l (j + 1) = sizesR l j ++ [eAt l (j + 1) - eAt l j] := by unfold sizesR; rw [List.range_succ, List.map_append]; rfl
theorem sizesR_len (l : List UInt8) (j : Nat) : (sizesR l j).length = j := by unfold sizesR; simp
theorem eAt_le (l : List UInt8) (j : Nat) : eAt l j ≤ 65535 := endB_le _ _
set_option maxRecDepth 100000 in
set_option maxHeartbeats 2000000 in
theorem refParse_calls (A : Option Addr) (n c : Nat) (l : List UInt8) (w : World) (hn : n = l.length) (hb : Bytes w A l) (hc : n ≤ c) :
    Calls Tryd.prog 59 #[.slice A n c] w (RetPs w l) := by
  by_cases hbad : l.length ≠ 256 ∨ 127 < (at8 l 0).toNat ∨ at8 l 4 = 0
  · exact refParse_bad A n c l w hn hb hbad
  have h256 : l.length = 256 := by rcases Nat.decEq l.length 256 with h | h; exact absurd (.inl h) hbad; exact h
  have h0 : (at8 l 0).toNat ≤ 127 := by rcases Nat.lt_or_ge 127 (at8 l 0).toNat with h | h; exact absurd (.inr (.inl h)) hbad; exact h
  have h4 : at8 l 4 ≠ 0 := fun h => hbad (.inr (.inr h))
  clear hbad
  obtain ⟨b, o, rfl⟩ := hb.spot (by omega)
  obtain rfl : n = 256 := by omega
  have cellAt : ∀ i, i < 256 → w.cell? ⟨b, o + i, none⟩ = some (.int .u8 ((at8 l i).toNat : Int)) := fun i hi => by
    obtain ⟨ad, h, hx⟩ := hb i (by omega)
    cases h
    rw [Addr.add_lit] at hx
    exact hx
  have x0 := cellAt 0 (by decide)
  rw [Nat.add_zero] at x0
  have x4 := cellAt 4 (by decide)
  have hblt : b < w.heap.size := World.block_lt_of_cell? w _ x4
  obtain ⟨u1, u2⟩ := ltu8 (at8 l 0)
  obtain ⟨u3, u4⟩ := ltu8 (at8 l 4)
  have d0 : decide (((at8 l 0).toNat : Int) > 127) = false := by simp; omega
  have d4 : (((at8 l 4).toNat : Int) == 0) = false := by
    rw [beq_eq_false_iff_ne]; intro h; exact h4 (UInt8.toNat_inj.1 (by simpa using h))
  have HB := Lib.hid hb
  have HL := Lib.hid h256
  have H0 := Lib.hid h0
  have H4 := Lib.hid h4
  clear hn hb cellAt h256 h0 h4
  go_enter Tryd.func59, Tryd.ntmps59
  go_wp2_with (go_at_call 49; refine park ?_; intro q hq)
  refine hq.out ?_
  clear hq
  have hP0 : PsI w w.heap.size (w.heap.size + 1) (w.heap.size + 1 + 1) 0 0 (.slice none 0 0) l
      (((w.alloc (Obj.cells #[.int .i64 0, .int .u8 0, .slice none 0 0] 63)).alloc (Obj.cells #[.slice (some ⟨b, o, none⟩) 256 c, .int .i64 0] 74)).alloc (Obj.cells #[.int .i64 0, .int .u8 0, .slice none 0 0] 63)) := by
    have b1 : Below w.heap.size w (w.alloc (Obj.cells #[.int .i64 0, .int .u8 0, .slice none 0 0] 63)) := (Below.refl _ _).alloc (Nat.le_refl _) _
    have a1 := heap_alloc_new w (Obj.cells #[.int .i64 0, .int .u8 0, .slice none 0 0] 63)
    have z1 : (w.alloc (Obj.cells #[.int .i64 0, .int .u8 0, .slice none 0 0] 63)).heap.size = w.heap.size + 1 := by simp
    generalize w.alloc (Obj.cells #[.int .i64 0, .int .u8 0, .slice none 0 0] 63) = w1 at *
    have b2 : Below w1.heap.size w1 (w1.alloc (Obj.cells #[.slice (some ⟨b, o, none⟩) 256 c, .int .i64 0] 74)) := (Below.refl _ _).alloc (Nat.le_refl _) _
    have a2 := heap_alloc_new w1 (Obj.cells #[.slice (some ⟨b, o, none⟩) 256 c, .int .i64 0] 74)
    have z2 : (w1.alloc (Obj.cells #[.slice (some ⟨b, o, none⟩) 256 c, .int .i64 0] 74)).heap.size = w1.heap.size + 1 := by simp
    generalize w1.alloc (Obj.cells #[.slice (some ⟨b, o, none⟩) 256 c, .int .i64 0] 74) = w2 at *
    have b3 : Below w2.heap.size w2 (w2.alloc (Obj.cells #[.int .i64 0, .int .u8 0, .slice none 0 0] 63)) := (Below.refl _ _).alloc (Nat.le_refl _) _
    have a3 := heap_alloc_new w2 (Obj.cells #[.int .i64 0, .int .u8 0, .slice none 0 0] 63)
    generalize w2.alloc (Obj.cells #[.int .i64 0, .int .u8 0, .slice none 0 0] 63) = w3 at *
    have b23 : Below w1.heap.size w1 w3 := b2.trans (b3.mono b2.size)
    refine ⟨b1.trans (b23.mono b1.size), ?_, ?_, ?_, Nat.le_refl _, Nat.lt_succ_self _, Nat.lt_succ_self _⟩
    · rw [b23.block w.heap.size (by omega)]; exact a1
    · refine ⟨some ⟨b, o, none⟩, c, ?_, ((HB.out.below b1).below b23), by rw [HL.out]; exact hc, (fun ad h => by cases h; show b < _; omega), ⟨_, rfl⟩⟩
      unfold RfAt
      rw [HL.out, b3.block (w.heap.size + 1) (by omega), ← z1]; exact a2
    · unfold PgAt
      rw [← z1, ← z2]; exact a3
  generalize (((w.alloc (Obj.cells #[.int .i64 0, .int .u8 0, .slice none 0 0] 63)).alloc (Obj.cells #[.slice (some ⟨b, o, none⟩) 256 c, .int .i64 0] 74)).alloc (Obj.cells #[.int .i64 0, .int .u8 0, .slice none 0 0] 63)) = w3 at hP0 ⊢
  obtain ⟨B2, hB2⟩ : ∃ B2, w.heap.size = B2 := ⟨_, rfl⟩
  rw [hB2] at hP0 ⊢
  obtain ⟨r, hr⟩ : ∃ r, B2 + 1 = r := ⟨_, rfl⟩
  rw [hr] at hP0 ⊢
  obtain ⟨p, hp⟩ : ∃ p, r + 1 = p := ⟨_, rfl⟩
  rw [hp] at hP0 ⊢
  have HP0 := Lib.hid hP0
  clear hB2 hr hp hP0 x0 x4 d0 d4 hblt u1 u2 u3 u4
  -- the head
  have hf := HP0.out.fixed 4 (by rw [HL.out]; decide) (by decide)
  rw [show ((4 : Nat) : Int) = 4 from rfl] at hf
  have hnum := numP_le l HL.out H0.out
  obtain ⟨no, hno⟩ : ∃ no, natB (l.take 4) = no := ⟨_, rfl⟩
  have hno2 : numP l = no := hno
  rw [hno] at hf
  rw [hno2] at hnum
  have HF := Lib.hid hf
  have HNo := Lib.hid hno2
  have c1 : IntKind.i64.wrap (no : Int) = (no : Int) := IntWalk.i64_in _ (by omega)
  clear hf hno hno2
  refine HF.out.mono ?_
  rintro e w4 ⟨rfl, HP4⟩
  obtain ⟨y0, y1, y2, y3, y4, y5⟩ := HP4.out.1.pg.cells
  have HP5 : Hid (PsI w B2 r p no 0 (.slice none 0 0) (l.drop 4) (w4.setCell ⟨p, 0, none⟩ (.int .i64 (no : Int)))) := HP4.out.1.page (HP4.out.1.pg.set0 no) (Kept.set1 w4 p 0 _)
  go_wp2_with (go_at_call 49; refine park ?_; intro q hq)
  refine hq.out ?_
  clear hq
  generalize w4.setCell ⟨p, 0, none⟩ (.int .i64 (no : Int)) = w5 at HP5 ⊢
  clear HP4 y0 y1 y2 y3 y4 y5 HP0 HF
  have hf := HP5.out.fixed 1 (by rw [List.length_drop, HL.out]; decide) (by decide)
  rw [show ((1 : Nat) : Int) = 1 from rfl, natB_one l 4 (by rw [HL.out]; decide), List.drop_drop, show 4 + 1 = 5 from rfl] at hf
  obtain ⟨kd, hkd⟩ : ∃ kd, at8 l 4 = kd := ⟨_, rfl⟩
  rw [hkd] at hf
  have HKd := Lib.hid hkd
  have HF := Lib.hid hf
  have c2 : IntKind.u8.wrap (kd.toNat : Int) = (kd.toNat : Int) := by have := kd.toNat_lt; simp only [IntKind.wrap, IntKind.bits, IntKind.signed]; simp; omega
  have c3 := u8_mod kd
  clear hf hkd
  refine HF.out.mono ?_
  rintro e w6 ⟨rfl, HP6⟩
  obtain ⟨y0, y1, y2, y3, y4, y5⟩ := HP6.out.1.pg.cells
  have HP7 : Hid (PsI w B2 r p no kd (.slice none 0 0) (l.drop 5) (w6.setCell ⟨p, 1, none⟩ (.int .u8 (kd.toNat : Int)))) := HP6.out.1.page (HP6.out.1.pg.set1 kd) (Kept.set1 w6 p 1 _)
  go_wp2_with (go_at_call 49; refine park ?_; intro q hq)
  refine hq.out ?_
  clear hq
  generalize w6.setCell ⟨p, 1, none⟩ (.int .u8 (kd.toNat : Int)) = w7 at HP7 ⊢
  clear HP6 y0 y1 y2 y3 y4 y5 HP5 HF c2 c3
  have hf := HP7.out.fixed 1 (by rw [List.length_drop, HL.out]; decide) (by decide)
  obtain ⟨N, hN⟩ : ∃ N, (at8 l 5).toNat = N := ⟨_, rfl⟩
  rw [show ((1 : Nat) : Int) = 1 from rfl, natB_one l 5 (by rw [HL.out]; decide), List.drop_drop, show 5 + 1 = 6 from rfl, hN] at hf
  have HN : Hid (cntB l = N) := hN
  have hN256 : N ≤ 255 := by have := (at8 l 5).toNat_lt; omega
  have HF := Lib.hid hf
  have c4 : IntKind.i64.wrap (N : Int) = (N : Int) := IntWalk.i64_in _ (by omega)
  clear hf hN
  refine HF.out.mono ?_
  rintro e w8 ⟨rfl, HP8⟩
  go_wp2_with (go_at_call 49; refine park ?_; intro q hq)
  refine hq.out ?_
  clear hq
  have hf := HP8.out.1.fixed 2 (by rw [List.length_drop, HL.out]; decide) (by decide)
  obtain ⟨S, hS⟩ : ∃ S, wordB l 6 = S := ⟨_, rfl⟩
  rw [show ((2 : Nat) : Int) = 2 from rfl, natB_two l 6 (by rw [HL.out]; decide), List.drop_drop, show 6 + 2 = 8 from rfl, hS] at hf
  have HS : Hid (sizB l = S) := hS
  have hS2 : S ≤ 65535 := by rw [← hS]; exact wordB_le _ _
  have HF2 := Lib.hid hf
  have c5 : IntKind.i64.wrap (S : Int) = (S : Int) := IntWalk.i64_in _ (by omega)
  clear hf hS HF HP7
  refine HF2.out.mono ?_
  rintro e w9 ⟨rfl, HP9⟩
  by_cases h244 : 2 * N + S ≤ 244
  · have d1 : decide (2 * (N : Int) + (S : Int) > 244) = false := by simp; omega
    have HI : Hid (PsI w B2 r p no kd (.slice none 0 0) (l.drop (8 + 2 * 0)) w9 ∧ OwnI w9 (p + 1) (.slice none 0 0) (sizesR l 0) ∧ upTo l 0 S) := ⟨HP9.out.1, OwnI.nil _ _, fun i hi => absurd hi (by omega)⟩
    have hN122 : N ≤ 122 := by omega
    clear HP8 HP9 hS2 hN256 HF2
    go_wp2_with fail
    go_loopw [8, 9, 10] (fun a s i wr => ∃ j E : Nat, j ≤ N ∧ E ≤ S ∧ i = .int .i64 (j : Int) ∧ a = .int .i64 (E : Int) ∧ Hid (E = eAt l j) ∧ Hid (PsI w B2 r p no kd (.slice none 0 0) (l.drop (8 + 2 * j)) wr ∧ OwnI wr (p + 1) s (sizesR l j) ∧ upTo l j S)) (fun _ _ i _ => N - (intOf i).toNat)
    case atStart => exact ⟨0, 0, Nat.zero_le _, Nat.zero_le _, rfl, rfl, rfl, HI⟩
    case round =>
      obtain ⟨j, E, hj, hES, rfl, rfl, HE, HR⟩ := hrel
      by_cases hlt : j < N
      · have hf := HR.out.1.fixed 2 (by rw [List.length_drop, HL.out]; omega) (by decide)
        obtain ⟨E2, hE2⟩ : ∃ E2, wordB l (8 + 2 * j) = E2 := ⟨_, rfl⟩
        rw [show ((2 : Nat) : Int) = 2 from rfl, natB_two l (8 + 2 * j) (by rw [HL.out]; omega), List.drop_drop, show 8 + 2 * j + 2 = 8 + 2 * (j + 1) by omega, hE2] at hf
        have HE2 : Hid (eAt l (j + 1) = E2) := by show _ = _; rw [eAt_succ, hE2]
        have hE2s : E2 ≤ 65535 := by rw [← hE2]; exact wordB_le _ _
        have HF := Lib.hid hf
        have c5 : IntKind.i64.wrap (E2 : Int) = (E2 : Int) := IntWalk.i64_in _ (by omega)
        clear hf hE2
        by_cases hok : E ≤ E2 ∧ E2 ≤ S
        · obtain ⟨hok1, hok2⟩ := hok
          have d2 : decide ((E2 : Int) < (E : Int)) = false := by simp; omega
          have d3 : decide ((E2 : Int) > (S : Int)) = false := by simp; omega
          have e1 : (E2 : Int) - (E : Int) = ((E2 - E : Nat) : Int) := by omega
          go_wp2_with (first | (go_at_call 49; (with_reducible refine HF.out.mono ?_); rintro e wa ⟨rfl, HPa⟩; refine park ?_; intro q hq))
          have HOa : Hid (OwnI wa (p + 1) u9 (sizesR l j)) := HR.out.2.1.kept HPa.out.2 (fun t ht e => by have := (World.ownsRow.lt HR.out.2.1 t ht).1; have := HPa.out.1.2.2.2.2.2.2; omega)
          refine hq.out ?_
          clear hq
          go_wp2_with (with_reducible refine park_append ?_; intro q hq)
          refine hq.out ?_
          clear hq
          have hpz : p < wa.heap.size := HPa.out.1.pg.lt
          have hAl : Below wa.heap.size wa (wa.alloc (Obj.cells #[.int .i64 ((E2 - E : Nat) : Int)] 3)) := (Below.refl _ _).alloc (Nat.le_refl _) _
          refine wpList_append_int rfl _ _ rfl (p + 1) _ (sizesR l j) rfl (HOa.out.below hAl) ⟨wa.heap.size, 0, none⟩ 1 (E2 - E) rfl ?_ (by rw [sizesR_len]; omega) (by have := hAl.size; omega) ?_
          · rw [Addr.add_lit, cell_of_row _ _ _ _ _ _ (heap_alloc_new wa _)]; rfl
          intro v7 w7 H7
          have HF7 : Hid (PsI w B2 r p no kd (.slice none 0 0) (l.drop (8 + 2 * (j + 1))) w7 ∧ OwnI w7 (p + 1) v7 (sizesR l (j + 1)) ∧ upTo l (j + 1) S) := by
            have hk7 : Kept (fun t => p < t) wa w7 := (Kept.of_below hAl).trans (Kept.of_grown H7.out.2 (fun t ht => (World.ownsRow.lt (HOa.out.below hAl) t ht).1))
            refine ⟨HPa.out.1.kept hk7 (fun t ht => ht), ?_, ?_⟩
            · rw [sizesR_succ, HE2.out, ← HE.out]; exact H7.out.1
            · intro i hi
              by_cases hij : i = j
              · subst hij; rw [HE2.out, ← HE.out]; exact ⟨hok1, hok2⟩
              · exact HR.out.2.2 i (by omega)
          clear hAl H7 HPa HOa hpz HF
          go_wp2_with fail
          go_roundw
          case rel => exact ⟨j + 1, E2, by omega, by omega, by go_num, rfl, HE2.out.symm, HF7⟩
          case measure => simp [intOf]; omega
        · have HNo2 : Hid (soundB l = false) := sound_not l N S HN.out HS.out (fun h => hok (by
            have := h.2.1 j hlt
            rw [← HE.out, HE2.out] at this
            exact this))
          by_cases h1 : E2 < E
          · have d2 : decide (E2 < E) = true := by simp; omega
            clear hok
            go_wp2_with (first | (go_at_call 49; (with_reducible refine HF.out.mono ?_); rintro e wa ⟨rfl, HPa⟩; refine park ?_; intro q hq))
            obtain ⟨z0, z1, z2, z3, z4, z5⟩ := HPa.out.1.res
            refine hq.out ?_
            clear hq
            go_wp2_with fail
            obtain ⟨g1, g2, _⟩ := HPa.out.1.put3 (.int .i64 0) (.int .u8 0) (.slice none 0 0)
            refine bodyPost_ret_by (results_cell2 rfl _ rfl rfl g1) rfl ?_
            exact retPs_no g2 HNo2.out
          · have d2 : decide (E2 < E) = false := by simp; omega
            have d3 : decide (S < E2) = true := by simp; omega
            clear hok
            go_wp2_with (first | (go_at_call 49; (with_reducible refine HF.out.mono ?_); rintro e wa ⟨rfl, HPa⟩; refine park ?_; intro q hq))
            obtain ⟨z0, z1, z2, z3, z4, z5⟩ := HPa.out.1.res
            refine hq.out ?_
            clear hq
            go_wp2_with fail
            obtain ⟨g1, g2, _⟩ := HPa.out.1.put3 (.int .i64 0) (.int .u8 0) (.slice none 0 0)
            refine bodyPost_ret_by (results_cell2 rfl _ rfl rfl g1) rfl ?_
            exact retPs_no g2 HNo2.out
      · obtain rfl : j = N := by omega
        by_cases hES2 : E = S
        · subst hES2
          have HI2 : Hid (PsI w B2 r p no kd (.slice none 0 0) (l.drop (8 + 2 * j + eAt l 0)) wr ∧ OwnRL wr (p + 1) (.slice none 0 0) (cellsR l j 0) ∧ OwnI wr (p + 1) u9 (sizesR l j)) := ⟨HR.out.1, OwnRL.nil _ _, HR.out.2.1⟩
          have HUp := Lib.hid HR.out.2.2
          clear HR
          go_wp2_with fail
          go_loopw [12] (fun i wr => ∃ (t : Nat) (v : Value), t ≤ j ∧ i = .int .i64 (t : Int) ∧ Hid (PsI w B2 r p no kd v (l.drop (8 + 2 * j + eAt l t)) wr ∧ OwnRL wr (p + 1) v (cellsR l j t) ∧ OwnI wr (p + 1) u9 (sizesR l j))) (fun i _ => j - (intOf i).toNat)
          case atStart => exact ⟨0, _, Nat.zero_le _, rfl, HI2⟩
          case round =>
            obtain ⟨t, v, ht, rfl, HV⟩ := hrel
            by_cases htj : t < j
            · have hIn := HV.out.2.2
              obtain ⟨gs, cs, hu9, hgs⟩ : ∃ gs cs, u9 = .slice (some ⟨gs, 0, none⟩) j cs ∧ ∀ (i : Nat) (hi : i < (sizesR l j).length), wr.cell? ⟨gs, i, none⟩ = some (.int .i64 ((sizesR l j)[i] : Int)) := by
                rcases hIn.form with ⟨_, h⟩ | ⟨g, c', h, _, _, h2⟩
                · have := sizesR_len l j; rw [h] at this; simp at this; omega
                · exact ⟨g, c', by rw [h, sizesR_len], h2⟩
              subst hu9
              have hcs := hgs t (by rw [sizesR_len]; exact htj)
              have hst : (sizesR l j)[t]'(by rw [sizesR_len]; exact htj) = eAt l (t + 1) - eAt l t := by unfold sizesR; simp
              rw [hst] at hcs
              obtain ⟨m, hm2⟩ : ∃ m, eAt l (t + 1) - eAt l t = m := ⟨_, rfl⟩
              rw [hm2] at hcs
              have hpc := HV.out.1.pg.cells.2.2.1
              have hup := HUp.out t htj
              have hee : eAt l (t + 1) ≤ 244 := by omega
              have hS0 : wr.drew.cell? ⟨p, 2, none⟩ = some v ∧ wr.drew.cell? ⟨gs, t, none⟩ = some (.int .i64 (m : Int)) := ⟨hpc, hcs⟩
              have HS0 := Lib.hid hS0
              have q1 : (t : Int) < (j : Int) := by omega
              have hrl : m ≤ (l.drop (8 + 2 * j + eAt l t)).length := by rw [List.length_drop, HL.out]; omega
              have hrb := fun (w' : World) (h : PsI w B2 r p no kd v (l.drop (8 + 2 * j + eAt l t)) w') => refBytes_calls h.2.2.1 m hrl
              have HRb := Lib.hid hrb
              have Hm244 : Hid (m ≤ 244) := by show _ ≤ _; omega
              have HM2 : Hid (eAt l t + m = eAt l (t + 1)) := by show _ = _; omega
              have HCr : Hid ((l.drop (8 + 2 * j + eAt l t)).take m = cellR l j t) := by show _ = _; unfold cellR; rw [hm2]
              have hml : ((l.drop (8 + 2 * j + eAt l t)).take m).length = m := by rw [List.length_take]; omega
              have HMl := Lib.hid hml
              clear hrb hrl hml hst hgs hIn hm2 hup hee
              go_wp2_with fail
              refine wp_region_M (fun w' => w'.cell? ⟨p, 2, none⟩ = some v ∧ w'.cell? ⟨gs, t, none⟩ = some (.int .i64 (m : Int))) 13 (by as_aux_lemma => kernel_rfl) ?_
              refine mAnyTake (i := 0) (v := .pointer (some ⟨p, 2, none⟩)) (some 86) [0, 1, 11, 13] (by as_aux_lemma => kernel_rfl) rfl rfl (by decide) (by as_aux_lemma => kernel_rfl) rfl rfl (by as_aux_lemma => kernel_rfl) (by as_aux_lemma => kernel_rfl) (by as_aux_lemma => kernel_rfl) (fun _ _ _ h => h) (Or.inl ⟨by rfl, fun w => by go_simp⟩) hS0 ?_
              try simp only [Act.put, List.setIfInBounds_toArray, List.set_cons_zero, List.set_cons_succ]
              refine mTake (i := 1) (v := v) (some 87) [1, 11, 13] (by as_aux_lemma => kernel_rfl) rfl rfl (by decide) (by as_aux_lemma => kernel_rfl) rfl rfl (by as_aux_lemma => kernel_rfl) (by as_aux_lemma => kernel_rfl) (by as_aux_lemma => kernel_rfl) (fun _ _ _ h => h) (Or.inl ⟨by rfl, fun w h => by (obtain ⟨h1, h2⟩ := h; go_simp)⟩) hS0 ?_
              try simp only [Act.put, List.setIfInBounds_toArray, List.set_cons_zero, List.set_cons_succ]
              refine mAnyTake (i := 3) (v := .pointer (some ⟨r, 0, none⟩)) (some 89) [3, 8, 9, 10, 11, 13] (by as_aux_lemma => kernel_rfl) rfl rfl (by decide) (by as_aux_lemma => kernel_rfl) rfl rfl (by as_aux_lemma => kernel_rfl) (by as_aux_lemma => kernel_rfl) (by as_aux_lemma => kernel_rfl) (fun _ _ _ h => h) (Or.inl ⟨by rfl, fun w => by go_simp⟩) hS0 ?_
              try simp only [Act.put, List.setIfInBounds_toArray, List.set_cons_zero, List.set_cons_succ]
              refine mAnyTake (i := 4) (v := .slice (some ⟨gs, 0, none⟩) j cs) (some 90) [4, 6, 7, 8, 9, 10, 11, 13] (by as_aux_lemma => kernel_rfl) rfl rfl (by decide) (by as_aux_lemma => kernel_rfl) rfl rfl (by as_aux_lemma => kernel_rfl) (by as_aux_lemma => kernel_rfl) (by as_aux_lemma => kernel_rfl) (fun _ _ _ h => h) (Or.inl ⟨by rfl, fun w => by go_simp⟩) hS0 ?_
              try simp only [Act.put, List.setIfInBounds_toArray, List.set_cons_zero, List.set_cons_succ]
              refine mAnyTake (i := 5) (v := .int .i64 (t : Int)) (some 91) [5, 6, 7, 8, 9, 10, 11, 13] (by as_aux_lemma => kernel_rfl) rfl rfl (by decide) (by as_aux_lemma => kernel_rfl) rfl rfl (by as_aux_lemma => kernel_rfl) (by as_aux_lemma => kernel_rfl) (by as_aux_lemma => kernel_rfl) (fun _ _ _ h => h) (Or.inl ⟨by rfl, fun w => by go_simp⟩) hS0 ?_
              try simp only [Act.put, List.setIfInBounds_toArray, List.set_cons_zero, List.set_cons_succ]
              refine mAnyTake (i := 6) (v := .pointer (some ⟨gs, t, none⟩)) (some 92) [6, 7, 8, 9, 10, 11, 13] (by as_aux_lemma => kernel_rfl) rfl rfl (by decide) (by as_aux_lemma => kernel_rfl) rfl rfl (by as_aux_lemma => kernel_rfl) (by as_aux_lemma => kernel_rfl) (by as_aux_lemma => kernel_rfl) (fun _ _ _ h => h) (Or.inl ⟨by rfl, fun w => by go_simp⟩) hS0 ?_
              try simp only [Act.put, List.setIfInBounds_toArray, List.set_cons_zero, List.set_cons_succ]
              refine mTake (i := 7) (v := .int .i64 (m : Int)) (some 93) [7, 8, 9, 10, 11, 13] (by as_aux_lemma => kernel_rfl) rfl rfl (by decide) (by as_aux_lemma => kernel_rfl) rfl rfl (by as_aux_lemma => kernel_rfl) (by as_aux_lemma => kernel_rfl) (by as_aux_lemma => kernel_rfl) (fun _ _ _ h => h) (Or.inl ⟨by rfl, fun w h => by (obtain ⟨h1, h2⟩ := h; go_simp)⟩) hS0 ?_
              try simp only [Act.put, List.setIfInBounds_toArray, List.set_cons_zero, List.set_cons_succ]
              have hpl : p < wr.heap.size := HV.out.1.pg.lt
              have hrp : r < p := HV.out.1.2.2.2.2.2.2
              have hgs : p + 1 ≤ gs ∧ gs < wr.heap.size := World.ownsRow.lt HV.out.2.2 gs rfl
              have HS1 : Hid (∀ w', Kept (· = r) wr w' → w'.cell? ⟨p, 2, none⟩ = some v ∧ w'.cell? ⟨gs, t, none⟩ = some (.int .i64 (m : Int))) := fun w' hk => ⟨hk.cell hpc (by show ¬ p = r; omega), hk.cell hcs (by show ¬ gs = r; omega)⟩
              have HSz := Lib.hid (And.intro hpl (And.intro hrp hgs))
              clear hpl hrp hgs hS0
              refine mTwo (i := 2) (j := 8) (by as_aux_lemma => kernel_rfl) rfl rfl (fun K hK => ?_) (fun K hK => ?_)
              · have HK := Lib.hid hK
                clear hK
                rw [if_pos (by rfl)]
                go_wp2_with fail
                have hbA : Below wr.heap.size wr (wr.alloc (Obj.cells #[] 5)).drew := ((Below.refl _ _).alloc (Nat.le_refl _) _).drew
                have hOA : OwnB (wr.alloc (Obj.cells #[] 5)).drew wr.heap.size (.slice (some ⟨wr.heap.size, 0, none⟩) 0 0) [] := OwnB.lit wr wr.heap.size (Nat.le_refl _) [] [] rfl 0 rfl (by unfold maxLen; decide)
                obtain ⟨g0, hg0⟩ : ∃ g0, wr.heap.size = g0 := ⟨_, rfl⟩
                obtain ⟨wA, hwA⟩ : ∃ wA, (wr.alloc (Obj.cells #[] 5)).drew = wA := ⟨_, rfl⟩
                rw [hwA] at hbA hOA ⊢
                have hgA : wr.heap.size ≤ g0 := Nat.le_of_eq hg0
                have HOA : Hid (OwnB wA g0 (.slice (some ⟨g0, 0, none⟩) 0 0) []) := by rw [← hg0]; exact hOA
                rw [hg0]
                have HKA : Hid (Kept (· = r) wr wA) := Kept.of_below hbA
                have HRA := Lib.hid (HRb.out wA (HV.out.1.below hbA))
                have HgA := Lib.hid hgA
                clear hOA hbA hg0 hwA hgA
                refine HK.out _ _ (.inr (HS1.out _ HKA.out)) ?_
                clear HK
                try simp only [Act.put, List.setIfInBounds_toArray, List.set_cons_zero, List.set_cons_succ]
                refine mOne (i := 8) (by as_aux_lemma => kernel_rfl) rfl (fun K hK => ?_)
                have HK := Lib.hid hK
                clear hK
                rw [if_pos (by rfl)]
                go_wp2_with (go_at_call 65; (with_reducible refine HRA.out.mono ?_); rintro e w5 ⟨A5, c5, rfl, hb5, hr5, hk5, hc5, ad5, rfl⟩; refine park ?_; intro q hq)
                have HO5 : Hid (OwnB w5 g0 (.slice (some ⟨g0, 0, none⟩) 0 0) []) := HOA.out.kept hk5 (fun k hk e => by have := (HOA.out.lt k hk).1; have := HgA.out; have := HSz.out; omega)
                have HK5 : Hid (Kept (· = r) wr w5) := HKA.out.trans hk5
                have HR5 := Lib.hid hr5
                have HBy5 := Lib.hid hb5
                clear hb5 hr5 hk5 hc5 HOA HKA HRA
                refine hq.out ?_
                clear hq
                refine HK.out _ _ (.inr (HS1.out _ HK5.out)) ?_
                clear HK
                try simp only [Act.put, List.setIfInBounds_toArray, List.set_cons_zero, List.set_cons_succ]
                have hg5 : g0 < w5.heap.size := (HO5.out.lt g0 rfl).2
                refine mOne (i := 9) (by as_aux_lemma => kernel_rfl) rfl (fun K hK => ?_)
                have HK := Lib.hid hK
                clear hK
                refine step_append_bytes (by rfl) _ _ (by rfl) g0 _ [] (by rfl) HO5.out ad5 m c5 (cellR l j t) (by rfl) (by rw [← HCr.out]; exact HMl.out.symm) (by rw [← HCr.out]; exact HBy5.out) (by rw [← HCr.out, HMl.out]; have := Hm244.out; simp; omega) (by omega) ?_
                intro v6 w6 H6
                obtain ⟨A6, c6, rfl, _⟩ := H6.out.1.sl
                have hml : ([] ++ cellR l j t).length = m := by rw [List.nil_append, ← HCr.out]; exact HMl.out
                rw [hml] at H6 ⊢
                have HO6 : Hid (OwnB w6 g0 (.slice A6 m c6) (cellR l j t)) := H6.out.1
                have hb56 : Below wr.heap.size w5 w6 := below_grown H6.out.2 HK5.out.size (fun k hk => by cases hk; exact HgA.out)
                have HK6 : Hid (Kept (· = r) wr w6) := HK5.out.andBelow hb56
                have HR6 := Lib.hid (HR5.out.kept (Kept.of_grown (S := fun k => k = g0) H6.out.2 (fun k hk => by cases hk; rfl)) (fun k _ hk => by have := HgA.out; have := HSz.out; omega))
                clear hml hb56 H6 HO5 HK5 HR5 HBy5 hg5
                refine HK.out _ _ (.inr (HS1.out _ HK6.out)) ?_
                clear HK
                try simp only [Act.put, List.setIfInBounds_toArray, List.set_cons_zero, List.set_cons_succ]
                refine mOne (i := 10) (by as_aux_lemma => kernel_rfl) rfl (fun K hK => ?_)
                have HK := Lib.hid hK
                clear hK
                rw [if_pos (by rfl)]
                go_wp2_with fail
                have hb67 : Below w6.heap.size w6 (w6.alloc (Obj.cells #[.slice A6 m c6] 23)) := (Below.refl _ _).alloc (Nat.le_refl _) _
                have HK7 : Hid (Kept (· = r) wr (w6.alloc (Obj.cells #[.slice A6 m c6] 23))) := HK6.out.trans (Kept.of_below hb67)
                have HR7 := Lib.hid (HR6.out.below hb67)
                have HO7 := Lib.hid ((HO6.out.below hb67).base (base' := p + 1) (by have := HgA.out; have := HSz.out; omega))
                refine HK.out _ _ (.inr (HS1.out _ HK7.out)) ?_
                clear HK hb67
                try simp only [Act.put, List.setIfInBounds_toArray, List.set_cons_zero, List.set_cons_succ]
                refine mOne (i := 11) (by as_aux_lemma => kernel_rfl) rfl (fun K hK => ?_)
                have HK := Lib.hid hK
                clear hK
                have HV7 : Hid (OwnRL (w6.alloc (Obj.cells #[.slice A6 m c6] 23)) (p + 1) v (cellsR l j t)) := HV.out.2.1.kept HK7.out (fun k hk => by have := HSz.out; have hk' : k = r := hk; omega)
                refine step_append_row (by rfl) _ _ (by rfl) (p + 1) _ (cellsR l j t) (by rfl) HV7.out ⟨w6.heap.size, 0, none⟩ 1 A6 m c6 (cellR l j t) (by rfl) ?_ HO7.out (by rw [cellsR_len]; omega) (by have := HK7.out.size; have := HSz.out; omega) ?_
                · rw [Addr.add_lit, cell_of_row _ _ _ _ _ _ (heap_alloc_new w6 _)]; rfl
                intro v8 w8 H8
                obtain ⟨A8, c8, hv8, _⟩ := H8.out.1.slice
                have hl8 : (cellsR l j t ++ [cellR l j t]).length = t + 1 := by rw [List.length_append, cellsR_len]; rfl
                rw [hl8] at hv8
                subst hv8
                clear hl8
                have hkg : Kept (fun k => p < k) (w6.alloc (Obj.cells #[.slice A6 m c6] 23)) w8 := Kept.of_grown H8.out.2 (fun k hk => (HV7.out.lt k hk).1)
                have HP7 : Hid (PsI w B2 r p no kd v (l.drop (8 + 2 * j + eAt l (t + 1))) (w6.alloc (Obj.cells #[.slice A6 m c6] 23))) := HV.out.1.read (by have := HR7.out; rw [List.drop_drop, show 8 + 2 * j + eAt l t + m = 8 + 2 * j + eAt l (t + 1) by have := HM2.out; omega] at this; exact this) HK7.out
                have HP8 := Lib.hid (HP7.out.kept hkg (fun k hk => hk))
                have HI8 : Hid (OwnI w8 (p + 1) (.slice (some ⟨gs, 0, none⟩) j cs) (sizesR l j)) := by
                  have h7 : OwnI (w6.alloc (Obj.cells #[.slice A6 m c6] 23)) (p + 1) (.slice (some ⟨gs, 0, none⟩) j cs) (sizesR l j) := HV.out.2.2.kept HK7.out (fun k hk e => by cases hk; have := HSz.out; have e' : gs = r := e; omega)
                  obtain ⟨vs, h9, _⟩ := HV7.out
                  exact World.ownsRow.kept h7 H8.out.2 (ownsRow_apart h7 h9 (by decide))
                have HS8 : Hid (w8.cell? ⟨p, 2, none⟩ = some v ∧ w8.cell? ⟨gs, t, none⟩ = some (.int .i64 (m : Int))) := by
                  refine ⟨HP8.out.pg.cells.2.2.1, ?_⟩
                  rcases HI8.out.form with ⟨h, _⟩ | ⟨g, c', h, _, _, h2⟩
                  · cases h
                  · injection h with h _ _
                    injection h with h
                    injection h with h
                    subst h
                    have h3 := h2 t (by rw [sizesR_len]; exact htj)
                    have h4 : (sizesR l j)[t]'(by rw [sizesR_len]; exact htj) = m := by unfold sizesR; simp; have := HM2.out; omega
                    rw [h4] at h3; exact h3
                refine HK.out _ _ (.inr HS8.out) ?_
                clear HK
                try simp only [Act.put, List.setIfInBounds_toArray, List.set_cons_zero, List.set_cons_succ]
                refine mOne (i := 12) (by as_aux_lemma => kernel_rfl) rfl (fun K hK => ?_)
                have HK := Lib.hid hK
                clear hK
                rw [if_pos (by rfl)]
                go_wp2_with fail
                refine HK.out _ _ (.inr HS8.out) ?_
                clear HK
                try simp only [Act.put, List.setIfInBounds_toArray, List.set_cons_zero, List.set_cons_succ]
                refine mOne (i := 13) (by as_aux_lemma => kernel_rfl) rfl (fun K hK => ?_)
                have HK := Lib.hid hK
                clear hK
                rw [if_pos (by rfl)]
                obtain ⟨y0, y1, y2, y3, y4, y5⟩ := HP8.out.pg.cells
                go_wp2_with fail
                refine HK.out _ _ (by simp) ?_
                clear HK
                try simp only [Act.put, List.setIfInBounds_toArray, List.set_cons_zero, List.set_cons_succ]
                refine mDone (by as_aux_lemma => kernel_rfl) ?_ _
                have HF : Hid (PsI w B2 r p no kd (.slice A8 (t + 1) c8) (l.drop (8 + 2 * j + eAt l (t + 1))) (w8.setCell ⟨p, 2, none⟩ (.slice A8 (t + 1) c8)) ∧ OwnRL (w8.setCell ⟨p, 2, none⟩ (.slice A8 (t + 1) c8)) (p + 1) (.slice A8 (t + 1) c8) (cellsR l j (t + 1)) ∧ OwnI (w8.setCell ⟨p, 2, none⟩ (.slice A8 (t + 1) c8)) (p + 1) (.slice (some ⟨gs, 0, none⟩) j cs) (sizesR l j)) :=
                  ⟨HP8.out.page (HP8.out.pg.set2 _) (Kept.set1 w8 p 2 _), by rw [cellsR_succ]; exact H8.out.1.kept (Kept.set1 w8 p 2 _) (fun k hk => by omega), HI8.out.kept (Kept.set1 w8 p 2 _) (fun k hk e => by have := (World.ownsRow.lt HI8.out k hk).1; omega)⟩
                clear hkg HP7 HP8 HI8 HS8 y0 y1 y2 y3 y4 y5 H8 HV7 HO7 HR7 HK7 HO6 HK6 HR6 hcs hpc q1
                go_wp2_with fail
                go_roundw
                case rel => exact ⟨t + 1, _, by omega, by go_num, HF⟩
                case measure => simp [intOf]; omega
              · have HK := Lib.hid hK
                clear hK
                rw [if_pos (by rfl)]
                have hbd : Below wr.heap.size wr wr.drew := (Below.refl _ _).drew
                have HRA := Lib.hid (HRb.out wr.drew (HV.out.1.below hbd))
                go_wp2_with (go_at_call 65; (with_reducible refine HRA.out.mono ?_); rintro e w4 ⟨A5, c5, rfl, hb4, hr4, hk4, hc4, ad5, rfl⟩; refine park ?_; intro q hq)
                have HK4 : Hid (Kept (· = r) wr w4) := (Kept.of_below hbd).trans hk4
                have HR4 := Lib.hid hr4
                have HBy4 := Lib.hid hb4
                clear hb4 hr4 hk4 hc4 hbd HRA
                refine hq.out ?_
                clear hq
                refine HK.out _ _ (.inr (HS1.out _ HK4.out)) ?_
                clear HK
                try simp only [Act.put, List.setIfInBounds_toArray, List.set_cons_zero, List.set_cons_succ]
                refine mOne (i := 2) (by as_aux_lemma => kernel_rfl) rfl (fun K hK => ?_)
                have HK := Lib.hid hK
                clear hK
                rw [if_pos (by rfl)]
                go_wp2_with fail
                have hbA : Below w4.heap.size w4 (w4.alloc (Obj.cells #[] 5)) := (Below.refl _ _).alloc (Nat.le_refl _) _
                have hOA : OwnB (w4.alloc (Obj.cells #[] 5)) w4.heap.size (.slice (some ⟨w4.heap.size, 0, none⟩) 0 0) [] := OwnB.lit w4 w4.heap.size (Nat.le_refl _) [] [] rfl 0 rfl (by unfold maxLen; decide)
                have hgA : wr.heap.size ≤ w4.heap.size := HK4.out.size
                have HK5 : Hid (Kept (· = r) wr (w4.alloc (Obj.cells #[] 5))) := HK4.out.trans (Kept.of_below hbA)
                have HR5 := Lib.hid (HR4.out.below hbA)
                have HBy5 := Lib.hid (HBy4.out.below hbA)
                obtain ⟨g0, hg0⟩ : ∃ g0, w4.heap.size = g0 := ⟨_, rfl⟩
                obtain ⟨w5, hw5⟩ : ∃ w5, w4.alloc (Obj.cells #[] 5) = w5 := ⟨_, rfl⟩
                rw [hw5] at hOA HK5 HR5 HBy5 ⊢
                rw [hg0] at hOA hgA ⊢
                have HO5 := Lib.hid hOA
                have HgA := Lib.hid hgA
                clear hbA hOA hgA hg0 hw5 HR4 HBy4 HK4
                refine HK.out _ _ (.inr (HS1.out _ HK5.out)) ?_
                clear HK
                try simp only [Act.put, List.setIfInBounds_toArray, List.set_cons_zero, List.set_cons_succ]
                have hg5 : g0 < w5.heap.size := (HO5.out.lt g0 rfl).2
                refine mOne (i := 9) (by as_aux_lemma => kernel_rfl) rfl (fun K hK => ?_)
                have HK := Lib.hid hK
                clear hK
                refine step_append_bytes (by rfl) _ _ (by rfl) g0 _ [] (by rfl) HO5.out ad5 m c5 (cellR l j t) (by rfl) (by rw [← HCr.out]; exact HMl.out.symm) (by rw [← HCr.out]; exact HBy5.out) (by rw [← HCr.out, HMl.out]; have := Hm244.out; simp; omega) (by omega) ?_
                intro v6 w6 H6
                obtain ⟨A6, c6, rfl, _⟩ := H6.out.1.sl
                have hml : ([] ++ cellR l j t).length = m := by rw [List.nil_append, ← HCr.out]; exact HMl.out
                rw [hml] at H6 ⊢
                have HO6 : Hid (OwnB w6 g0 (.slice A6 m c6) (cellR l j t)) := H6.out.1
                have hb56 : Below wr.heap.size w5 w6 := below_grown H6.out.2 HK5.out.size (fun k hk => by cases hk; exact HgA.out)
                have HK6 : Hid (Kept (· = r) wr w6) := HK5.out.andBelow hb56
                have HR6 := Lib.hid (HR5.out.kept (Kept.of_grown (S := fun k => k = g0) H6.out.2 (fun k hk => by cases hk; rfl)) (fun k _ hk => by have := HgA.out; have := HSz.out; omega))
                clear hml hb56 H6 HO5 HK5 HR5 HBy5 hg5
                refine HK.out _ _ (.inr (HS1.out _ HK6.out)) ?_
                clear HK
                try simp only [Act.put, List.setIfInBounds_toArray, List.set_cons_zero, List.set_cons_succ]
                refine mOne (i := 10) (by as_aux_lemma => kernel_rfl) rfl (fun K hK => ?_)
                have HK := Lib.hid hK
                clear hK
                rw [if_pos (by rfl)]
                go_wp2_with fail
                have hb67 : Below w6.heap.size w6 (w6.alloc (Obj.cells #[.slice A6 m c6] 23)) := (Below.refl _ _).alloc (Nat.le_refl _) _
                have HK7 : Hid (Kept (· = r) wr (w6.alloc (Obj.cells #[.slice A6 m c6] 23))) := HK6.out.trans (Kept.of_below hb67)
                have HR7 := Lib.hid (HR6.out.below hb67)
                have HO7 := Lib.hid ((HO6.out.below hb67).base (base' := p + 1) (by have := HgA.out; have := HSz.out; omega))
                refine HK.out _ _ (.inr (HS1.out _ HK7.out)) ?_
                clear HK hb67
                try simp only [Act.put, List.setIfInBounds_toArray, List.set_cons_zero, List.set_cons_succ]
                refine mOne (i := 11) (by as_aux_lemma => kernel_rfl) rfl (fun K hK => ?_)
                have HK := Lib.hid hK
                clear hK
                have HV7 : Hid (OwnRL (w6.alloc (Obj.cells #[.slice A6 m c6] 23)) (p + 1) v (cellsR l j t)) := HV.out.2.1.kept HK7.out (fun k hk => by have := HSz.out; have hk' : k = r := hk; omega)
                refine step_append_row (by rfl) _ _ (by rfl) (p + 1) _ (cellsR l j t) (by rfl) HV7.out ⟨w6.heap.size, 0, none⟩ 1 A6 m c6 (cellR l j t) (by rfl) ?_ HO7.out (by rw [cellsR_len]; omega) (by have := HK7.out.size; have := HSz.out; omega) ?_
                · rw [Addr.add_lit, cell_of_row _ _ _ _ _ _ (heap_alloc_new w6 _)]; rfl
                intro v8 w8 H8
                obtain ⟨A8, c8, hv8, _⟩ := H8.out.1.slice
                have hl8 : (cellsR l j t ++ [cellR l j t]).length = t + 1 := by rw [List.length_append, cellsR_len]; rfl
                rw [hl8] at hv8
                subst hv8
                clear hl8
                have hkg : Kept (fun k => p < k) (w6.alloc (Obj.cells #[.slice A6 m c6] 23)) w8 := Kept.of_grown H8.out.2 (fun k hk => (HV7.out.lt k hk).1)
                have HP7 : Hid (PsI w B2 r p no kd v (l.drop (8 + 2 * j + eAt l (t + 1))) (w6.alloc (Obj.cells #[.slice A6 m c6] 23))) := HV.out.1.read (by have := HR7.out; rw [List.drop_drop, show 8 + 2 * j + eAt l t + m = 8 + 2 * j + eAt l (t + 1) by have := HM2.out; omega] at this; exact this) HK7.out
                have HP8 := Lib.hid (HP7.out.kept hkg (fun k hk => hk))
                have HI8 : Hid (OwnI w8 (p + 1) (.slice (some ⟨gs, 0, none⟩) j cs) (sizesR l j)) := by
                  have h7 : OwnI (w6.alloc (Obj.cells #[.slice A6 m c6] 23)) (p + 1) (.slice (some ⟨gs, 0, none⟩) j cs) (sizesR l j) := HV.out.2.2.kept HK7.out (fun k hk e => by cases hk; have := HSz.out; have e' : gs = r := e; omega)
                  obtain ⟨vs, h9, _⟩ := HV7.out
                  exact World.ownsRow.kept h7 H8.out.2 (ownsRow_apart h7 h9 (by decide))
                have HS8 : Hid (w8.cell? ⟨p, 2, none⟩ = some v ∧ w8.cell? ⟨gs, t, none⟩ = some (.int .i64 (m : Int))) := by
                  refine ⟨HP8.out.pg.cells.2.2.1, ?_⟩
                  rcases HI8.out.form with ⟨h, _⟩ | ⟨g, c', h, _, _, h2⟩
                  · cases h
                  · injection h with h _ _
                    injection h with h
                    injection h with h
                    subst h
                    have h3 := h2 t (by rw [sizesR_len]; exact htj)
                    have h4 : (sizesR l j)[t]'(by rw [sizesR_len]; exact htj) = m := by unfold sizesR; simp; have := HM2.out; omega
                    rw [h4] at h3; exact h3
                refine HK.out _ _ (.inr HS8.out) ?_
                clear HK
                try simp only [Act.put, List.setIfInBounds_toArray, List.set_cons_zero, List.set_cons_succ]
                refine mOne (i := 12) (by as_aux_lemma => kernel_rfl) rfl (fun K hK => ?_)
                have HK := Lib.hid hK
                clear hK
                rw [if_pos (by rfl)]
                go_wp2_with fail
                refine HK.out _ _ (.inr HS8.out) ?_
                clear HK
                try simp only [Act.put, List.setIfInBounds_toArray, List.set_cons_zero, List.set_cons_succ]
                refine mOne (i := 13) (by as_aux_lemma => kernel_rfl) rfl (fun K hK => ?_)
                have HK := Lib.hid hK
                clear hK
                rw [if_pos (by rfl)]
                obtain ⟨y0, y1, y2, y3, y4, y5⟩ := HP8.out.pg.cells
                go_wp2_with fail
                refine HK.out _ _ (by simp) ?_
                clear HK
                try simp only [Act.put, List.setIfInBounds_toArray, List.set_cons_zero, List.set_cons_succ]
                refine mDone (by as_aux_lemma => kernel_rfl) ?_ _
                have HF : Hid (PsI w B2 r p no kd (.slice A8 (t + 1) c8) (l.drop (8 + 2 * j + eAt l (t + 1))) (w8.setCell ⟨p, 2, none⟩ (.slice A8 (t + 1) c8)) ∧ OwnRL (w8.setCell ⟨p, 2, none⟩ (.slice A8 (t + 1) c8)) (p + 1) (.slice A8 (t + 1) c8) (cellsR l j (t + 1)) ∧ OwnI (w8.setCell ⟨p, 2, none⟩ (.slice A8 (t + 1) c8)) (p + 1) (.slice (some ⟨gs, 0, none⟩) j cs) (sizesR l j)) :=
                  ⟨HP8.out.page (HP8.out.pg.set2 _) (Kept.set1 w8 p 2 _), by rw [cellsR_succ]; exact H8.out.1.kept (Kept.set1 w8 p 2 _) (fun k hk => by omega), HI8.out.kept (Kept.set1 w8 p 2 _) (fun k hk e => by have := (World.ownsRow.lt HI8.out k hk).1; omega)⟩
                clear hkg HP7 HP8 HI8 HS8 y0 y1 y2 y3 y4 y5 H8 HV7 HO7 HR7 HK7 HO6 HK6 HR6 hcs hpc q1
                go_wp2_with fail
                go_roundw
                case rel => exact ⟨t + 1, _, by omega, by go_num, HF⟩
                case measure => simp [intOf]; omega
            · obtain rfl : t = j := by omega
              obtain ⟨A8, c8, hv8, hR8, hc8, _⟩ := HV.out.2.1.slice
              rw [cellsR_len] at hv8
              subst hv8
              have hlast : eAt l t = E := HE.out.symm
              have hsz := cellsR_size l t t E HL.out (by omega) HUp.out
              rw [hlast] at hsz
              have hfit : fitC (cellsR l t t) := by unfold fitC; rw [cellsR_len, hsz]; exact h244
              have hpl := pageB_length no kd _ hfit
              obtain ⟨X, hX⟩ : ∃ X, (pageB no kd (cellsR l t t)).take 252 = X := ⟨_, rfl⟩
              have hXl : X.length = 252 := by rw [← hX, List.length_take, hpl]; rfl
              have hiff := parse_iff l HL.out H0.out H4.out
              rw [show cntB l = t from HN.out, show sizB l = E from HS.out, HNo.out, HKd.out, hX] at hiff
              have HIff := Lib.hid (hiff h244 HUp.out hlast)
              have HBy : Hid (∀ w', Hid (PsI w B2 r p no kd (.slice A8 t c8) (l.drop (8 + 2 * t + eAt l t)) w' ∧ OwnRL w' (p + 1) (.slice A8 t c8) (cellsR l t t)) → Calls Tryd.prog 37 #[.agg #[.int .i64 (no : Int), .int .u8 (kd.toNat : Int), .slice A8 t c8]] w' fun e w'' => ∃ A5 c5, e = .returned (.slice A5 256 c5) ∧ 252 ≤ c5 ∧ Hid (Below w'.heap.size w' w'') ∧ Hid (Sem.run Tryd.prog (convert 23 9 (.slice A5 252 c5)) w'' = .ok (.string (bstr X)) w'')) := fun w' h => by
                refine (refPBytes_calls no kd A8 t c8 (cellsR l t t) w' hnum (cellsR_len _ _ _).symm h.out.2.rows hfit).mono ?_
                rintro e w'' ⟨A5, c5, rfl, hO, hb⟩
                have hcp := hO.caps
                rw [hpl] at hcp ⊢
                refine ⟨A5, c5, rfl, by have := hcp.2.1; omega, hb, ?_⟩
                have := run_str (w := w'') (A := A5) (m := 252) (c := c5) (l := X) hXl.symm (by rw [← hX]; exact hO.bytes.take 252)
                exact this
              have hlb : (l.take 252).length = 252 := by rw [List.length_take, HL.out]; rfl
              obtain ⟨sb, hsb⟩ : ∃ sb, bstr (l.take 252) = sb := ⟨_, rfl⟩
              have HStr : Hid (∀ w', Below w.heap.size w w' → Sem.run Tryd.prog (convert 23 9 (.slice (some ⟨b, o, none⟩) 252 c)) w' = .ok (.string sb) w') := fun w' h => by
                rw [← hsb]; exact run_str hlb.symm ((HB.out.below h).take 252)
              have HK : Hid (∀ w', Hid (PsI w B2 r p no kd (.slice A8 t c8) (l.drop (8 + 2 * t + eAt l t)) w' ∧ OwnRL w' (p + 1) (.slice A8 t c8) (cellsR l t t)) → w'.cell? ⟨p, 0, none⟩ = some (.int .i64 (no : Int)) ∧ w'.cell? ⟨p, 1, none⟩ = some (.int .u8 (kd.toNat : Int)) ∧ w'.cell? ⟨p, 2, none⟩ = some (.slice A8 t c8) ∧ Sem.run Tryd.prog (convert 23 9 (.slice (some ⟨b, o, none⟩) 252 c)) w' = .ok (.string sb) w' ∧ Hid (PsI w B2 r p no kd (.slice A8 t c8) (l.drop (8 + 2 * t + eAt l t)) w' ∧ OwnRL w' (p + 1) (.slice A8 t c8) (cellsR l t t))) :=
                fun w' h => ⟨h.out.1.pg.cells.1, h.out.1.pg.cells.2.1, h.out.1.pg.cells.2.2.1, HStr.out w' h.out.1.1, h⟩
              have HV0 : Hid (PsI w B2 r p no kd (.slice A8 t c8) (l.drop (8 + 2 * t + eAt l t)) wr.drew ∧ OwnRL wr.drew (p + 1) (.slice A8 t c8) (cellsR l t t)) := ⟨HV.out.1.below (Below.refl _ _).drew, HV.out.2.1.below (Below.refl _ _).drew⟩
              have HNx : Hid (∀ w' w'', Hid (PsI w B2 r p no kd (.slice A8 t c8) (l.drop (8 + 2 * t + eAt l t)) w' ∧ OwnRL w' (p + 1) (.slice A8 t c8) (cellsR l t t)) → Hid (Below w'.heap.size w' w'') → Hid (PsI w B2 r p no kd (.slice A8 t c8) (l.drop (8 + 2 * t + eAt l t)) w'' ∧ OwnRL w'' (p + 1) (.slice A8 t c8) (cellsR l t t))) := fun w' w'' h hb => ⟨h.out.1.below hb.out, h.out.2.below hb.out⟩
              have HSb := Lib.hid hsb
              have HX2 := Lib.hid hX
              have p1 : 252 ≤ c := by omega
              have p2 : (252 : Int) ≤ (c : Int) := by omega
              clear hR8 hc8 hlast hsz hfit hpl hX hXl hiff hlb hsb HV hnum hj hES hlt ht htj
              have hdec : soundB l = true ∨ soundB l = false := by cases soundB l <;> simp
              rcases hdec with hsd | hsd
              · have hXX : bstr X = sb := by rw [← HSb.out, HIff.out.2 hsd]
                rw [hXX] at HBy
                have HSd := Lib.hid hsd
                clear hXX hsd
                go_wp2_with fail
                obtain ⟨l0, l1, l2, l3, _⟩ := HK.out _ HV0
                go_region_law (first | (go_simp; go_at_call 37; (with_reducible refine (HBy.out _ HV0).mono ?_); rintro e w5 ⟨A5, c5, rfl, hc5, hb5, hs5⟩; have hc5' : (252 : Int) ≤ (c5 : Int) := (by omega); have hV5 := HNx.out _ _ HV0 hb5; have hS5 := (HK.out _ hV5).2.2.2.1; have hs5' := hs5.out))
                all_goals
                  obtain ⟨y0, y1, y2, _⟩ := HK.out _ hV5
                  obtain ⟨z0, z1, z2, z3, z4, z5⟩ := hV5.out.1.res
                  have hlt : p ≠ B2 := by have := hV5.out.1.2.2.2.2.2.1; have := hV5.out.1.2.2.2.2.2.2; omega
                  clear l0 l1 l2 l3 hS5 hs5' hs5 hb5
                  go_wp2_with fail
                  obtain ⟨g1, g2, g3⟩ := hV5.out.1.put3 (.int .i64 (no : Int)) (.int .u8 (kd.toNat : Int)) (.slice A8 t c8)
                  refine bodyPost_ret_by (results_cell2 rfl _ rfl rfl g1) rfl ?_
                  have hO := hV5.out.2.kept g3 (fun k hk => by have := hV5.out.1.2.2.2.2.2.1; have := hV5.out.1.2.2.2.2.2.2; have hk' : k = B2 := hk; omega)
                  refine ⟨g2, .inr ⟨HSd.out, A8, c8, ?_, ?_⟩⟩
                  · rw [HNo.out, HKd.out, show cntB l = t from HN.out]; rfl
                  · rw [show cntB l = t from HN.out]; exact hO.rows
              · obtain ⟨sx, hsx⟩ : ∃ sx, bstr X = sx := ⟨_, rfl⟩
                have hne : (sx.toList == sb.toList) = false := by
                  rw [beq_eq_false_iff_ne, ← hsx, ← HSb.out, bstr_toList, bstr_toList]
                  intro h
                  have := HIff.out.1 h
                  rw [hsd] at this
                  cases this
                rw [hsx] at HBy
                have HSd := Lib.hid hsd
                clear hsx hsd
                go_wp2_with fail
                obtain ⟨l0, l1, l2, l3, _⟩ := HK.out _ HV0
                go_region_law (first | (go_simp; go_at_call 37; (with_reducible refine (HBy.out _ HV0).mono ?_); rintro e w5 ⟨A5, c5, rfl, hc5, hb5, hs5⟩; have hc5' : (252 : Int) ≤ (c5 : Int) := (by omega); have hV5 := HNx.out _ _ HV0 hb5; have hS5 := (HK.out _ hV5).2.2.2.1; have hs5' := hs5.out))
                all_goals
                  obtain ⟨z0, z1, z2, z3, z4, z5⟩ := hV5.out.1.res
                  clear l0 l1 l2 l3 hS5 hs5' hs5 hb5
                  go_wp2_with fail
                  obtain ⟨g1, g2, g3⟩ := hV5.out.1.put3 (.int .i64 0) (.int .u8 0) (.slice none 0 0)
                  refine bodyPost_ret_by (results_cell2 rfl _ rfl rfl g1) rfl ?_
                  exact retPs_no g2 HSd.out
        · have d2 : ((E : Int) != (S : Int)) = true := by simp; omega
          have HNo2 : Hid (soundB l = false) := sound_not l j S HN.out HS.out (fun h => hES2 (by rw [HE.out]; exact h.2.2))
          obtain ⟨z0, z1, z2, z3, z4, z5⟩ := HR.out.1.res
          clear hES2
          go_wp2_with fail
          obtain ⟨g1, g2, _⟩ := HR.out.1.put3 (.int .i64 0) (.int .u8 0) (.slice none 0 0)
          refine bodyPost_ret_by (results_cell2 rfl _ rfl rfl g1) rfl ?_
          exact retPs_no g2 HNo2.out
  · have d1 : decide (2 * (N : Int) + (S : Int) > 244) = true := by simp; omega
    have HNo2 : Hid (soundB l = false) := sound_not l N S HN.out HS.out (fun h => h244 h.1)
    obtain ⟨z0, z1, z2, z3, z4, z5⟩ := HP9.out.1.res
    go_wp2_with fail
    obtain ⟨g1, g2, _⟩ := HP9.out.1.put3 (.int .i64 0) (.int .u8 0) (.slice none 0 0)
    refine bodyPost_ret_by (results_cell2 rfl _ rfl rfl g1) rfl ?_
    exact retPs_no g2 HNo2.out
end Go.Proofs.YtibhoekbjgoanaaDoor
