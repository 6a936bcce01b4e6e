/- The disk: what the walk of DiskSynced carries. -/
import Derived.Test.YtgodnmlggomaaaaDiskY
set_option linter.unusedSimpArgs false
set_option linter.unusedVariables false
namespace Go.Proofs.Ytgodnmlggomaaaa
open Go.RowKit
theorem wrap6 (p : Nat) (h : p < 6) : IntKind.i64.wrap (p : Int) = (p : Int) := by
  have : p = 0 ∨ p = 1 ∨ p = 2 ∨ p = 3 ∨ p = 4 ∨ p = 5 := by omega
  rcases this with rfl | rfl | rfl | rfl | rfl | rfl <;> decide
structure SyInv (d : DiskM) (n : Nat) : Prop where
  cut : d.cut = false
  size : d.size = 6
  steps : d.steps = n
  bud : (d.bud : Int) + d.wait.length ≤ 2 * d.steps
theorem SyInv.on {d : DiskM} {n : Nat} (h : SyInv d n) : d.isOff = false := by simp [DiskM.isOff, h.cut]
theorem SyInv.write {d : DiskM} {n : Nat} (h : SyInv d n) (i : Int) (l : List UInt8) : SyInv (d.write i l) (n + 1) := by
  have h1 := h.steps
  have h2 := h.bud
  refine ⟨h.cut, h.size, ?_, ?_⟩
  · simp only [DiskM.write, DiskM.step, DiskM.put]; omega
  · simp only [DiskM.write, DiskM.step, DiskM.put, List.length_append, List.length_singleton]; omega
theorem SyInv.sync {d : DiskM} {n : Nat} (h : SyInv d n) : SyInv d.sync (n + 1) := by
  have h1 := h.steps
  have h2 := h.bud
  refine ⟨h.cut, h.size, ?_, ?_⟩
  · simp only [DiskM.sync, DiskM.step, DiskM.settled]; omega
  · simp only [DiskM.sync, DiskM.step, DiskM.settled, List.length_nil]; omega
/-- Six bytes in a block of their own, the first k of which are known. -/
def ArrB (w : World) (b : Nat) (g : Nat → UInt8) (k : Nat) : Prop := ∃ l : List UInt8, l.length = 6 ∧ w.heap[b]? = some (.cells (cells8 l).toArray 35 (0, 0)) ∧ ∀ j, j < k → at8 l j = g j
theorem ArrB.kept {S : Nat → Prop} {w w' : World} {b k : Nat} {g : Nat → UInt8} (h : ArrB w b g k) (hk : Kept S w w') (hs : ¬ S b) : ArrB w' b g k := by
  obtain ⟨l, hl, hb, hg⟩ := h
  exact ⟨l, hl, by rw [hk.block b (Array.getElem?_eq_some_iff.1 hb).1 hs]; exact hb, hg⟩
theorem ArrB.below {w w' : World} {b k : Nat} {g : Nat → UInt8} (h : ArrB w b g k) (hk : Below w.heap.size w w') : ArrB w' b g k := h.kept (S := fun _ => False) (Kept.of_below hk) (fun x => x)
theorem ArrB.lt {w : World} {b k : Nat} {g : Nat → UInt8} (h : ArrB w b g k) : b < w.heap.size := by obtain ⟨l, _, hb, _⟩ := h; exact (Array.getElem?_eq_some_iff.1 hb).1
theorem ArrB.cell {w : World} {b k : Nat} {g : Nat → UInt8} (h : ArrB w b g k) (j : Nat) (hj : j < 6) (hk : j < k) : w.cell? ⟨b, j, none⟩ = some (.int .u8 ((g j).toNat : Int)) := by
  obtain ⟨l, hl, hb, hg⟩ := h
  rw [cell_of_row _ _ _ _ _ _ hb, ← hg j hk]
  simpa using cells8_get l j (by omega)
theorem ArrB.any {w : World} {b k : Nat} {g : Nat → UInt8} (h : ArrB w b g k) (j : Nat) (hj : j < 6) : ∃ v, w.cell? ⟨b, j, none⟩ = some v := by
  obtain ⟨l, hl, hb, hg⟩ := h
  exact ⟨_, by rw [cell_of_row _ _ _ _ _ _ hb]; simpa using cells8_get l j (by omega)⟩
theorem ArrB.fr {w : World} {b k : Nat} {g : Nat → UInt8} (h : ArrB w b g k) (j : Nat) : w.frozen? ⟨b, j, none⟩ = false := by
  obtain ⟨l, hl, hb, hg⟩ := h
  exact frozen_of_row _ _ _ _ _ hb
theorem ArrB.put {w : World} {b k : Nat} {g : Nat → UInt8} (h : ArrB w b g k) (hk : k < 6) : ArrB (w.setCell ⟨b, k, none⟩ (.int .u8 ((g k).toNat : Int))) b g (k + 1) := by
  obtain ⟨l, hl, hb, hg⟩ := h
  refine ⟨l.set k (g k), by simpa using hl, ?_, ?_⟩
  · rw [blk_put hb, List.setIfInBounds_toArray, ← cells8_set]
  · intro j hj
    unfold at8
    rw [List.getD_eq_getElem?_getD, List.getElem?_set]
    by_cases e : k = j
    · subst e; rw [if_pos rfl, if_pos (by omega)]; rfl
    · rw [if_neg e, ← List.getD_eq_getElem?_getD]; exact hg j (by omega)
theorem ArrB.forget {w : World} {b k : Nat} {g : Nat → UInt8} (h : ArrB w b g k) (g' : Nat → UInt8) : ArrB w b g' 0 := by
  obtain ⟨l, hl, hb, hg⟩ := h
  exact ⟨l, hl, hb, fun j hj => absurd hj (by omega)⟩
theorem ArrB.new (w : World) (g : Nat → UInt8) (cs : Array Value) (h : cs = (cells8 (List.replicate 6 0)).toArray) : ArrB (w.alloc (.cells cs 35)) w.heap.size g 0 := by
  subst h
  exact ⟨List.replicate 6 0, rfl, heap_alloc_new w _, fun j hj => absurd hj (by omega)⟩
/-- Six bools: which sectors writes go over. -/
def over_ (W : List (Int × List UInt8)) (j : Nat) : Bool := W.any fun e => e.1 == (j : Int)
def ArrO (w : World) (b : Nat) (W : List (Int × List UInt8)) : Prop := ∃ l : List Bool, l.length = 6 ∧ w.heap[b]? = some (.cells (l.map Value.bool).toArray 39 (0, 0)) ∧ ∀ j, j < 6 → l[j]? = some (over_ W j)
theorem ArrO.kept {S : Nat → Prop} {w w' : World} {b : Nat} {W : List (Int × List UInt8)} (h : ArrO w b W) (hk : Kept S w w') (hs : ¬ S b) : ArrO w' b W := by
  obtain ⟨l, hl, hb, hg⟩ := h
  exact ⟨l, hl, by rw [hk.block b (Array.getElem?_eq_some_iff.1 hb).1 hs]; exact hb, hg⟩
theorem ArrO.below {w w' : World} {b : Nat} {W : List (Int × List UInt8)} (h : ArrO w b W) (hk : Below w.heap.size w w') : ArrO w' b W := h.kept (S := fun _ => False) (Kept.of_below hk) (fun x => x)
theorem ArrO.lt {w : World} {b : Nat} {W : List (Int × List UInt8)} (h : ArrO w b W) : b < w.heap.size := by obtain ⟨l, _, hb, _⟩ := h; exact (Array.getElem?_eq_some_iff.1 hb).1
theorem ArrO.cell {w : World} {b : Nat} {W : List (Int × List UInt8)} (h : ArrO w b W) (j : Nat) (hj : j < 6) : w.cell? ⟨b, j, none⟩ = some (.bool (over_ W j)) := by
  obtain ⟨l, hl, hb, hg⟩ := h
  rw [cell_of_row _ _ _ _ _ _ hb]
  simp [hg j hj]
theorem ArrO.fr {w : World} {b : Nat} {W : List (Int × List UInt8)} (h : ArrO w b W) (j : Nat) : w.frozen? ⟨b, j, none⟩ = false := by
  obtain ⟨l, hl, hb, hg⟩ := h
  exact frozen_of_row _ _ _ _ _ hb
theorem ArrO.put {w : World} {b : Nat} {W : List (Int × List UInt8)} (h : ArrO w b W) (s : Nat) (hs : s < 6) (x : List UInt8) : ArrO (w.setCell ⟨b, s, none⟩ (.bool true)) b (W ++ [((s : Int), x)]) := by
  obtain ⟨l, hl, hb, hg⟩ := h
  refine ⟨l.set s true, by simpa using hl, ?_, ?_⟩
  · rw [blk_put hb, List.setIfInBounds_toArray, List.map_set]
  · intro j hj
    have e : over_ (W ++ [((s : Int), x)]) j = (over_ W j || ((s : Int) == (j : Int))) := by simp [over_]
    rw [e, List.getElem?_set]
    by_cases c : s = j
    · subst c; rw [if_pos rfl, if_pos (by omega)]; simp
    · rw [if_neg c, hg j hj]
      have : ((s : Int) == (j : Int)) = false := by simp; omega
      rw [this, Bool.or_false]
theorem ArrO.new (w : World) : ArrO (w.alloc (.cells #[.bool false, .bool false, .bool false, .bool false, .bool false, .bool false] 39)) w.heap.size [] := by
  refine ⟨List.replicate 6 false, rfl, heap_alloc_new w _, ?_⟩
  intro j hj
  rw [List.getElem?_replicate, if_pos hj]; rfl
theorem over_not {W : List (Int × List UInt8)} {j : Nat} (h : over_ W j = false) : ∀ e ∈ W, e.1 ≠ (j : Int) := by
  intro e he c
  unfold over_ at h
  rw [List.any_eq_false] at h
  exact h e he (by simp [c])
def z6 : Array Value := #[.int .u8 0, .int .u8 0, .int .u8 0, .int .u8 0, .int .u8 0, .int .u8 0]
theorem info35 : (Try.prog.info? 35).map (fun i => (i.zero, i.size)) = some (some (.agg z6), 6) := by kernel_rfl
theorem wpList_alloc35 {ops : Array Oper} {rest : List Oper} {o : Oper} {a : Act} {Q : Exit → Act → World → Prop} {w : World} (hg : o.guard = none) (ho : o.op = .alloc 35) (h : wpList Try.prog ops Q rest (a.put o.dst (.pointer (some ⟨w.heap.size, 0, none⟩))) (w.alloc (.cells z6 35))) : wpList Try.prog ops Q (o :: rest) a w := by
  refine Great.wpList_runTo hg _ rfl _ _ ?_ h
  unfold execOp
  simp only [ho, Instr.alloc, Sem.run_bind, (zero_of_info info35).1 w, Result.andThen_ok, newVar, newRow, run_newObj_alloc, Sem.run_pure]
  rfl
/-- The state of DiskSynced's second part: the disk, what was, which sectors are gone over, what is kept. -/
structure SynB (w w0 : World) (a m b1 b3 : Nat) (wv kv : Value) (d d' : DiskM) (g1 : Nat → UInt8) (W : List (Int × List UInt8)) (n s : Nat) : Prop where
  dk : DiskAt w w0.heap.size a m wv d'
  be : Below w0.heap.size w0 w
  a1 : ArrB w b1 g1 6
  a2 : ∀ g, ArrB w (b1 + 1) g 0
  ov : ArrO w b3 W
  hd : d'.held = d.held
  kr : w.ownsRow (b3 + 1) 4 1 kv n (List.replicate n (.bool true))
  nf : ∀ k, (k = b1 ∨ k = b1 + 1 ∨ k = b3 ∨ kv.ownBlock = some k) → ¬ Foot a m wv k
  si : SyInv d' s
  lo : w0.heap.size ≤ b1 ∧ b1 + 1 < b3
section
variable {w w' w0 : World} {a m b1 b3 : Nat} {wv kv : Value} {d d' : DiskM} {g1 : Nat → UInt8} {W : List (Int × List UInt8)} {n s : Nat}
theorem row4_kept {S : Nat → Prop} {base n : Nat} {v : Value} {xs : List Value} (h : w.ownsRow base 4 1 v n xs) (hk : Kept S w w') (hs : ∀ k, v.ownBlock = some k → ¬ S k) : w'.ownsRow base 4 1 v n xs := by
  refine ⟨h.1, ?_⟩
  rcases h.2 with h2 | ⟨g, cap, cur, h1, h2, h3, r⟩
  · exact .inl h2
  · exact .inr ⟨g, cap, cur, h1, h2, by rw [hk.block g ((Array.getElem?_eq_some_iff.1 h3).1) (hs g (by rw [h1]; rfl))]; exact h3, r⟩
theorem SynB.kb (h : SynB w w0 a m b1 b3 wv kv d d' g1 W n s) : ∀ k, kv.ownBlock = some k → b3 + 1 ≤ k ∧ k < w.heap.size := World.ownsRow.lt h.kr
theorem SynB.kept {S : Nat → Prop} (h : SynB w w0 a m b1 b3 wv kv d d' g1 W n s) (hk : Kept S w w') (hs : ∀ k, w0.heap.size ≤ k → k < w.heap.size → ¬ S k) (hlo : ∀ k, k < w0.heap.size → ¬ S k) : SynB w' w0 a m b1 b3 wv kv d d' g1 W n s := by
  have hz := h.ov.lt
  have hl := h.lo
  exact ⟨h.dk.kept hk (fun k hf => hs k (h.dk.foot k hf).1 (h.dk.foot k hf).2), h.be.trans (hk.below h.be.size hlo), h.a1.kept hk (hs _ (by omega) h.a1.lt), fun g => (h.a2 g).kept hk (hs _ (by omega) (h.a2 g).lt), h.ov.kept hk (hs _ (by omega) hz), h.hd, row4_kept h.kr hk (fun k hk' => hs k (by have := (h.kb k hk').1; omega) (h.kb k hk').2), h.nf, h.si, h.lo⟩
theorem SynB.below (h : SynB w w0 a m b1 b3 wv kv d d' g1 W n s) (hb : Below w.heap.size w w') : SynB w' w0 a m b1 b3 wv kv d d' g1 W n s :=
  h.kept (S := fun _ => False) (Kept.of_below hb) (fun _ _ _ x => x) (fun _ _ x => x)
theorem SynB.set (h : SynB w w0 a m b1 b3 wv kv d d' g1 W n s) (p : Nat) (hp : p < 6) (x : List UInt8) : SynB (w.setCell ⟨b3, p, none⟩ (.bool true)) w0 a m b1 b3 wv kv d d' g1 (W ++ [((p : Int), x)]) n s := by
  have hk := Kept.set1 w b3 p (.bool true)
  have hl := h.lo
  exact ⟨h.dk.kept hk (fun k hf e => h.nf k (.inr (.inr (.inl e))) hf), h.be.trans (hk.below h.be.size (fun k hk e => by omega)), h.a1.kept hk (by omega), fun g => (h.a2 g).kept hk (by omega), h.ov.put p hp x, h.hd, row4_kept h.kr hk (fun k hk' e => by have := (h.kb k hk').1; omega), h.nf, h.si, h.lo⟩
theorem SynB.app {kv' : Value} (h : SynB w w0 a m b1 b3 wv kv d d' g1 W n s) (hr : w'.ownsRow (b3 + 1) 4 1 kv' (n + 1) (List.replicate n (.bool true) ++ [.bool true])) (hg : w.grownBy w' kv.ownBlock)
    (hv : kv'.ownBlock = kv.ownBlock ∨ kv'.ownBlock = some w.heap.size) : SynB w' w0 a m b1 b3 wv kv' d d' g1 W (n + 1) s := by
  have hk : Kept (fun k => kv.ownBlock = some k) w w' := Kept.of_grown hg (fun k hk => hk)
  have hl := h.lo
  have hkb := h.kb
  refine ⟨h.dk.kept hk (fun k hf e => h.nf k (.inr (.inr (.inr e))) hf), h.be.trans (hk.below h.be.size (fun k hk' e => by have := hkb k e; omega)), h.a1.kept hk (fun e => by have := hkb _ e; omega), fun g => (h.a2 g).kept hk (fun e => by have := hkb _ e; omega), h.ov.kept hk (fun e => by have := hkb _ e; omega), h.hd, ?_, ?_, h.si, h.lo⟩
  · rw [List.replicate_succ']; exact hr
  · intro k hk' hf
    rcases hk' with e | e | e | e
    · exact h.nf k (.inl e) hf
    · exact h.nf k (.inr (.inl e)) hf
    · exact h.nf k (.inr (.inr (.inl e))) hf
    · rcases hv with c | c
      · exact h.nf k (.inr (.inr (.inr (by rw [← c]; exact e)))) hf
      · rw [c] at e; cases e
        have := (h.dk.foot _ hf).2
        omega
theorem SynB.write {wv' : Value} (h : SynB w w0 a m b1 b3 wv kv d d' g1 W n s) (p : Int) (x : List UInt8) (hd : DiskAt w' w0.heap.size a m wv' (d'.write p x)) (hk : Kept (Foot a m wv) w w') (hv : wv'.ownBlock = wv.ownBlock ∨ ∃ k, wv'.ownBlock = some k ∧ w.heap.size ≤ k) :
    SynB w' w0 a m b1 b3 wv' kv d (d'.write p x) g1 W n (s + 1) := by
  have hl := h.lo
  have hz := h.ov.lt
  refine ⟨hd, h.be.trans (hk.below h.be.size (fun k hk hf => by have := (h.dk.foot k hf).1; omega)), h.a1.kept hk (h.nf _ (.inl rfl)), fun g => (h.a2 g).kept hk (h.nf _ (.inr (.inl rfl))), h.ov.kept hk (h.nf _ (.inr (.inr (.inl rfl)))), h.hd, row4_kept h.kr hk (fun k hk' => h.nf k (.inr (.inr (.inr hk')))), ?_, h.si.write p x, h.lo⟩
  intro k hk' hf
  have hlt : k < w.heap.size := by
    rcases hk' with e | e | e | e
    · omega
    · omega
    · omega
    · exact (h.kb k e).2
  rcases hf with e | e | e
  · exact h.nf k hk' (.inl e)
  · exact h.nf k hk' (.inr (.inl e))
  · rcases hv with c | ⟨j, c, hj⟩
    · exact h.nf k hk' (.inr (.inr (by rw [← c]; exact e)))
    · rw [c] at e; cases e; omega
theorem SynB.bools {A : Option Addr} {nn c : Nat} (h : SynB w w0 a m b1 b3 wv (.slice A nn c) d d' g1 W n s) : nn = n ∧ Bools w A (List.replicate n true) := by
  rcases h.kr.2 with ⟨h1, h2⟩ | ⟨g, cap, cur, h1, h2, h3, h4, h5, h6, h7⟩
  · cases h1
    subst h2
    exact ⟨rfl, fun k hk => absurd hk (by simp)⟩
  · cases h1
    refine ⟨rfl, fun k hk => ⟨_, rfl, ?_⟩⟩
    have hk' : k < n := by simpa using hk
    rw [Addr.add_lit, Nat.zero_add, World.ownsRow.cellAt h.kr k (by omega)]
    simp [List.getElem?_replicate, hk']
theorem SynB.put2 {g2 : Nat → UInt8} {k : Nat} (h : SynB w w0 a m b1 b3 wv kv d d' g1 W n s) (hA : ArrB w (b1 + 1) g2 k) (hk6 : k < 6) :
    SynB (w.setCell ⟨b1 + 1, k, none⟩ (.int .u8 ((g2 k).toNat : Int))) w0 a m b1 b3 wv kv d d' g1 W n s ∧ ArrB (w.setCell ⟨b1 + 1, k, none⟩ (.int .u8 ((g2 k).toNat : Int))) (b1 + 1) g2 (k + 1) := by
  have hk := Kept.set1 w (b1 + 1) k (.int .u8 ((g2 k).toNat : Int))
  have hl := h.lo
  have hz := h.ov.lt
  have hp := hA.put hk6
  exact ⟨⟨h.dk.kept hk (fun k hf e => h.nf k (.inr (.inl e)) hf), h.be.trans (hk.below h.be.size (fun k hk e => by omega)), h.a1.kept hk (by omega), fun g => hp.forget g, h.ov.kept hk (by omega), h.hd, row4_kept h.kr hk (fun k hk' e => by have := (h.kb k hk').1; omega), h.nf, h.si, h.lo⟩, hp⟩
theorem SynB.now_ (h : SynB w w0 a m b1 b3 wv kv d d' g1 W n s) (hw : W = d'.wait) (i : Int) : d'.now i = lastOf i (d.held i) W := by
  unfold DiskM.now; rw [h.hd, hw]
theorem SynB.miss (h : SynB w w0 a m b1 b3 wv kv d d' g1 W n s) (hw : W = d'.wait) (j : Nat) (ho : over_ W j = false) : d'.now (j : Int) = d.held (j : Int) := by
  rw [h.now_ hw, lastOf_miss _ _ _ (over_not ho)]
theorem SynB.none9 (h : SynB w w0 a m b1 b3 wv kv d d' g1 W n s) (i : Int) : (d'.lose [] (-1) 0).now i = d.held i := by
  rw [lose_now, loseF_none, h.hd]
theorem SynB.all9 (h : SynB w w0 a m b1 b3 wv kv d d' g1 W n s) (hw : W = d'.wait) (i : Int) : (d'.lose (List.replicate W.length true) (-1) 0).now i = lastOf i (d.held i) W := by
  rw [lose_now, hw, loseF_all _ _ _ _ _ (by omega), syncF_last, h.hd]
theorem SynB.some9 (h : SynB w w0 a m b1 b3 wv kv d d' g1 W n s) (hw : W = d'.wait) (K : List Bool) (torn at_ : Int) (j : Nat) (ho : over_ W j = false) : (d'.lose K torn at_).now (j : Int) = d.held (j : Int) := by
  rw [lose_now, loseF_miss _ _ _ _ _ _ _ _ (by rw [← hw]; exact over_not ho), h.hd]
theorem SynB.form (h : SynB w w0 a m b1 b3 wv kv d d' g1 W n s) : ∃ A c, kv = .slice A n c := by
  rcases h.kr.2 with ⟨h1, h2⟩ | ⟨g, cap, cur, h1, h2⟩
  · exact ⟨none, 0, by rw [h1, h2]⟩
  · exact ⟨_, _, h1⟩
end
theorem row4_nil (w : World) (base : Nat) (hb : base ≤ w.heap.size) : (w.alloc (.cells #[] 4)).ownsRow base 4 1 (.slice (some ⟨w.heap.size, 0, none⟩) 0 0) 0 [] :=
  ⟨rfl, .inr ⟨w.heap.size, 0, #[], rfl, hb, heap_alloc_new w _, Nat.le_refl _, by decide, rfl, rfl⟩⟩
theorem info4 : (Try.prog.info? 4).map (fun i => (i.zero, i.size, i.bytes)) = some (some (.bool false), 1, 1) := by kernel_rfl
end Go.Proofs.Ytgodnmlggomaaaa
