/- The document's Parse: what it holds. -/
import Derived.Test.YtibhoekbjgoanaaDoorPageN
import Derived.Test.YtibhoekbjgoanaaDoorPageRB
set_option linter.unusedSimpArgs false
set_option linter.unusedVariables false
namespace Go.Proofs.YtibhoekbjgoanaaDoor
open Go.RowKit Go.Proofs.YtibhoekbjgoanaaDoor.Crc
/-- Ints of one's own. -/
def OwnI (w : World) (base : Nat) (v : Value) (zs : List Nat) : Prop := w.ownsRow base 3 1 v zs.length (zs.map fun (z : Nat) => Value.int .i64 (z : Int))
theorem OwnI.nil (w : World) (base : Nat) : OwnI w base (.slice none 0 0) [] := World.ownsRow_nil _ _ _ _
theorem OwnI.below {w w' : World} {base : Nat} {v : Value} {zs : List Nat} (h : OwnI w base v zs) (hb : Below w.heap.size w w') : OwnI w' base v zs := ownsRow_below h hb
theorem OwnI.kept {S : Nat → Prop} {w w' : World} {base : Nat} {v : Value} {zs : List Nat} (h : OwnI w base v zs) (hk : Kept S w w') (hs : ∀ k, v.ownBlock = some k → ¬ S k) : OwnI w' base v zs := by
  refine ⟨h.1, ?_⟩
  rcases h.2 with h2 | ⟨g, cap, cur, h1, h2, h3, r⟩
  · exact .inl h2
  · exact .inr ⟨g, cap, cur, h1, h2, by rw [hk.block g ((Array.getElem?_eq_some_iff.1 h3).1) (hs g (by rw [h1]; rfl))]; exact h3, r⟩
theorem OwnI.form {w : World} {base : Nat} {v : Value} {zs : List Nat} (h : OwnI w base v zs) : (v = .slice none 0 0 ∧ zs = []) ∨ ∃ g c, v = .slice (some ⟨g, 0, none⟩) zs.length c ∧ base ≤ g ∧ g < w.heap.size ∧ (∀ (i : Nat) (hi : i < zs.length), w.cell? ⟨g, i, none⟩ = some (.int .i64 (zs[i] : Int))) := by
  rcases h.2 with ⟨h1, h2⟩ | ⟨g, cap, cur, h1, h2, h3, h4, h5, h6, h7⟩
  · exact .inl ⟨h1, List.eq_nil_of_length_eq_zero h2⟩
  · refine .inr ⟨g, cap, h1, h2, (Array.getElem?_eq_some_iff.1 h3).1, fun i hi => ?_⟩
    have := World.ownsRow.cells h (g := g) (by rw [h1]; rfl) i (.int .i64 (zs[i] : Int)) (by simp [hi])
    rw [Addr.add_lit, Nat.zero_add] at this
    exact this
theorem infoInt : (Tryd.prog.info? 3).map (fun i => (i.zero, i.size, i.bytes)) = some (some (.int .i64 0), 1, 8) := by kernel_rfl
/-- append of one int onto ints of one's own. -/
theorem wpList_append_int {w : World} {ops : Array Oper} {rest : List Oper} {o : Oper} {a : Act} {Q : Exit → Act → World → Prop} (hgd : o.guard = none) (s x : Operand)
    (ho : o.op = .call { callee := .builtin .append, args := #[s, x], argTypes := #[87, 87] })
    (base : Nat) (v : Value) (zs : List Nat) (hs : a.eval s = v) (hown : OwnI w base v zs)
    (ad : Addr) (cx : Nat) (z : Nat) (hx : a.eval x = .slice (some ad) 1 cx) (hcell : w.cell? (ad.add 0) = some (.int .i64 (z : Int)))
    (hbytes : zs.length ≤ 1000000) (hbase : base ≤ w.heap.size)
    (h : ∀ v' w', Hid (OwnI w' base v' (zs ++ [z]) ∧ w.grownBy w' v.ownBlock) → wpList Tryd.prog ops Q rest (a.put o.dst v') w') : wpList Tryd.prog ops Q (o :: rest) a w := by
  obtain ⟨i, hi, hz0, hz1, hz2⟩ := info_parts infoInt
  refine wpList_append_own w hgd s x _ ho base 3 i (.int .i64 0) 1 8 Tryd.underlying87 hi hz0 hz1 hz2 rfl (by decide) v zs.length _ hs hown ad 1 cx [.int .i64 (z : Int)] hx rfl ?_ (by simp; rfl) (by unfold maxLen; omega) (by omega) hbase ?_
  · intro j u hj
    match j, hj with
    | 0, hj => simp at hj; rw [hcell, hj]
    | j + 1, hj => simp at hj
  · intro v' w' hown' hg hnn
    refine h v' w' ⟨?_, hg⟩
    unfold OwnI
    rw [List.length_append, List.map_append]
    exact hown'
/-- A page in memory, under way. -/
def PgAt (w : World) (p : Nat) (no : Nat) (k : UInt8) (v : Value) : Prop := w.heap[p]? = some (.cells #[.int .i64 (no : Int), .int .u8 (k.toNat : Int), v] 63 (0, 0))
theorem PgAt.cells {w : World} {p no : Nat} {k : UInt8} {v : Value} (h : PgAt w p no k v) : w.cell? ⟨p, 0, none⟩ = some (.int .i64 (no : Int)) ∧ w.cell? ⟨p, 1, none⟩ = some (.int .u8 (k.toNat : Int)) ∧ w.cell? ⟨p, 2, none⟩ = some v ∧ w.frozen? ⟨p, 0, none⟩ = false ∧ w.frozen? ⟨p, 1, none⟩ = false ∧ w.frozen? ⟨p, 2, none⟩ = false :=
  ⟨by rw [cell_of_row _ _ _ _ _ _ h]; rfl, by rw [cell_of_row _ _ _ _ _ _ h]; rfl, by rw [cell_of_row _ _ _ _ _ _ h]; rfl, frozen_of_row _ _ _ _ _ h, frozen_of_row _ _ _ _ _ h, frozen_of_row _ _ _ _ _ h⟩
theorem PgAt.kept {S : Nat → Prop} {w w' : World} {p no : Nat} {k : UInt8} {v : Value} (h : PgAt w p no k v) (hk : Kept S w w') (hs : ¬ S p) : PgAt w' p no k v := by
  unfold PgAt at h ⊢
  rw [hk.block p (Array.getElem?_eq_some_iff.1 h).1 hs]; exact h
theorem PgAt.below {w w' : World} {p no : Nat} {k : UInt8} {v : Value} (h : PgAt w p no k v) (hb : Below w.heap.size w w') : PgAt w' p no k v := h.kept (S := fun _ => False) (Kept.of_below hb) (fun x => x)
theorem PgAt.lt {w : World} {p no : Nat} {k : UInt8} {v : Value} (h : PgAt w p no k v) : p < w.heap.size := (Array.getElem?_eq_some_iff.1 h).1
theorem PgAt.set0 {w : World} {p no : Nat} {k : UInt8} {v : Value} (h : PgAt w p no k v) (m : Nat) : PgAt (w.setCell ⟨p, 0, none⟩ (.int .i64 (m : Int))) p m k v := by
  unfold PgAt at h ⊢; simp [World.setCell, Array.getElem?_modify, h]
theorem PgAt.set1 {w : World} {p no : Nat} {k : UInt8} {v : Value} (h : PgAt w p no k v) (m : UInt8) : PgAt (w.setCell ⟨p, 1, none⟩ (.int .u8 (m.toNat : Int))) p no m v := by
  unfold PgAt at h ⊢; simp [World.setCell, Array.getElem?_modify, h]
theorem PgAt.set2 {w : World} {p no : Nat} {k : UInt8} {v : Value} (h : PgAt w p no k v) (u : Value) : PgAt (w.setCell ⟨p, 2, none⟩ u) p no k u := by
  unfold PgAt at h ⊢; simp [World.setCell, Array.getElem?_modify, h]
theorem RfL.kept {S : Nat → Prop} {w w' : World} {r : Nat} {l : List UInt8} (h : RfL w r l) (hk : Kept S w w') (hs : ∀ k, k < w.heap.size → S k → r < k) : RfL w' r l := by
  obtain ⟨A, c, h1, h2, h3, h4, ad, rfl⟩ := h
  have hlt : r < w.heap.size := (Array.getElem?_eq_some_iff.1 h1).1
  refine ⟨_, c, ?_, ?_, h3, h4, ad, rfl⟩
  · unfold RfAt at h1 ⊢
    rw [hk.block r hlt (fun hS => by have := hs r hlt hS; omega)]; exact h1
  · intro i hi
    obtain ⟨ad', hA, hx⟩ := h2 i hi
    have h5 := h4 ad' hA
    refine ⟨ad', hA, hk.cell hx (fun hS => ?_)⟩
    have hl := World.block_lt_of_cell? w _ hx
    rw [add_block] at hl hS
    have := hs _ hl hS
    omega
theorem RfL.below {w w' : World} {r : Nat} {l : List UInt8} (h : RfL w r l) (hb : Below w.heap.size w w') : RfL w' r l := h.kept (S := fun _ => False) (Kept.of_below hb) (fun k _ h => h.elim)
/-- append of one row, as one step of a region. -/
theorem step_append_row {ops : Array Oper} {o : Oper} {a : Act} {w : World} {K : Act → World → Prop} {Q : Exit → Act → World → Prop} {E : Prop} (hgd : o.guard = none) (s x : Operand)
    (ho : o.op = .call { callee := .builtin .append, args := #[s, x], argTypes := #[22, 22] })
    (base : Nat) (v : Value) (ls : List (List UInt8)) (hs : a.eval s = v) (hown : OwnRL w base v ls)
    (ad : Addr) (cx : Nat) (A : Option Addr) (m c : Nat) (l : List UInt8) (hx : a.eval x = .slice (some ad) 1 cx) (hcell : w.cell? (ad.add 0) = some (.slice A m c)) (hb : OwnB w base (.slice A m c) l)
    (hbytes : ls.length ≤ 1000000) (hbase : base ≤ w.heap.size)
    (h : ∀ v' w', Hid (OwnRL w' base v' (ls ++ [l]) ∧ w.grownBy w' v.ownBlock) → K (a.put o.dst v') w') : if Region.wanted o (yielded ops a.tmps) = true then Oper.wp Tryd.prog o a w K Q else E := by
  obtain ⟨i, hi, hz0, hz1, hz2⟩ := info_parts infoRow
  obtain ⟨vs, h1, h2⟩ := hown
  have hm := hb.len
  subst hm
  have hw : Region.wanted o (yielded ops a.tmps) = true := by simp [Region.wanted, hgd]
  rw [if_pos hw]
  refine wp_append_own w s x _ ho base 23 i (.slice none 0 0) 1 24 Tryd.underlying22 hi hz0 hz1 hz2 rfl (by decide) v ls.length vs hs h1 ad 1 cx [.slice A l.length c] hx rfl ?_ (by simp; rfl) (by unfold maxLen; omega) (by omega) hbase ?_
  · intro j u hj
    match j, hj with
    | 0, hj => simp at hj; rw [hcell, hj]
    | j + 1, hj => simp at hj
  · intro v' w' hown' hg hnn
    refine h v' w' ⟨⟨vs ++ [.slice A l.length c], by rw [List.length_append]; exact hown', ?_⟩, hg⟩
    have hvl : vs.length = ls.length := by have := h1.1; omega
    intro i hi
    rw [List.length_append, List.length_singleton] at hi
    by_cases hlt : i < ls.length
    · obtain ⟨Ai, ci, h3, h4⟩ := h2 i hlt
      refine ⟨Ai, ci, ?_, ?_⟩
      · rw [List.getElem?_append_left (by omega), h3, List.getElem_append_left hlt]
      · rw [List.getElem_append_left hlt]
        exact h4.grown hg (ownsRow_apart h4 h1 (by decide))
    · obtain rfl : i = ls.length := by omega
      refine ⟨A, c, ?_, ?_⟩
      · rw [List.getElem?_append_right (by omega), hvl]; simp
      · simp only [List.getElem_append_right (Nat.le_refl _), Nat.sub_self, List.getElem_cons_zero]
        exact hb.grown hg (ownsRow_apart hb h1 (by decide))
theorem OwnRL.kept {S : Nat → Prop} {w w' : World} {base : Nat} {v : Value} {ls : List (List UInt8)} (h : OwnRL w base v ls) (hk : Kept S w w') (hs : ∀ k, S k → k < base) : OwnRL w' base v ls := by
  obtain ⟨vs, h1, h2⟩ := h
  refine ⟨vs, ⟨h1.1, ?_⟩, fun i hi => ?_⟩
  · rcases h1.2 with h3 | ⟨g, cap, cur, h3, h4, h5, r⟩
    · exact .inl h3
    · exact .inr ⟨g, cap, cur, h3, h4, by rw [hk.block g ((Array.getElem?_eq_some_iff.1 h5).1) (fun e => by have := hs g e; omega)]; exact h5, r⟩
  · obtain ⟨A, c, h3, h4⟩ := h2 i hi
    exact ⟨A, c, h3, h4.kept hk (fun k hk' e => by have := (h4.lt k hk').1; have := hs k e; omega)⟩
theorem OwnRL.lt {w : World} {base : Nat} {v : Value} {ls : List (List UInt8)} (h : OwnRL w base v ls) : ∀ k, v.ownBlock = some k → base ≤ k ∧ k < w.heap.size := by
  obtain ⟨vs, h1, _⟩ := h; exact World.ownsRow.lt h1
theorem Kept.andBelow {S : Nat → Prop} {a b c : World} (h : Kept S a b) (k : Below a.heap.size b c) : Kept S a c :=
  ⟨k.os.trans h.os, k.tape.trans h.tape, k.output.trans h.output, Nat.le_trans h.size k.size, fun i hi hs => (k.block i hi).trans (h.block i hi hs)⟩
theorem below_grown {B : Nat} {w w' : World} {row : Option Nat} (h : w.grownBy w' row) (hB : B ≤ w.heap.size) (hr : ∀ k, row = some k → B ≤ k) : Below B w w' := (Below.refl _ _).grown h hB hr
end Go.Proofs.YtibhoekbjgoanaaDoor
