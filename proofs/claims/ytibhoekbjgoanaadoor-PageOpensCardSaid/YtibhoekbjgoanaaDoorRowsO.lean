/- Rows of bytes of one's own. -/
import Derived.Test.YtibhoekbjgoanaaDoorPageV
set_option linter.unusedSimpArgs false
set_option linter.unusedVariables false
namespace Go.Proofs.YtibhoekbjgoanaaDoor
open Go.RowKit Go.Proofs.YtibhoekbjgoanaaDoor.Crc
theorem ownsRow_block {w : World} {base : Nat} {e : TypeId} {size : Nat} {v : Value} {n : Nat} {xs : List Value} (h : w.ownsRow base e size v n xs) {g : Nat} (hg : v.ownBlock = some g) : ∃ cur, w.heap[g]? = some (.cells cur e (0, 0)) := by
  rcases h.2 with ⟨h1, _⟩ | ⟨g', cap, cur, h1, _, h3, _⟩
  · rw [h1] at hg; cases hg
  · rw [h1] at hg; cases hg; exact ⟨cur, h3⟩
theorem ownsRow_apart {w : World} {base base' : Nat} {e e' : TypeId} {size size' : Nat} {v v' : Value} {n n' : Nat} {xs xs' : List Value} (h : w.ownsRow base e size v n xs) (h' : w.ownsRow base' e' size' v' n' xs') (he : e ≠ e') : v.ownBlock = none ∨ v.ownBlock ≠ v'.ownBlock := by
  cases hv : v.ownBlock with
  | none => exact .inl rfl
  | some g =>
    refine .inr fun heq => ?_
    obtain ⟨c1, h1⟩ := ownsRow_block h hv
    obtain ⟨c2, h2⟩ := ownsRow_block h' heq.symm
    rw [h1] at h2
    injection h2 with h3
    injection h3 with _ h4
    exact he h4
/-- Rows of bytes, all of one's own. -/
def OwnRL (w : World) (base : Nat) (v : Value) (ls : List (List UInt8)) : Prop :=
  ∃ vs : List Value, w.ownsRow base 23 1 v ls.length vs ∧ ∀ (i : Nat) (h : i < ls.length), ∃ A c, vs[i]? = some (.slice A ls[i].length c) ∧ OwnB w base (.slice A ls[i].length c) ls[i]
theorem OwnRL.nil (w : World) (base : Nat) : OwnRL w base (.slice none 0 0) [] := ⟨[], World.ownsRow_nil _ _ _ _, fun i h => absurd h (by simp)⟩
theorem ownsRow_below {w w' : World} {base : Nat} {e : TypeId} {size : Nat} {v : Value} {n : Nat} {xs : List Value} (h : w.ownsRow base e size v n xs) (hb : Below w.heap.size w w') : w'.ownsRow base e size v n xs := by
  refine ⟨h.1, ?_⟩
  rcases h.2 with h2 | ⟨g, cap, cur, h1, h2, h3, r⟩
  · exact .inl h2
  · exact .inr ⟨g, cap, cur, h1, h2, by rw [hb.block g ((Array.getElem?_eq_some_iff.1 h3).1)]; exact h3, r⟩
theorem OwnRL.below {w w' : World} {base : Nat} {v : Value} {ls : List (List UInt8)} (h : OwnRL w base v ls) (hb : Below w.heap.size w w') : OwnRL w' base v ls := by
  obtain ⟨vs, h1, h2⟩ := h
  refine ⟨vs, ownsRow_below h1 hb, fun i hi => ?_⟩
  obtain ⟨A, c, h3, h4⟩ := h2 i hi
  exact ⟨A, c, h3, h4.below hb⟩
theorem OwnRL.form {w : World} {base : Nat} {v : Value} {ls : List (List UInt8)} (h : OwnRL w base v ls) : (v = .slice none 0 0 ∧ ls = []) ∨ ∃ g c, v = .slice (some ⟨g, 0, none⟩) ls.length c ∧ base ≤ g ∧ g < w.heap.size ∧ ls.length ≤ c ∧ c ≤ 9223372036854775807 := by
  obtain ⟨vs, h1, _⟩ := h
  rcases h1.2 with ⟨h2, h3⟩ | ⟨g, cap, cur, h2, h3, h4, h5, h6, _⟩
  · exact .inl ⟨h2, List.eq_nil_of_length_eq_zero h3⟩
  · exact .inr ⟨g, cap, h2, h3, (Array.getElem?_eq_some_iff.1 h4).1, h5, by unfold maxLen at h6; omega⟩
theorem OwnRL.rows {w : World} {base n c : Nat} {A : Option Addr} {ls : List (List UInt8)} (h : OwnRL w base (.slice A n c) ls) : RowsB w A ls := by
  intro i hi
  rcases h.form with ⟨_, h2⟩ | ⟨g, c', h1, _⟩
  · subst h2; simp at hi
  · obtain ⟨rfl, rfl, rfl⟩ : A = some ⟨g, 0, none⟩ ∧ n = ls.length ∧ c = c' := by simpa using h1
    obtain ⟨vs, h2, h3⟩ := h
    obtain ⟨Ai, ci, h4, h5⟩ := h3 i hi
    refine ⟨_, Ai, ci, rfl, World.ownsRow.cells h2 rfl i _ h4, rfl, h5.bytes, ?_, ?_, ?_⟩
    · rcases h5.form with ⟨h6, h7⟩ | ⟨g', c', h6, _, _, h7⟩
      · rw [h7]; exact Nat.zero_le _
      · injection h6 with _ _ h8; omega
    · rcases h5.2 with ⟨_, h6⟩ | ⟨g', cap, cur, h6, _, _, h8, h7, _⟩
      · omega
      · unfold maxLen at h7; omega
    · rintro rfl
      exact (h5.nilcap).2.1
theorem infoRow : (Tryd.prog.info? 23).map (fun i => (i.zero, i.size, i.bytes)) = some (some (.slice none 0 0), 1, 24) := by kernel_rfl
/-- append of one row onto rows of one's own. -/
theorem wpList_append_row {w : World} {ops : Array Oper} {rest : List Oper} {o : Oper} {a : Act} {Q : Exit → Act → World → Prop} (hgd : o.guard = none) (s x : Operand)
    (ho : o.op = .call { callee := .builtin .append, args := #[s, x], argTypes := #[22, 22] })
    (base : Nat) (v : Value) (ls : List (List UInt8)) (hs : a.eval s = v) (hown : OwnRL w base v ls)
    (ad : Addr) (cx : Nat) (A : Option Addr) (m c : Nat) (l : List UInt8) (hx : a.eval x = .slice (some ad) 1 cx) (hcell : w.cell? (ad.add 0) = some (.slice A m c)) (hb : OwnB w base (.slice A m c) l)
    (hbytes : ls.length ≤ 1000000) (hbase : base ≤ w.heap.size)
    (h : ∀ v' w', Hid (OwnRL w' base v' (ls ++ [l]) ∧ w.grownBy w' v.ownBlock) → wpList Tryd.prog ops Q rest (a.put o.dst v') w') : wpList Tryd.prog ops Q (o :: rest) a w := by
  obtain ⟨i, hi, hz0, hz1, hz2⟩ := info_parts infoRow
  obtain ⟨vs, h1, h2⟩ := hown
  have hm := hb.len
  subst hm
  refine wpList_append_own w hgd s x _ ho base 23 i (.slice none 0 0) 1 24 Tryd.underlying22 hi hz0 hz1 hz2 rfl (by decide) v ls.length vs hs h1 ad 1 cx [.slice A l.length c] hx rfl ?_ (by simp; rfl) (by unfold maxLen; omega) (by omega) hbase ?_
  · intro j u hj
    match j, hj with
    | 0, hj => simp at hj; rw [hcell, hj]
    | j + 1, hj => simp at hj
  · intro v' w' hown' hg hnn
    refine h v' w' ⟨⟨vs ++ [.slice A l.length c], by rw [List.length_append]; exact hown', ?_⟩, hg⟩
    have hvl : vs.length = ls.length := by have := h1.1; omega
    intro i hi
    rw [List.length_append, List.length_singleton] at hi
    by_cases hlt : i < ls.length
    · obtain ⟨Ai, ci, h3, h4⟩ := h2 i hlt
      refine ⟨Ai, ci, ?_, ?_⟩
      · rw [List.getElem?_append_left (by omega), h3, List.getElem_append_left hlt]
      · rw [List.getElem_append_left hlt]
        exact h4.grown hg (ownsRow_apart h4 h1 (by decide))
    · obtain rfl : i = ls.length := by omega
      refine ⟨A, c, ?_, ?_⟩
      · rw [List.getElem?_append_right (by omega), hvl]; simp
      · simp only [List.getElem_append_right (Nat.le_refl _), Nat.sub_self, List.getElem_cons_zero]
        exact hb.grown hg (ownsRow_apart hb h1 (by decide))
theorem OwnB.caps {w : World} {base n c : Nat} {A : Option Addr} {l : List UInt8} (h : OwnB w base (.slice A n c) l) : n = l.length ∧ n ≤ c ∧ c ≤ 9223372036854775807 ∧ (A = none → c = 0) := by
  refine ⟨h.len, ?_, ?_, ?_⟩
  · rcases h.form with ⟨h6, h7⟩ | ⟨g', c', h6, _, _, h7⟩
    · injection h6 with _ h8 _; omega
    · injection h6 with _ _ h8; have := h.len; omega
  · rcases h.2 with ⟨h6, _⟩ | ⟨g', cap, cur, h6, _, _, _, h7, _⟩
    · injection h6 with _ _ h8; omega
    · injection h6 with _ _ h8; unfold maxLen at h7; omega
  · rintro rfl; exact (h.nilcap).2.1
theorem OwnRL.slice {w : World} {base : Nat} {v : Value} {ls : List (List UInt8)} (h : OwnRL w base v ls) : ∃ A c, v = .slice A ls.length c ∧ RowsB w A ls ∧ ls.length ≤ c ∧ c ≤ 9223372036854775807 ∧ (A = none → c = 0) := by
  rcases h.form with ⟨rfl, rfl⟩ | ⟨g, c, rfl, _, _, h1, h2⟩
  · exact ⟨none, 0, rfl, h.rows, Nat.le_refl _, by decide, fun _ => rfl⟩
  · exact ⟨_, c, rfl, h.rows, h1, h2, fun h => by cases h⟩
theorem RowsB.takeN {w : World} {A : Option Addr} {ls : List (List UInt8)} (h : RowsB w A ls) (n : Nat) : RowsB w A (ls.take n) := by
  intro i hi
  have hi2 : i < ls.length := by rw [List.length_take] at hi; omega
  rw [List.getElem_take]
  exact h i hi2
theorem RowsB.dropN {w : World} {b o : Nat} {ls : List (List UInt8)} (h : RowsB w (some ⟨b, o, none⟩) ls) (n : Nat) : RowsB w (some ⟨b, o + n, none⟩) (ls.drop n) := by
  intro i hi
  rw [List.length_drop] at hi
  obtain ⟨Ai, ci, hx, hs⟩ := h.at (n + i) (by omega)
  refine ⟨_, Ai, ci, rfl, ?_, ?_⟩
  · rw [Addr.add_lit, List.getElem_drop, Nat.add_assoc]; exact hx
  · rw [List.getElem_drop]; exact hs
theorem RowsB.nilR (w : World) (A : Option Addr) : RowsB w A [] := fun i h => absurd h (by simp)
end Go.Proofs.YtibhoekbjgoanaaDoor
