/- Lists of values of one cell each, in memory. -/
import Derived.Test.YtehigfpdeoebdaaMem
set_option linter.unusedSimpArgs false
set_option linter.unusedVariables false
namespace Go.Proofs.Ytehigfpdeoebdaa
open Go.RowKit
/-- Values that lie somewhere. -/
def ValsAt (w : World) (A : Option Addr) (vs : List Value) : Prop := ∀ k, (hk : k < vs.length) → ∃ ad, A = some ad ∧ w.cell? (ad.add k) = some vs[k]
theorem ValsAt.kept {S : Nat → Prop} {w w' : World} {A : Option Addr} {vs : List Value} (h : ValsAt w A vs) (hk : Kept S w w') (hs : ∀ ad, A = some ad → vs = [] ∨ ¬ S ad.block) : ValsAt w' A vs := by
  intro k hl
  obtain ⟨ad, hA, hx⟩ := h k hl
  refine ⟨ad, hA, hk.cell hx ?_⟩
  rw [add_block]
  rcases hs ad hA with h | h
  · rw [h] at hl; exact absurd hl (Nat.not_lt_zero _)
  · exact h
theorem ValsAt.below {w w' : World} {A : Option Addr} {vs : List Value} (h : ValsAt w A vs) (hb : Below w.heap.size w w') : ValsAt w' A vs := h.kept (S := fun _ => False) (Kept.of_below hb) (fun _ _ => .inr (fun x => x))
theorem ValsAt.nil (w : World) (A : Option Addr) : ValsAt w A [] := fun k hk => absurd hk (Nat.not_lt_zero _)
theorem ValsAt.spot {w : World} {A : Option Addr} {vs : List Value} (h : ValsAt w A vs) (hl : 0 < vs.length) : ∃ b o, A = some ⟨b, o, none⟩ ∧ b < w.heap.size := by
  obtain ⟨ad, hA, hx⟩ := h 0 hl
  obtain ⟨b, o, s⟩ := ad
  have hlt := World.block_lt_of_cell? w _ hx
  rw [add_block] at hlt
  refine ⟨b, o, ?_, hlt⟩
  rw [hA]
  cases s with
  | none => rfl
  | some s => simp [World.cell?, Addr.add] at hx; split at hx <;> simp at hx
theorem ValsAt.at {w : World} {b o : Nat} {vs : List Value} (h : ValsAt w (some ⟨b, o, none⟩) vs) (k : Nat) (hk : k < vs.length) : w.cell? ⟨b, o + k, none⟩ = some vs[k] := by
  obtain ⟨ad, hA, hx⟩ := h k hk
  cases hA
  rwa [Addr.add_lit] at hx
theorem ValsAt.take {w : World} {A : Option Addr} {vs : List Value} (h : ValsAt w A vs) (n : Nat) : ValsAt w A (vs.take n) := by
  intro k hk
  rw [List.length_take] at hk
  obtain ⟨ad, hA, hx⟩ := h k (by omega)
  exact ⟨ad, hA, by rw [List.getElem_take]; exact hx⟩
theorem ValsAt.drop {w : World} {b o : Nat} {vs : List Value} (h : ValsAt w (some ⟨b, o, none⟩) vs) (n : Nat) : ValsAt w (some ⟨b, o + n, none⟩) (vs.drop n) := by
  intro k hk
  rw [List.length_drop] at hk
  refine ⟨_, rfl, ?_⟩
  rw [Addr.add_lit, List.getElem_drop, Nat.add_assoc]
  exact h.at (n + k) (by omega)
/-- What is known of the values of a slice: the slice's type, an element's, its zero, its bytes. -/
structure El (ts t : TypeId) (z : Value) (b : Nat) : Prop where
  u : Try.prog.underlying ts = some (.slice t)
  i : (Try.prog.info? t).map (fun i => (i.zero, i.size, i.bytes)) = some (some z, 1, b)
  z1 : z.cells.size = 1
  b24 : b ≤ 24
/-- Values of one's own. -/
def OwnVs (w : World) (base : Nat) (t : TypeId) (v : Value) (vs : List Value) : Prop := w.ownsRow base t 1 v vs.length vs
section
variable {w w' : World} {base : Nat} {t : TypeId} {v : Value} {vs : List Value}
theorem OwnVs.kept {S : Nat → Prop} (h : OwnVs w base t v vs) (hk : Kept S w w') (hs : ∀ k, v.ownBlock = some k → ¬ S k) : OwnVs w' base t v vs := by
  refine ⟨h.1, ?_⟩
  rcases h.2 with h2 | ⟨g, cap, cur, h1, h2, h3, r⟩
  · exact .inl h2
  · exact .inr ⟨g, cap, cur, h1, h2, by rw [hk.block g ((Array.getElem?_eq_some_iff.1 h3).1) (hs g (by rw [h1]; rfl))]; exact h3, r⟩
theorem OwnVs.below (h : OwnVs w base t v vs) (hb : Below w.heap.size w w') : OwnVs w' base t v vs := h.kept (S := fun _ => False) (Kept.of_below hb) (fun _ _ x => x)
theorem OwnVs.lt (h : OwnVs w base t v vs) : ∀ k, v.ownBlock = some k → base ≤ k ∧ k < w.heap.size := World.ownsRow.lt h
theorem OwnVs.nil (w : World) (base : Nat) (t : TypeId) : OwnVs w base t (.slice none 0 0) [] := World.ownsRow_nil _ _ _ _
theorem OwnVs.base' {base' : Nat} (h : OwnVs w base t v vs) (hb : base' ≤ base) : OwnVs w base' t v vs := by
  refine ⟨h.1, ?_⟩
  rcases h.2 with h2 | ⟨g, cap, cur, h1, h2, r⟩
  · exact .inl h2
  · exact .inr ⟨g, cap, cur, h1, by omega, r⟩
theorem OwnVs.form (h : OwnVs w base t v vs) : (v = .slice none 0 0 ∧ vs = []) ∨ ∃ g c, v = .slice (some ⟨g, 0, none⟩) vs.length c ∧ base ≤ g ∧ g < w.heap.size ∧ vs.length ≤ c ∧ c ≤ 9223372036854775807 := by
  rcases h.2 with ⟨h1, h2⟩ | ⟨g, cap, cur, h1, h2, h3, h4, h5, _⟩
  · exact .inl ⟨h1, List.eq_nil_of_length_eq_zero h2⟩
  · refine .inr ⟨g, cap, h1, h2, (Array.getElem?_eq_some_iff.1 h3).1, h4, ?_⟩
    unfold maxLen at h5; omega
theorem OwnVs.sl (h : OwnVs w base t v vs) : ∃ A c, v = .slice A vs.length c ∧ (A = none → c = 0) ∧ ValsAt w A vs ∧ vs.length ≤ c ∧ c ≤ 9223372036854775807 ∧ ∀ ad, A = some ad → base ≤ ad.block ∧ ad.block < w.heap.size ∧ ad.spot = none := by
  rcases h.form with ⟨rfl, rfl⟩ | ⟨g, c, rfl, h1, h2, h3, h4⟩
  · exact ⟨none, 0, rfl, fun _ => rfl, ValsAt.nil _ _, Nat.le_refl _, by decide, fun ad h => by cases h⟩
  · refine ⟨_, c, rfl, (fun h => by cases h), fun k hk => ⟨_, rfl, ?_⟩, h3, h4, fun ad h => by cases h; exact ⟨h1, h2, rfl⟩⟩
    exact World.ownsRow.cells h (g := g) rfl k vs[k] (by simp [hk])
theorem OwnVs.fr {A : Option Addr} {n c : Nat} (h : OwnVs w base t (.slice A n c) vs) (k : Nat) (hk : k < vs.length) : ∃ g, A = some ⟨g, 0, none⟩ ∧ w.frozen? ⟨g, k, none⟩ = false ∧ w.cell? ⟨g, k, none⟩ = some vs[k] := by
  rcases h.form with ⟨h1, h2⟩ | ⟨g, c', h1, _⟩
  · rw [h2] at hk; exact absurd hk (Nat.not_lt_zero _)
  · injection h1 with h1 h2 h3
    subst h1
    subst h2
    have hc := World.ownsRow.cells h (g := g) rfl k vs[k] (by simp [hk])
    rw [Addr.add_lit, Nat.zero_add] at hc
    exact ⟨g, rfl, World.ownsRow.frozenAt h k, hc⟩
theorem OwnVs.set {g n c : Nat} (h : OwnVs w base t (.slice (some ⟨g, 0, none⟩) n c) vs) (k : Nat) (x : Value) : OwnVs (w.setCell ⟨g, k, none⟩ x) base t (.slice (some ⟨g, 0, none⟩) n c) (vs.set k x) := by
  have hn : n = vs.length := by
    rcases h.form with ⟨h1, _⟩ | ⟨g', c', h1, _⟩
    · cases h1
    · injection h1
  subst hn
  have := (World.ownsRow.stored h k x).1
  unfold OwnVs
  rw [List.length_set]
  exact this
theorem OwnVs.lit (w : World) (base : Nat) (hb : base ≤ w.heap.size) (vs : List Value) (hm : vs.length ≤ maxLen) : OwnVs (w.alloc (.cells vs.toArray t)) base t (.slice (some ⟨w.heap.size, 0, none⟩) vs.length vs.length) vs := by
  have := World.ownsRow_lit (base := base) (e := t) (size := 1) w vs.toArray vs.length hb hm (by simp)
  simpa [OwnVs] using this
end
/-- append of values onto values of one's own. -/
theorem wpList_append_vals {ts t : TypeId} {z : Value} {b : Nat} (E : El ts t z b) {w : World} {ops : Array Oper} {rest : List Oper} {o : Oper} {a : Act} {Q : Exit → Act → World → Prop} (hgd : o.guard = none) (s x : Operand)
    (ho : o.op = .call { callee := .builtin .append, args := #[s, x], argTypes := #[ts, ts] })
    (base : Nat) (v : Value) (vs : List Value) (hs : a.eval s = v) (hown : OwnVs w base t v vs)
    (A : Option Addr) (m cx : Nat) (ys : List Value) (hx : a.eval x = .slice A m cx) (hm : m = ys.length) (hnil : A = none → cx = 0) (hU : ValsAt w A ys) (h1 : ∀ u ∈ ys, u.oneCell' = true)
    (hbytes : vs.length + ys.length ≤ 1000000000000) (hbase : base ≤ w.heap.size)
    (h : ∀ v' w', Hid (OwnVs w' base t v' (vs ++ ys) ∧ w.grownBy w' v.ownBlock) → wpList Try.prog ops Q rest (a.put o.dst v') w') : wpList Try.prog ops Q (o :: rest) a w := by
  obtain ⟨i, hi, hz0, hz1, hz2⟩ := info_parts E.i
  subst hm
  cases A with
  | none =>
    have hys : ys = [] := by
      rcases ys with _ | ⟨y, ys⟩
      · rfl
      · obtain ⟨ad, hA, _⟩ := hU 0 (Nat.succ_pos _); cases hA
    subst hys
    have hc := hnil rfl
    subst hc
    refine wpList_plain hgd fun K hK => ?_
    have hr := run_append_owned_none (P := Try.prog) w base ts o.type t i 1 E.u hi v vs.length vs hown
    unfold Oper.wp execOp
    simp only [ho, resolve, invoke, builtin, Sem.run_bind, Sem.run_pure, Result.andThen_ok, List.map_toArray, List.map_cons, List.map_nil, hs, hx]
    simp only [List.length_nil, hr, Result.andThen_ok]
    refine hK _ _ (h v w ⟨by rw [List.append_nil]; exact hown, World.grownBy.refl _ _⟩)
  | some ad =>
    have hb24 := E.b24
    refine wpList_append_own w hgd s x _ ho base t i z 1 b E.u hi hz0 hz1 hz2 E.z1 (by decide) v vs.length _ hs hown ad ys.length cx ys hx (by rw [Nat.mul_one]) ?_ h1 (by unfold maxLen; omega) ?_ hbase ?_
    · intro j u hj
      have hlt : j < ys.length := (List.getElem?_eq_some_iff.1 hj).1
      obtain ⟨ad', hA, hc⟩ := hU j hlt
      cases hA
      rw [hc]
      rw [List.getElem?_eq_getElem hlt] at hj
      exact hj
    · refine Nat.le_trans (Nat.mul_le_mul hbytes hb24) (by decide)
    · intro v' w' hown' hg hnn
      refine h v' w' ⟨?_, hg⟩
      unfold OwnVs
      rw [List.length_append]
      exact hown'
/-- append of one value. -/
theorem wpList_append_val1 {ts t : TypeId} {z : Value} {b : Nat} (E : El ts t z b) {w : World} {ops : Array Oper} {rest : List Oper} {o : Oper} {a : Act} {Q : Exit → Act → World → Prop} (hgd : o.guard = none) (s x : Operand)
    (ho : o.op = .call { callee := .builtin .append, args := #[s, x], argTypes := #[ts, ts] })
    (base : Nat) (v : Value) (vs : List Value) (hs : a.eval s = v) (hown : OwnVs w base t v vs)
    (ad : Addr) (cx : Nat) (y : Value) (hx : a.eval x = .slice (some ad) 1 cx) (hcell : w.cell? (ad.add 0) = some y) (h1 : y.oneCell' = true)
    (hbytes : vs.length ≤ 1000000) (hbase : base ≤ w.heap.size)
    (h : ∀ v' w', Hid (OwnVs w' base t v' (vs ++ [y]) ∧ w.grownBy w' v.ownBlock) → wpList Try.prog ops Q rest (a.put o.dst v') w') : wpList Try.prog ops Q (o :: rest) a w :=
  wpList_append_vals E hgd s x ho base v vs hs hown (some ad) 1 cx [y] hx rfl (fun h => by cases h) (fun k hk => by
    obtain rfl : k = 0 := by simpa using hk
    exact ⟨ad, rfl, hcell⟩) (fun u hu => by simp at hu; rw [hu]; exact h1) (by simp; omega) hbase h
/-- append of one value, as one step of a region. -/
theorem step_append_val1 {ts t : TypeId} {z : Value} {b : Nat} (E : El ts t z b) {ops : Array Oper} {o : Oper} {a : Act} {w : World} {K : Act → World → Prop} {Q : Exit → Act → World → Prop} {X : Prop} (hgd : o.guard = none) (s x : Operand)
    (ho : o.op = .call { callee := .builtin .append, args := #[s, x], argTypes := #[ts, ts] })
    (base : Nat) (v : Value) (vs : List Value) (hs : a.eval s = v) (hown : OwnVs w base t v vs)
    (ad : Addr) (cx : Nat) (y : Value) (hx : a.eval x = .slice (some ad) 1 cx) (hcell : w.cell? (ad.add 0) = some y) (h1 : y.oneCell' = true)
    (hbytes : vs.length ≤ 1000000) (hbase : base ≤ w.heap.size)
    (h : ∀ v' w', Hid (OwnVs w' base t v' (vs ++ [y]) ∧ w.grownBy w' v.ownBlock) → K (a.put o.dst v') w') : if Region.wanted o (yielded ops a.tmps) = true then Oper.wp Try.prog o a w K Q else X := by
  obtain ⟨i, hi, hz0, hz1, hz2⟩ := info_parts E.i
  have hb24 := E.b24
  have hw : Region.wanted o (yielded ops a.tmps) = true := by simp [Region.wanted, hgd]
  rw [if_pos hw]
  refine wp_append_own w s x _ ho base t i z 1 b E.u hi hz0 hz1 hz2 E.z1 (by decide) v vs.length _ hs hown ad 1 cx [y] hx rfl ?_ (fun u hu => by simp at hu; rw [hu]; exact h1) (by unfold maxLen; omega) ?_ hbase ?_
  · intro j u hj
    match j, hj with
    | 0, hj => simp at hj; rw [hcell, hj]
    | j + 1, hj => simp at hj
  · refine Nat.le_trans (Nat.mul_le_mul (show vs.length + 1 ≤ 1000001 by omega) hb24) (by decide)
  · intro v' w' hown' hg hnn
    refine h v' w' ⟨?_, hg⟩
    unfold OwnVs
    rw [List.length_append]
    exact hown'
end Go.Proofs.Ytehigfpdeoebdaa
