/- Rows of numbers. -/
import Derived.Test.YtcgjejpekefjdaaDoorStampW
set_option linter.unusedSimpArgs false
set_option linter.unusedVariables false
namespace Go.Proofs.YtcgjejpekefjdaaDoor
open Go.RowKit Go.Proofs.YtcgjejpekefjdaaDoor.Crc
/-- Numbers of one's own. -/
def cellsU (zs : List Nat) : List Value := zs.map fun (z : Nat) => Value.int .u64 (z : Int)
theorem cellsU_length (zs : List Nat) : (cellsU zs).length = zs.length := by unfold cellsU; simp
theorem cellsU_append (xs ys : List Nat) : cellsU (xs ++ ys) = cellsU xs ++ cellsU ys := by unfold cellsU; simp
theorem cellsU_one (zs : List Nat) : ∀ u ∈ cellsU zs, u.oneCell' = true := by
  intro u hu
  unfold cellsU at hu
  obtain ⟨c, _, rfl⟩ := List.mem_map.1 hu
  rfl
def OwnU (w : World) (base : Nat) (v : Value) (zs : List Nat) : Prop := w.ownsRow base 49 1 v zs.length (cellsU zs)
/-- Numbers that lie somewhere. -/
def U64s (w : World) (A : Option Addr) (zs : List Nat) : Prop := ∀ k, (hk : k < zs.length) → ∃ ad, A = some ad ∧ w.cell? (ad.add k) = some (.int .u64 (zs[k] : Int))
theorem U64s.kept {S : Nat → Prop} {w w' : World} {A : Option Addr} {zs : List Nat} (h : U64s w A zs) (hk : Kept S w w') (hs : ∀ ad, A = some ad → ¬ S ad.block) : U64s w' A zs := by
  intro k hl
  obtain ⟨ad, hA, hx⟩ := h k hl
  exact ⟨ad, hA, hk.cell hx (by rw [add_block]; exact hs ad hA)⟩
theorem U64s.below {w w' : World} {A : Option Addr} {zs : List Nat} (h : U64s w A zs) (hb : Below w.heap.size w w') : U64s w' A zs := h.kept (S := fun _ => False) (Kept.of_below hb) (fun _ _ x => x)
theorem OwnU.nil (w : World) (base : Nat) : OwnU w base (.slice none 0 0) [] := World.ownsRow_nil _ _ _ _
theorem OwnU.kept {S : Nat → Prop} {w w' : World} {base : Nat} {v : Value} {zs : List Nat} (h : OwnU w base v zs) (hk : Kept S w w') (hs : ∀ k, v.ownBlock = some k → ¬ S k) : OwnU w' base v zs := by
  refine ⟨h.1, ?_⟩
  rcases h.2 with h2 | ⟨g, cap, cur, h1, h2, h3, r⟩
  · exact .inl h2
  · exact .inr ⟨g, cap, cur, h1, h2, by rw [hk.block g ((Array.getElem?_eq_some_iff.1 h3).1) (hs g (by rw [h1]; rfl))]; exact h3, r⟩
theorem OwnU.below {w w' : World} {base : Nat} {v : Value} {zs : List Nat} (h : OwnU w base v zs) (hb : Below w.heap.size w w') : OwnU w' base v zs := h.kept (S := fun _ => False) (Kept.of_below hb) (fun _ _ x => x)
theorem OwnU.lt {w : World} {base : Nat} {v : Value} {zs : List Nat} (h : OwnU w base v zs) : ∀ k, v.ownBlock = some k → base ≤ k ∧ k < w.heap.size := World.ownsRow.lt h
theorem OwnU.sl {w : World} {base : Nat} {v : Value} {zs : List Nat} (h : OwnU w base v zs) : ∃ A c, v = .slice A zs.length c ∧ (A = none → c = 0) ∧ U64s w A zs := by
  rcases h.2 with ⟨h1, h2⟩ | ⟨g, cap, cur, h1, h2, h3, h4, h5, h6, h7⟩
  · refine ⟨none, 0, by rw [h1, h2], fun _ => rfl, fun k hk => ?_⟩
    rw [h2] at hk; exact absurd hk (Nat.not_lt_zero _)
  · refine ⟨_, cap, h1, (fun h => by cases h), fun i hi => ⟨_, rfl, ?_⟩⟩
    exact World.ownsRow.cells h (g := g) (by rw [h1]; rfl) i (.int .u64 (zs[i] : Int)) (by unfold cellsU; simp [hi])
theorem infoU64 : (Tryd.prog.info? 49).map (fun i => (i.zero, i.size, i.bytes)) = some (some (.int .u64 0), 1, 8) := by kernel_rfl
/-- append of numbers onto numbers of one's own. -/
theorem wpList_append_u64s {w : World} {ops : Array Oper} {rest : List Oper} {o : Oper} {a : Act} {Q : Exit → Act → World → Prop} (hgd : o.guard = none) (s x : Operand)
    (ho : o.op = .call { callee := .builtin .append, args := #[s, x], argTypes := #[22, 22] })
    (base : Nat) (v : Value) (zs : List Nat) (hs : a.eval s = v) (hown : OwnU w base v zs)
    (ad : Addr) (m cx : Nat) (ys : List Nat) (hx : a.eval x = .slice (some ad) m cx) (hm : m = ys.length) (hU : U64s w (some ad) ys)
    (hbytes : zs.length + ys.length ≤ 1000000000000) (hbase : base ≤ w.heap.size)
    (h : ∀ v' w', Hid (OwnU w' base v' (zs ++ ys) ∧ w.grownBy w' v.ownBlock) → wpList Tryd.prog ops Q rest (a.put o.dst v') w') : wpList Tryd.prog ops Q (o :: rest) a w := by
  obtain ⟨i, hi, hz0, hz1, hz2⟩ := info_parts infoU64
  subst hm
  refine wpList_append_own w hgd s x _ ho base 49 i (.int .u64 0) 1 8 Tryd.underlying22 hi hz0 hz1 hz2 rfl (by decide) v zs.length _ hs hown ad ys.length cx (cellsU ys) hx (by rw [cellsU_length, Nat.mul_one]) ?_ (cellsU_one ys) (by unfold maxLen; omega) (by omega) hbase ?_
  · intro j u hj
    have hlt : j < ys.length := by have := (List.getElem?_eq_some_iff.1 hj).1; rwa [cellsU_length] at this
    obtain ⟨ad', hA, hc⟩ := hU j hlt
    cases hA
    rw [hc]
    unfold cellsU at hj
    rw [List.getElem?_map, List.getElem?_eq_getElem hlt] at hj
    simpa using hj
  · intro v' w' hown' hg hnn
    refine h v' w' ⟨?_, hg⟩
    unfold OwnU
    rw [List.length_append, cellsU_append]
    exact hown'
/-- append of one number, as one step of a region. -/
theorem step_append_u64 {ops : Array Oper} {o : Oper} {a : Act} {w : World} {K : Act → World → Prop} {Q : Exit → Act → World → Prop} {E : Prop} (hgd : o.guard = none) (s x : Operand)
    (ho : o.op = .call { callee := .builtin .append, args := #[s, x], argTypes := #[22, 22] })
    (base : Nat) (v : Value) (zs : List Nat) (hs : a.eval s = v) (hown : OwnU w base v zs)
    (ad : Addr) (cx : Nat) (z : Nat) (hx : a.eval x = .slice (some ad) 1 cx) (hcell : w.cell? (ad.add 0) = some (.int .u64 (z : Int)))
    (hbytes : zs.length ≤ 1000000) (hbase : base ≤ w.heap.size)
    (h : ∀ v' w', Hid (OwnU w' base v' (zs ++ [z]) ∧ w.grownBy w' v.ownBlock) → K (a.put o.dst v') w') : if Region.wanted o (yielded ops a.tmps) = true then Oper.wp Tryd.prog o a w K Q else E := by
  obtain ⟨i, hi, hz0, hz1, hz2⟩ := info_parts infoU64
  have hw : Region.wanted o (yielded ops a.tmps) = true := by simp [Region.wanted, hgd]
  rw [if_pos hw]
  refine wp_append_own w s x _ ho base 49 i (.int .u64 0) 1 8 Tryd.underlying22 hi hz0 hz1 hz2 rfl (by decide) v zs.length _ hs hown ad 1 cx [.int .u64 (z : Int)] hx rfl ?_ (by simp; rfl) (by unfold maxLen; omega) (by omega) hbase ?_
  · intro j u hj
    match j, hj with
    | 0, hj => simp at hj; rw [hcell, hj]
    | j + 1, hj => simp at hj
  · intro v' w' hown' hg hnn
    refine h v' w' ⟨?_, hg⟩
    unfold OwnU
    rw [List.length_append, cellsU_append]
    exact hown'
end Go.Proofs.YtcgjejpekefjdaaDoor
