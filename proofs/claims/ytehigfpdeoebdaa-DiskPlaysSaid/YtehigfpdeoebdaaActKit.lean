/- For the rows: how an argument of the disk's acts reads. -/
import Derived.Test.YtehigfpdeoebdaaLossKit
import Derived.Test.YtehigfpdeoebdaaDiskSt
import Derived.Deep.Slices
set_option linter.unusedSimpArgs false
set_option linter.unusedVariables false
namespace Go.Proofs.Ytehigfpdeoebdaa
open Go.RowKit Go.ChangeShapes Go.WideShapes Go.Proofs.Ytehigfpdeoebdaa.Dsk
instance : Inhabited ActV := ⟨⟨0, 0, 0, 0, false, none, 0, [], 0, 0⟩⟩
theorem actFields : (Try.prog.fieldsOf 35).map (fun f => (f.type, f.offset)) = #[(3, 0), (3, 1), (3, 2), (5, 3), (4, 4), (33, 5)] := by kernel_rfl
theorem actUnder : Try.prog.underlying 35 = some (.struct (Try.prog.fieldsOf 35)) := by kernel_rfl
theorem actCells : Try.prog.cellsOf 35 = 8 := by kernel_rfl
theorem cellsInt : Try.prog.cellsOf 3 = 1 := by kernel_rfl
theorem cellsU8 : Try.prog.cellsOf 5 = 1 := by kernel_rfl
theorem cellsBool : Try.prog.cellsOf 4 = 1 := by kernel_rfl
theorem cellsLoss : Try.prog.cellsOf 33 = 3 := by kernel_rfl
theorem cellsBools : Try.prog.cellsOf 31 = 1 := by kernel_rfl
section
variable {H : Type} {enc : TypeId × Value → H} {W : World} {base : Nat} {held : Bool}
theorem trod_i64 {n : Nat} {v : Value} {y : DataW H × List MemPlace} (h : DataW.trod enc Try.prog W base (fun _ => true) held n 3 [v] = some y) : ∃ z : Int, v = .int .i64 z ∧ in64 z := by
  obtain ⟨x, hx1, hx2, hx3⟩ := DataW.trod_int Try.underlying3 h
  refine ⟨x, by simpa using hx1, ?_⟩
  simpa [in64, Lit.wf, IntKind.min, IntKind.max, IntKind.signed, IntKind.bits] using hx3
theorem trod_u8 {n : Nat} {v : Value} {y : DataW H × List MemPlace} (h : DataW.trod enc Try.prog W base (fun _ => true) held n 5 [v] = some y) : ∃ z : UInt8, v = .int .u8 (z.toNat : Int) := by
  obtain ⟨x, hx1, hx2, hx3⟩ := DataW.trod_int Try.underlying5 h
  have hw : 0 ≤ x ∧ x ≤ 255 := by simpa [Lit.wf, IntKind.min, IntKind.max, IntKind.signed, IntKind.bits] using hx3
  obtain ⟨z, hz⟩ := u8_of x hw.1 hw.2
  exact ⟨z, by rw [hz]; simpa using hx1⟩
theorem open_lossC {n : Nat} {c5 c6 c7 : Value} {y : DataW H × List MemPlace} (h : DataW.trod enc Try.prog W base (fun _ => true) held n 33 [c5, c6, c7] = some y) :
    ∃ (A : Option Addr) (c : Nat) (K : List Bool) (x z : Int), c5 = .slice A K.length c ∧ c6 = .int .i64 x ∧ c7 = .int .i64 z ∧ Bools W A K ∧ K.length ≤ 9223372036854775807 ∧ in64 x ∧ in64 z := by
  obtain ⟨ys, n', hn', hy, hlen, hyl, hf⟩ := DataW.trod_struct fields25 h
  have hsz : (Try.prog.fieldsOf 33).size = 3 := by have := congrArg Array.size types25; simpa using this
  generalize hfs : Try.prog.fieldsOf 33 = fs at *
  obtain ⟨f0, f1, f2, rfl⟩ := Joins.array3 hsz
  have ht := types25
  have ho := one25
  rw [hfs] at ht ho
  simp only [List.map_toArray, List.map_cons, List.map_nil, Array.mk.injEq, List.cons.injEq, and_true] at ht
  obtain ⟨e0, e1, e2⟩ := ht
  obtain ⟨o0, k0⟩ := Deep.hone_of ho 0 f0 rfl
  obtain ⟨o1, k1⟩ := Deep.hone_of ho 1 f1 rfl
  obtain ⟨o2, k2⟩ := Deep.hone_of ho 2 f2 rfl
  have g0 := hf 0 f0 rfl
  have g1 := hf 1 f1 rfl
  have g2 := hf 2 f2 rfl
  rw [o0, k0, e0] at g0
  rw [o1, k1, e1] at g1
  rw [o2, k2, e2] at g2
  match ys, hyl with
  | [y0, y1, y2], _ =>
    simp only [List.drop_zero, List.take_succ_cons, List.take_zero, List.drop_succ_cons, List.getElem?_cons_zero, List.getElem?_cons_succ] at g0 g1 g2
    obtain ⟨x, rfl, wx⟩ := trod_i64 g1
    obtain ⟨z, rfl, wz⟩ := trod_i64 g2
    rcases Deep.open_bools Try.underlying31 Try.underlying4 cellsBool g0 with ⟨hc, _⟩ | ⟨a, len, cap, B, hc, _, hl, hm, _, hcell⟩
    · obtain rfl : c5 = .slice none 0 0 := by simpa using hc
      exact ⟨none, 0, [], x, z, rfl, rfl, rfl, fun k hk => absurd hk (by simp), by simp, wx, wz⟩
    · obtain rfl : c5 = .slice (some a) len cap := by simpa using hc
      refine ⟨some a, cap, (List.range len).map B, x, z, by simp, rfl, rfl, fun k hk => ⟨a, rfl, ?_⟩, ?_, wx, wz⟩
      · have hk' : k < len := by simpa using hk
        rw [hcell k (by omega)]; simp
      · unfold maxLen at hm; simp; omega
theorem open_act {n : Nat} {cs : List Value} {y : DataW H × List MemPlace} (hl : cs.length = 8) (h : DataW.trod enc Try.prog W base (fun _ => true) held n 35 cs = some y) :
    ∃ x : ActV, cs = actL x ∧ ActOk W x := by
  obtain ⟨ys, n', hn', hy, hlen, hyl, hf⟩ := DataW.trod_struct actUnder h
  have ha := actFields
  have hsz : (Try.prog.fieldsOf 35).size = 6 := by have := congrArg Array.size ha; simpa using this
  generalize hfs : Try.prog.fieldsOf 35 = fs at *
  obtain ⟨fl⟩ := fs
  match fl, hsz with
  | [f0, f1, f2, f3, f4, f5], _ =>
    simp only [List.map_toArray, List.map_cons, List.map_nil, Array.mk.injEq, List.cons.injEq, and_true, Prod.mk.injEq] at ha
    obtain ⟨⟨e0, o0⟩, ⟨e1, o1⟩, ⟨e2, o2⟩, ⟨e3, o3⟩, ⟨e4, o4⟩, ⟨e5, o5⟩⟩ := ha
    have g0 := hf 0 f0 rfl
    have g1 := hf 1 f1 rfl
    have g2 := hf 2 f2 rfl
    have g3 := hf 3 f3 rfl
    have g4 := hf 4 f4 rfl
    have g5 := hf 5 f5 rfl
    rw [e0, o0, cellsInt] at g0
    rw [e1, o1, cellsInt] at g1
    rw [e2, o2, cellsInt] at g2
    rw [e3, o3, cellsU8] at g3
    rw [e4, o4, cellsBool] at g4
    rw [e5, o5, cellsLoss] at g5
    match ys, hyl, cs, hl with
    | [y0, y1, y2, y3, y4, y5], _, [c0, c1, c2, c3, c4, c5, c6, c7], _ =>
      simp only [List.drop_zero, List.take_succ_cons, List.take_zero, List.drop_succ_cons, List.getElem?_cons_zero, List.getElem?_cons_succ] at g0 g1 g2 g3 g4 g5
      obtain ⟨x0, rfl, w0⟩ := trod_i64 g0
      obtain ⟨x1, rfl, w1⟩ := trod_i64 g1
      obtain ⟨x2, rfl, w2⟩ := trod_i64 g2
      obtain ⟨x3, rfl⟩ := trod_u8 g3
      obtain ⟨b, hb1, _⟩ := DataW.trod_bool Try.underlying4 g4
      obtain rfl : c4 = .bool b := by simpa using hb1
      obtain ⟨A, c, K, x5, x6, rfl, rfl, rfl, hK, hKl, w5, w6⟩ := open_lossC g5
      exact ⟨⟨x0, x1, x2, x3, b, A, c, K, x5, x6⟩, rfl, ⟨w0, w1, w2, w5, w6, hK, hKl⟩⟩
theorem open_acts {a : Option Addr} {len cap : Nat} {d : DataW H} {ps : List MemPlace} (h : DataW.Trod enc Try.prog W base (fun _ => true) held 22 (.slice a len cap) d ps) :
    ∃ l : List ActV, len = l.length ∧ ActsAt W a l ∧ l.length ≤ 9223372036854775807 := by
  obtain ⟨fuel, hf⟩ := h
  rcases Deep.open_slice Try.underlying22 hf with ⟨hc, _⟩ | ⟨x, l, c, m, n, D, Pl, hc, _, hl, hm, hmm, _, hx⟩
  · simp [Value.cells] at hc
    obtain ⟨rfl, rfl, rfl⟩ := hc
    exact ⟨[], rfl, fun j hj => absurd hj (by simp), by simp⟩
  · simp [Value.cells] at hc
    obtain ⟨rfl, rfl, rfl⟩ := hc
    simp only [if_true] at hmm
    have hxa : ∀ i, i < len → ∃ v : ActV, (∀ k, k < 8 → W.cell? ((x.add (i * 8)).add k) = (actL v)[k]?) ∧ ActOk W v := fun i hi => by
      obtain ⟨cs, h1, h2⟩ := hx i (by omega)
      rw [actCells] at h1
      obtain ⟨_, hlen, hcell⟩ := World.cells?_some h1
      obtain ⟨v, rfl, hv⟩ := open_act hlen h2
      exact ⟨v, hcell, hv⟩
    obtain ⟨V, hV⟩ := Deep.choose_lt hxa
    unfold maxLen at hm
    refine ⟨(List.range len).map V, by simp, fun j hj => ?_, by simp; omega⟩
    have hj' : j < len := by simpa using hj
    have hsp : ∃ b o, x = ⟨b, o, none⟩ := by
      obtain ⟨h1, _⟩ := hV 0 (by omega)
      have h2 := h1 0 (by decide)
      obtain ⟨b, o, s⟩ := x
      cases s with
      | none => exact ⟨b, o, rfl⟩
      | some s =>
        exfalso
        simp only [World.cell?, Addr.add, if_true, Nat.zero_mul] at h2
        split at h2
        · first | cases h2 | (rw [if_pos rfl] at h2; cases h2)
        · cases h2
    obtain ⟨b, o, rfl⟩ := hsp
    obtain ⟨h1, h2⟩ := hV j hj'
    refine ⟨b, o, rfl, ?_, by simpa using h2⟩
    intro k v hk
    have e : ((List.range len).map V)[j] = V j := by simp
    rw [e] at hk
    have hk8 : k < 8 := by have := (List.getElem?_eq_some_iff.1 hk).1; simpa [actL] using this
    have := h1 k hk8
    rw [Addr.add_lit, Addr.add_lit] at this
    rw [this, hk]
end
end Go.Proofs.Ytehigfpdeoebdaa
