/- For the rows: how an argument of the document's nodes reads. -/
import Derived.Test.YtibmlgkakeakcaaDoorG1
import Derived.Test.YtibmlgkakeakcaaDoorG3
import Derived.Deep.Strs
import Derived.Lib.SmallJoins
import Derived.ChangeArms
import Derived.Lib.SlBytesConst
set_option linter.unusedSimpArgs false
set_option linter.unusedVariables false
namespace Go.Proofs.YtibmlgkakeakcaaDoor
open Go.RowKit Go.ChangeShapes Go.WideShapes Go.Proofs.YtibmlgkakeakcaaDoor.Crc
theorem bstr_of (s : ByteArray) : bstr s.data.toList = s := by unfold bstr; simp
theorem open_node {H : Type} {enc : TypeId × Value → H} {P : Program} {W : World} {base b0 : Nat} {held : Bool} {r : Reach} {t tb ts te tr tq tu ti tj : TypeId} {v : Value} {d : DataW H} {ps : List MemPlace} {fs : Array Field}
    (hs : P.underlying t = some (.struct fs)) (hty : fs.map (·.type) = #[tb, ts, tr, ti]) (hone : Deep.oneCellFields P fs = true) (hC : P.cellsOf t = 4)
    (htb : P.underlying tb = some .bool) (hts : P.underlying ts = some (.slice te)) (hte : P.underlying te = some .string) (cte : P.cellsOf te = 1)
    (htr : P.underlying tr = some (.slice tq)) (htq : P.underlying tq = some (.slice tu)) (htu : P.underlying tu = some (.int .u8)) (ctq : P.cellsOf tq = 1) (ctu : P.cellsOf tu = 1)
    (hti : P.underlying ti = some (.slice tj)) (htj : P.underlying tj = some (.int .i64)) (ctj : P.cellsOf tj = 1)
    (hv : Value.okWide P W r b0 t v) (h : DataW.Trod enc P W base (fun _ => true) held t v d ps) :
    ∃ (n : NodeM) (kA : Option Addr) (kc : Nat) (vA : Option Addr) (vc : Nat) (iA : Option Addr) (ic : Nat), v = .agg #[.bool n.leaf, .slice kA n.keys.length kc, .slice vA n.vals.length vc, .slice iA n.kids.length ic] ∧ NodeAt W n kA kc vA vc iA ic := by
  have hsize : fs.size = 4 := by have := congrArg Array.size hty; simpa using this
  obtain ⟨f0, f1, f2, f3, rfl⟩ := Joins.array4 hsize
  simp only [List.map_toArray, List.map_cons, List.map_nil, Array.mk.injEq, List.cons.injEq, and_true] at hty
  obtain ⟨e0, e1, e2, e3⟩ := hty
  obtain ⟨v0, v1, v2, v3, y0, y1, y2, y3, n, rfl, rfl, rfl, h0, h1, h2, h3⟩ := Joins.open_agg4 hs hone hC hv h
  rw [e0] at h0
  rw [e1] at h1
  rw [e2] at h2
  rw [e3] at h3
  obtain ⟨b, hb1, _⟩ := DataW.trod_bool htb h0
  obtain rfl : v0 = .bool b := by simpa using hb1
  have K : ∃ (ks : List (List UInt8)) (A : Option Addr) (c : Nat), v1 = .slice A ks.length c ∧ ValsAt W A (strs ks) ∧ (A = none → c = 0) ∧ ks.length ≤ c ∧ c ≤ 9223372036854775807 := by
    rcases Deep.open_strs hts hte cte h1 with ⟨hc, _⟩ | ⟨a, len, cap, m, Sx, hc, _, hl, hcap, hm, _, hcell⟩
    · obtain rfl : v1 = .slice none 0 0 := by simpa using hc
      exact ⟨[], none, 0, rfl, ValsAt.nil _ _, fun _ => rfl, Nat.le_refl _, by omega⟩
    · obtain rfl : v1 = .slice (some a) len cap := by simpa using hc
      simp only [if_true] at hm
      unfold maxLen at hcap
      refine ⟨(List.range len).map fun i => (Sx i).data.toList, some a, cap, by simp, fun k hk => ⟨a, rfl, ?_⟩, fun h => (by cases h), by simpa using hl, by omega⟩
      have hk' : k < len := by simpa [strs] using hk
      rw [(hcell k (by omega)).1, strs_get _ _ hk, atL_eq _ _ (by simpa using hk')]
      simp [strV, bstr_of]
  have R : ∃ (vs : List (List UInt8)) (A : Option Addr) (c : Nat), v2 = .slice A vs.length c ∧ RowsB W A vs ∧ (A = none → c = 0) ∧ vs.length ≤ c ∧ c ≤ 9223372036854775807 := by
    have hsl : ∃ A l c, v2 = .slice A l c ∧ c ≤ 9223372036854775807 := by
      rcases Deep.open_int_rows htr htq htu ctq ctu h2 with ⟨hc, _⟩ | ⟨a, len, cap, A, L, C, Z, hc, _, hl, hm, _⟩
      · exact ⟨none, 0, 0, by simpa using hc, by omega⟩
      · unfold maxLen at hm
        exact ⟨some a, len, cap, by simpa using hc, by omega⟩
    obtain ⟨A, l, c, rfl, hcm⟩ := hsl
    obtain ⟨ls, rfl, q1, q2, q3, q4⟩ := open_rows htr htq htu ctq ctu (show DataW.Trod enc P W base (fun _ => true) held tr (.slice A l c) y2.1 y2.2 from ⟨n, by simpa [Value.cells] using h2⟩)
    exact ⟨ls, A, c, rfl, q1, q2, q3, hcm⟩
  have I : ∃ (is : List Int) (A : Option Addr) (c : Nat), v3 = .slice A is.length c ∧ ValsAt W A (ints is) ∧ (A = none → c = 0) ∧ is.length ≤ c ∧ c ≤ 9223372036854775807 := by
    rcases open_ints hti htj ctj h3 with ⟨hc, _⟩ | ⟨a, len, cap, zs, hc, _, hl, hcap, hz, _, hcell, _⟩
    · obtain rfl : v3 = .slice none 0 0 := by simpa using hc
      exact ⟨[], none, 0, rfl, ValsAt.nil _ _, fun _ => rfl, Nat.le_refl _, by omega⟩
    · obtain rfl : v3 = .slice (some a) len cap := by simpa using hc
      simp only [if_true] at hz
      unfold maxLen at hcap
      refine ⟨zs.take len, some a, cap, by simp; omega, fun k hk => ⟨a, rfl, ?_⟩, fun h => (by cases h), by simp; omega, by omega⟩
      have hk' : k < (zs.take len).length := by simpa [ints_length] using hk
      have hk2 : k < len ∧ k < zs.length := by simpa [Nat.lt_min] using hk'
      rw [hcell k (by omega), ints_get _ _ hk, atI_eq _ _ hk', List.getD_eq_getElem?_getD, List.getElem?_eq_getElem hk2.2]
      simp [intV]
  obtain ⟨ks, kA, kc, rfl, k1, k2, k3, k4⟩ := K
  obtain ⟨vs, vA, vc, rfl, q1, q2, q3, q4⟩ := R
  obtain ⟨is, iA, ic, rfl, i1, i2, i3, i4⟩ := I
  exact ⟨⟨b, ks, vs, is⟩, kA, kc, vA, vc, iA, ic, rfl, k1, q1, i1, ⟨k2, k3, k4⟩, ⟨q2, q3, q4⟩, ⟨i2, i3, i4⟩⟩
theorem nodeR_fields : Tryd.prog.underlying 26 = some (.struct (Tryd.prog.fieldsOf 26)) := by kernel_rfl
theorem nodeR_types : (Tryd.prog.fieldsOf 26).map (·.type) = #[4, 22, 23, 24] := by kernel_rfl
theorem nodeR_one : Deep.oneCellFields Tryd.prog (Tryd.prog.fieldsOf 26) = true := by kernel_rfl
end Go.Proofs.YtibmlgkakeakcaaDoor
/- For the walk of node.Parse: lemmas. -/
set_option linter.unusedSimpArgs false
set_option linter.unusedVariables false
namespace Go.Proofs.YtibmlgkakeakcaaDoor
open Go.RowKit Go.Proofs.YtibmlgkakeakcaaDoor.Crc
theorem results_cellTmp {fn : Func} {t : TypeId} {k k2 r : Nat} {w : World} {v v2 : Value} (hf : fn.results = #[.cell k t, .tmp k2]) (tmps : Array Value) (hp : tmps.getD k undef = .pointer (some ⟨r, 0, none⟩)) (hp2 : tmps.getD k2 undef = v2)
    (h : (loadVar t ⟨r, 0, none⟩).run Tryd.prog w = .ok v w) : (results fn tmps).run Tryd.prog w = .ok (.tuple #[v, v2]) w := by
  rw [Array.getD_eq_getD_getElem?] at hp hp2
  simp [results, hf, hp, hp2, asAddr, h]
/-- The rows of a list: those that lie ahead, of another block. -/
theorem cellB_key (n : NodeM) (t : Nat) : cellB n t = textB (atL n.keys t) ++ (if n.leaf then textB (atL n.vals t) else fixB (atI n.kids t).toNat 4) := rfl
theorem atL_cells (n : NodeM) (t : Nat) (h : t < n.keys.length) : atL (cellsB n) t = cellB n t := by
  rw [atL_eq _ _ (by rw [cellsB_length]; exact h)]
  unfold cellsB
  simp
theorem node2_boxD (w : World) (m : Nat) (cs cs' : Array Value) (T T' : TypeId) :
    Below w.heap.size w (((w.alloc (.cells cs T)).drewN m).alloc (.cells cs' T')) ∧
    (((w.alloc (.cells cs T)).drewN m).alloc (.cells cs' T')).heap[w.heap.size]? = some (.cells cs T (0, 0)) ∧
    (((w.alloc (.cells cs T)).drewN m).alloc (.cells cs' T')).heap[w.heap.size + 1]? = some (.cells cs' T' (0, 0)) := by
  have hd := kept_drewN (w.alloc (.cells cs T)) m
  have hs1 : (w.alloc (.cells cs T)).heap.size = w.heap.size + 1 := by simp
  have a0 := heap_alloc_new w (.cells cs T)
  have hsz : ((w.alloc (.cells cs T)).drewN m).heap.size = w.heap.size + 1 := by
    rw [← hs1]; simp
  have b1 := (Below.refl (w.heap.size + 1) ((w.alloc (.cells cs T)).drewN m)).alloc (by omega) (.cells cs' T')
  have a1 := heap_alloc_new ((w.alloc (.cells cs T)).drewN m) (.cells cs' T')
  rw [hsz] at a1
  have c0 : ((w.alloc (.cells cs T)).drewN m).heap[w.heap.size]? = some (.cells cs T (0, 0)) := (hd.block _ (by omega)).trans a0
  exact ⟨(((Below.refl w.heap.size w).alloc (Nat.le_refl _) _).trans (hd.mono (by omega))).alloc (by omega) _, (b1.block _ (by omega)).trans c0, a1⟩
theorem OwnB.caps2 {w : World} {base n c : Nat} {A : Option Addr} {l : List UInt8} (h : OwnB w base (.slice A n c) l) : n ≤ c ∧ c ≤ 9223372036854775807 := by
  rcases h.2 with ⟨h1, _⟩ | ⟨g, cap, cur, h1, _, _, h4, h5, _⟩
  · cases h1; exact ⟨Nat.le_refl _, by omega⟩
  · cases h1; exact ⟨by have := h.len; omega, by unfold maxLen at h5; omega⟩
theorem OwnRL.rowAt {w wr : World} {base B p n c : Nat} {A : Option Addr} {ls : List (List UInt8)} {cs : Array Value} (h : OwnRL w base (.slice A n c) ls) (hp : w.heap[p]? = some (.cells cs 28 (0, 0))) (hB : w.heap.size = B) (hk : Kept (· = p) w wr) (i : Nat) (hi : i < ls.length) :
    ∃ g o Ai ci, A = some ⟨g, o, none⟩ ∧ wr.cell? ⟨g, o + i, none⟩ = some (.slice Ai (atL ls i).length ci) ∧ SlB wr Ai (atL ls i).length ci (atL ls i) ∧ ci ≤ 9223372036854775807 ∧ ∀ ad, Ai = some ad → ad.block < wr.heap.size ∧ (ad.block < B ∧ ad.block ≠ p) := by
  have hne : ∀ k cs' t, k = p → w.heap[k]? = some (.cells cs' t (0, 0)) → t = 28 := fun k cs' t e hc => by
    rw [e, hp] at hc; injection hc with hc; injection hc with _ h4 _; exact h4.symm
  have h' : OwnRL wr base (.slice A n c) ls := h.keptBy hk (fun k cs' hS hc => absurd (hne k cs' _ hS hc) (by decide)) (fun k cs' hS hc => absurd (hne k cs' _ hS hc) (by decide))
  rcases h'.form with ⟨_, h2⟩ | ⟨g, c', e1, _⟩
  · subst h2; simp at hi
  · obtain ⟨rfl, rfl, rfl⟩ : A = some ⟨g, 0, none⟩ ∧ n = ls.length ∧ c = c' := by simpa using e1
    obtain ⟨us, h1, h2⟩ := h
    obtain ⟨us', g1, g2⟩ := h'
    obtain ⟨Ai, ci, h3, h4⟩ := g2 i hi
    obtain ⟨Aj, cj, k3, k4⟩ := h2 i hi
    have hcell := World.ownsRow.cells g1 rfl i _ h3
    have hcell0 := World.ownsRow.cells h1 rfl i _ k3
    rw [Addr.add_lit] at hcell hcell0
    simp only [Nat.zero_add] at hcell hcell0
    have hgp : g ≠ p := fun e => by
      obtain ⟨cur, hc⟩ := ownsRow_block h1 (show (Value.slice (some ⟨g, 0, none⟩) ls.length c).ownBlock = some g from rfl)
      exact absurd (hne g cur _ e hc) (by decide)
    have heq := hk.cell hcell0 hgp
    rw [hcell] at heq
    obtain ⟨rfl, rfl⟩ : Ai = Aj ∧ ci = cj := by simpa using heq
    have hcc := hcell
    rw [← atL_eq ls i hi] at hcc h4
    obtain ⟨q1, q2⟩ := h4.caps2
    refine ⟨g, 0, Ai, ci, rfl, by rw [Nat.zero_add]; exact hcc, ⟨rfl, h4.bytes, q1, Nat.le_trans q1 q2, fun e => by subst e; exact h4.nilcap.2.1⟩, q2, fun ad hA => ?_⟩
    · subst hA
      have hb := World.ownsRow.lt k4 ad.block rfl
      obtain ⟨cur, hc⟩ := ownsRow_block k4 (show (Value.slice (some ad) ls[i].length ci).ownBlock = some ad.block from rfl)
      exact ⟨Nat.lt_of_lt_of_le hb.2 hk.size, by rw [← hB]; exact hb.2, fun e => absurd (hne ad.block cur _ e hc) (by decide)⟩
theorem RdLB.drew {D : Nat → Prop} {w : World} {r : Nat} {l : List UInt8} (h : RdLB D w r l) : RdLB D w.drew r l := RdLB.kept h ((Kept.refl (fun _ => False) w).drew) (fun k _ hS => hS.elim)
theorem PaL.call {D : Nat → Prop} {B p r : Nat} {w1 : World} {lf : Bool} {ks vs : List (List UInt8)} {is : List Int} {x1 x2 x3 : Value} {w w7 : World} {l : List UInt8} (h : PaL B p w1 lf ks vs is x1 x2 x3 w) (hr : RdLB D w r l) (hrB : B ≤ r) (hk : Kept (· = r) w.drew w7) : PaL B p w1 lf ks vs is x1 x2 x3 w7 := by
  obtain ⟨cs, hc⟩ := hr.blk
  exact h.keptR (⟨hk.os, hk.tape, hk.output, hk.size, hk.block⟩ : Kept (· = r) w w7) hrB hc
theorem ValsAt.one {w : World} {g : Nat} {v : Value} {T : TypeId} {fz : Nat × Nat} (h : w.heap[g]? = some (.cells #[v] T fz)) : ValsAt w (some ⟨g, 0, none⟩) [v] := by
  intro k hk
  have e : k = 0 := by simpa using hk
  subst e
  refine ⟨_, rfl, ?_⟩
  rw [Addr.add_lit, cell_of_row _ _ _ _ _ _ h]
  rfl
theorem OwnVs.at' {w : World} {base : Nat} {t : TypeId} {A : Option Addr} {n c : Nat} {vs : List Value} (h : OwnVs w base t (.slice A n c) vs) : n = vs.length ∧ ValsAt w A vs ∧ (A = none → c = 0) ∧ n ≤ c ∧ c ≤ 9223372036854775807 := by
  obtain ⟨A1, c1, e, h1, h2, h3, h4, _⟩ := h.sl
  obtain ⟨rfl, rfl, rfl⟩ : A = A1 ∧ n = vs.length ∧ c = c1 := by simpa using e
  exact ⟨rfl, h2, h1, h3, h4⟩
/-- What was read: a node in memory, whatever turns besides. -/
theorem PaL.node {S : Nat → Prop} {B p t1 t2 t3 c1 c2 c3 : Nat} {A1 A2 A3 : Option Addr} {w1 : World} {lf : Bool} {ks vs : List (List UInt8)} {is : List Int} {w w' : World} (h : PaL B p w1 lf ks vs is (.slice A1 t1 c1) (.slice A2 t2 c2) (.slice A3 t3 c3) w) (hk : Kept S w w')
    (hs : ∀ k cs t fz, S k → w.heap[k]? = some (.cells cs t fz) → t = 28) : NodeAt w' ⟨lf, ks, vs, is⟩ A1 c1 A2 c2 A3 c3 ∧ t1 = ks.length ∧ t2 = vs.length ∧ t3 = is.length := by
  have k' : OwnVs w' B 9 (.slice A1 t1 c1) (strs ks) := h.k.keptT hk (fun k cs hS hc => absurd (hs _ _ _ _ hS hc) (by decide))
  have i' : OwnVs w' B 3 (.slice A3 t3 c3) (ints is) := h.i.keptT hk (fun k cs hS hc => absurd (hs _ _ _ _ hS hc) (by decide))
  have v' : OwnRF w' B (.slice A2 t2 c2) vs := h.v.kept hk (fun k cs hS hc => absurd (hs _ _ _ _ hS hc) (by decide)) (fun k cs fz hS hc => absurd (hs _ _ _ _ hS hc) (by decide))
  obtain ⟨a1, a2, a3, a4, a5⟩ := k'.at'
  obtain ⟨b1, b2, b3, b4, b5⟩ := i'.at'
  obtain ⟨d1, d2, d3, d4, d5⟩ := v'.rows
  rw [strs_length] at a1
  rw [ints_length] at b1
  subst a1 b1 d2
  exact ⟨⟨a2, d1, b2, ⟨a3, a4, a5⟩, ⟨d5, d3, d4⟩, ⟨b3, b4, b5⟩⟩, rfl, rfl, rfl⟩
theorem PaL.slc {B p : Nat} {w1 : World} {lf : Bool} {ks vs : List (List UInt8)} {is : List Int} {x1 x2 x3 : Value} {w : World} (h : PaL B p w1 lf ks vs is x1 x2 x3 w) : ∃ A1 t1 c1 A2 t2 c2 A3 t3 c3, x1 = .slice A1 t1 c1 ∧ x2 = .slice A2 t2 c2 ∧ x3 = .slice A3 t3 c3 := by
  obtain ⟨A1, c1, e1, _⟩ := h.k.sl
  obtain ⟨A3, c3, e3, _⟩ := h.i.sl
  obtain ⟨us, hu, _⟩ := h.v
  obtain ⟨A2, c2, e2, _⟩ := hu.sl
  exact ⟨_, _, _, _, _, _, _, _, _, e1, e2, e3⟩
theorem atL_mem_le {vs : List (List UInt8)} {m : Nat} (h : ∀ v ∈ vs, v.length ≤ m) (t : Nat) : (atL vs t).length ≤ m := by
  unfold atL
  rw [List.getD_eq_getElem?_getD]
  cases hv : vs[t]? with
  | none => simp
  | some v => exact h v (List.mem_of_getElem? hv)
theorem atI_mem {is : List Int} (h : ∀ k ∈ is, 0 ≤ k ∧ k ≤ 2147483647) (t : Nat) : 0 ≤ atI is t ∧ atI is t ≤ 2147483647 := by
  unfold atI
  rw [List.getD_eq_getElem?_getD]
  cases hv : is[t]? with
  | none => simp
  | some v => exact h v (List.mem_of_getElem? hv)
theorem takeL (ls : List (List UInt8)) (t : Nat) (h : t < ls.length) : ls.take (t + 1) = ls.take t ++ [atL ls t] := by
  rw [List.take_succ_eq_append_getElem h, atL_eq ls t h]
theorem takeI (ls : List Int) (t : Nat) (h : t < ls.length) : ls.take (t + 1) = ls.take t ++ [atI ls t] := by
  rw [List.take_succ_eq_append_getElem h, atI_eq ls t h]
def IfB (b : Bool) (P : Prop) : Prop := b = true → P
theorem kid_nat (k : Int) (h0 : 0 ≤ k) (h1 : k ≤ 2147483647) : ((k.toNat % 256 ^ 4 : Nat) : Int) = k := by
  have h : (256 : Nat) ^ 4 = 4294967296 := by decide
  rw [h, Nat.mod_eq_of_lt (by omega)]
  omega
end Go.Proofs.YtibmlgkakeakcaaDoor
/- The walk of node.Parse on a good page (printed by wip/gen/parsegen.py). -/
set_option linter.unusedSimpArgs false
set_option linter.unusedVariables false
namespace Go.Proofs.YtibmlgkakeakcaaDoor
open Go.RowKit Go.Proofs.YtibmlgkakeakcaaDoor.Crc
set_option maxRecDepth 10000 in
set_option maxHeartbeats 4000000 in
theorem Parse_inner {w : World} {ks vs : List (List UInt8)} {is : List Int} {l : List UInt8} {no b o c : Nat} (hn : RightM ⟨false, ks, vs, is⟩) (hkl : ks.length ≤ 1000) (hP : PgL l no 6 (cellsB ⟨false, ks, vs, is⟩)) (hno : no ≤ 2147483647) (hb : Bytes w (some ⟨b, o, none⟩) l) (hc : 256 ≤ c) (hcm : c ≤ 9223372036854775807) :
    Calls Tryd.prog 21 #[.slice (some ⟨b, o, none⟩) 256 c] w fun e w' => ∃ kB kd vB vd iB id, e = .returned (.tuple #[.agg #[.bool false, .slice kB ks.length kd, .slice vB vs.length vd, .slice iB is.length id], .int .i64 0]) ∧ Hid (NodeAt w' ⟨false, ks, vs, is⟩ kB kd vB vd iB id ∧ Below w.heap.size w w') := by
  have hKd := fun (w' : World) (h : Bytes w' (some ⟨b, o, none⟩) l) => Kind_calls (some ⟨b, o, none⟩) 256 c l w' hP.len.symm h hc hcm (by decide)
  rw [hP.kindP hno (by decide)] at hKd
  have HKd := Lib.hid hKd
  have HCe : Hid (∀ w', Bytes w' (some ⟨b, o, none⟩) l → Calls Tryd.prog 43 #[.slice (some ⟨b, o, none⟩) 256 c] w' fun e w2 => ∃ v, e = .returned v ∧ OwnRL w2 w'.heap.size v (cellsB ⟨false, ks, vs, is⟩) ∧ Below w'.heap.size w' w2) := fun w' h => Cells_calls b o c l no 6 _ w' h hP hno (by decide) hc hcm
  have HN := Lib.hid hn
  have HB := Lib.hid hb
  obtain ⟨nk, hnk⟩ : ∃ k, ks.length = k := ⟨_, rfl⟩
  have hvl : vs.length ≤ 1000 := by have h2 := hn.2; simp at h2; first | (rw [h2.2.2.1]; simp; done) | omega
  have hil : is.length ≤ 1000 := by have h2 := hn.2; simp at h2; first | (rw [h2.2.1]; simp; done) | omega
  have hnkl : nk ≤ 1000 := by omega
  have HK := Lib.hid hnk
  have HVL := Lib.hid hvl
  have HIL := Lib.hid hil
  have HT1 : Hid (∀ t, IfB false (vs.length = nk ∧ is = [] ∧ (atL vs t).length ≤ 49)) := fun t e => by
    have h2 := hn.2; simp at h2
    first | (cases e; done) | exact ⟨by omega, by simpa using h2.2.1, atL_mem_le h2.2.2 t⟩
  have HT0 : Hid (∀ t, IfB (!false) (is.length = nk ∧ vs = [] ∧ 0 ≤ atI is t ∧ atI is t ≤ 2147483647)) := fun t e => by
    have h2 := hn.2; simp at h2
    first | (cases e; done) | exact ⟨by omega, by simpa using h2.2.2.1, atI_mem h2.2.2.2.2 t⟩
  simp only [hnk]
  clear hKd hn hP hb hnk hkl hvl hil
  go_enter Tryd.func21, Tryd.ntmps21
  go_wp2_with (go_at_call 42; (with_reducible refine (HKd.out _ (HB.out.below ((Below.refl _ _).alloc (Nat.le_refl _) _))).mono ?_); rintro e w2 ⟨rfl, m2, rfl⟩; rw [show (((6 : UInt8).toNat : Nat) : Int) = 6 from rfl]; refine park ?_; intro q hq)
  refine hq.out ?_
  clear hq
  have HW1 := Lib.hid (node2_boxD w m2 #[Value.bool false, Value.slice none 0 0, Value.slice none 0 0, Value.slice none 0 0] #[Value.bool false, Value.slice none 0 0, Value.slice none 0 0, Value.slice none 0 0] 28 28)
  go_wp2_with (go_at_call 43; (with_reducible refine (HCe.out _ (HB.out.below HW1.out.1)).mono ?_); rintro e w3 ⟨v, rfl, hO, hB3⟩; refine park ?_; intro q hq)
  obtain ⟨h1, h2, h3⟩ := HW1.out
  obtain ⟨W1, hW1⟩ : ∃ W1, ((w.alloc (.cells #[Value.bool false, Value.slice none 0 0, Value.slice none 0 0, Value.slice none 0 0] 28)).drewN m2).alloc (.cells #[Value.bool false, Value.slice none 0 0, Value.slice none 0 0, Value.slice none 0 0] 28) = W1 := ⟨_, rfl⟩
  rw [hW1] at h1 h2 h3 hO hB3
  have HO := Lib.hid hO
  obtain ⟨Ac, cc, hv, _, _, _, _⟩ := hO.slice
  rw [cellsB_length] at hv
  simp only [HK.out] at hv
  subst hv
  have hq1 := (hB3.block _ (Array.getElem?_eq_some_iff.1 h2).1).trans h2
  have hp1 := (hB3.block _ (Array.getElem?_eq_some_iff.1 h3).1).trans h3
  obtain ⟨B, hBe⟩ : ∃ B, w3.heap.size = B := ⟨_, rfl⟩
  have HB3 : Hid (Below w.heap.size w w3) := h1.trans (hB3.mono h1.size)
  refine hq.out ?_
  clear hq
  obtain ⟨qq, hqq⟩ : ∃ k, w.heap.size = k := ⟨_, rfl⟩
  have HQQ := Lib.hid hqq
  rw [hqq] at hq1 hp1 HB3 ⊢
  obtain ⟨p, hp0⟩ : ∃ k, qq + 1 = k := ⟨_, rfl⟩
  have hqp : qq < p := by omega
  rw [hp0] at hp1 ⊢
  have HP := Lib.hid hp1
  have HQ := Lib.hid hq1
  have HI0 : Hid (PaL B p w3 false [] [] [] (.slice none 0 0) (.slice none 0 0) (.slice none 0 0) w3) := ⟨hp1, World.ownsRow_nil _ _ _ _, OwnRF.nil _ _, World.ownsRow_nil _ _ _ _, Kept.refl _ _, hBe⟩
  have HQB : Hid (qq < B ∧ p < B) := by rw [← hBe]; exact ⟨(Array.getElem?_eq_some_iff.1 hq1).1, (Array.getElem?_eq_some_iff.1 hp1).1⟩
  have HBe := Lib.hid hBe
  have hnk64 : nk ≤ 9223372036854775807 := by omega
  clear h1 h2 h3 hO hB3 hW1 hq1 hp1 HKd HCe HB HW1 hp0 hqq
  go_wp2_with fail
  go_loopw [3, 24] (fun e i wr => ∃ t : Nat, t ≤ nk ∧ e = .int .i64 0 ∧ i = .int .i64 (t : Int) ∧ Hid (∃ x1 x2 x3, PaL B p w3 false (ks.take t) (vs.take t) (is.take t) x1 x2 x3 wr)) (fun _ i _ => nk - (intOf i).toNat)
  case atStart => exact ⟨0, Nat.zero_le _, rfl, rfl, _, _, _, HI0.out⟩
  case round =>
    obtain ⟨t, ht, rfl, rfl, HL⟩ := hrel
    clear HI0
    obtain ⟨x1, x2, x3, hL⟩ := HL.out
    obtain ⟨A1, t1, c1, A2, t2, c2, A3, t3, c3, rfl, rfl, rfl⟩ := hL.slc
    have HL2 := Lib.hid hL
    clear hL HL
    have hBe := HBe.out
    by_cases hlt : t < nk
    · have hlt' : t < ks.length := by rw [HK.out]; exact hlt
      obtain ⟨g, o', Ai, ci, hA, hcell, hsl, hcim, had⟩ := OwnRL.rowAt HO.out HP.out hBe HL2.out.be t (by rw [cellsB_length]; exact hlt')
      subst hA
      rw [atL_cells _ _ hlt', cellB_key] at hcell hsl
      obtain ⟨tl, htl⟩ : ∃ tl, (if false = true then textB (atL vs t) else fixB (atI is t).toNat 4) = tl := ⟨_, rfl⟩
      have hcb : textB (atL ks t) ++ (if (⟨false, ks, vs, is⟩ : NodeM).leaf = true then textB (atL (⟨false, ks, vs, is⟩ : NodeM).vals t) else fixB (atI (⟨false, ks, vs, is⟩ : NodeM).kids t).toNat 4) = textB (atL ks t) ++ tl := by rw [← htl]
      simp only at hcell hsl hcb
      rw [hcb] at hcell hsl
      have HTl : Hid (tl = (if false = true then textB (atL vs t) else fixB (atI is t).toNat 4)) := htl.symm
      obtain ⟨m, hm⟩ : ∃ m, (textB (atL ks t) ++ tl).length = m := ⟨_, rfl⟩
      rw [hm] at hcell hsl
      obtain ⟨D, hDe⟩ : ∃ D : Nat → Prop, (fun k => k < B ∧ k ≠ p) = D := ⟨_, rfl⟩
      have HD : Hid (∀ k, D k → k < B ∧ k ≠ p) := fun k hk => by rw [← hDe] at hk; exact hk
      have HRd : Hid (Calls Tryd.prog 44 #[.slice Ai m ci] wr fun e w' => e = .returned (.pointer (some ⟨wr.heap.size, 0, none⟩)) ∧ RdLB D w' wr.heap.size (textB (atL ks t) ++ tl) ∧ Below wr.heap.size wr w') := by rw [← hDe]; exact Read_callsB (fun k => k < B ∧ k ≠ p) Ai m ci (textB (atL ks t) ++ tl) wr hm.symm hsl.2.1 had hsl.2.2.1 hcim
      have HBr : Hid (B ≤ wr.heap.size) := PaL.size' HL2.out.be hBe
      have HTK : Hid (ks.take (t + 1) = ks.take t ++ [atL ks t]) := takeL ks t hlt'
      have HTV : Hid (IfB false (vs.take (t + 1) = vs.take t ++ [atL vs t] ∧ (atL vs t).length ≤ 49)) := fun e => ⟨takeL vs t (by have := HT1.out t e; omega), (HT1.out t e).2.2⟩
      have HTI : Hid (IfB (!false) (is.take (t + 1) = is.take t ++ [atI is t] ∧ 0 ≤ atI is t ∧ atI is t ≤ 2147483647)) := fun e => ⟨takeI is t (by have := HT0.out t e; omega), (HT0.out t e).2.2⟩
      have HTI2 : Hid (IfB false (is.take (t + 1) = is.take t)) := fun e => by rw [(HT1.out t e).2.1]; simp
      have HTV2 : Hid (IfB (!false) (vs.take (t + 1) = vs.take t)) := fun e => by rw [(HT0.out t e).2.1]; simp
      have HKey : Hid ((atL ks t).length ≤ 40) := (HN.out.1 t hlt').1
      have HlK : Hid ((strs (ks.take t)).length + 1 ≤ 1000000000000) := by show _ ≤ _; rw [strs_length, List.length_take]; omega
      have hnv := HVL.out
      have hni := HIL.out
      clear hsl hm had hlt' htl hcb hDe
      go_wp2_with (go_at_call 44; (with_reducible refine HRd.out.mono ?_); rintro e w5 ⟨rfl, hr5, hb5⟩; refine park ?_; intro q hq)
      have HL5 : Hid (PaL B p w3 false (ks.take t) (vs.take t) (is.take t) (.slice A1 t1 c1) (.slice A2 t2 c2) (.slice A3 t3 c3) w5) := HL2.out.below hb5
      have HR5 := Lib.hid hr5
      obtain ⟨r, hr⟩ : ∃ r, wr.heap.size = r := ⟨_, rfl⟩
      have hrB : B ≤ r := by rw [← hr]; exact HBr.out
      rw [hr] at HR5
      have HT : Hid (Calls Tryd.prog 45 #[.pointer (some ⟨r, 0, none⟩), .int .i64 40] w5.drew fun e w' => e = .returned (.string (bstr (atL ks t))) ∧ RdLB D w' r tl ∧ Kept (· = r) w5.drew w') := Text_calls (most := 40) HKey.out (by decide) HR5.out.drew
      obtain ⟨s, hs⟩ : ∃ s, bstr (atL ks t) = s := ⟨_, rfl⟩
      rw [hs] at HT
      have HS := Lib.hid hs
      clear hs hr5 hb5 HRd HL2 HBr HKey
      refine hq.out ?_
      clear hq
      simp only [hr]
      clear hr
      go_wp2_with fail
      have hS0 : w5.drew.cell? ⟨p, 1, none⟩ = some (.slice A1 t1 c1) := by rw [cell_of_row _ _ _ _ _ _ (show w5.drew.heap[p]? = _ from HL5.out.blk)]; rfl
      refine wp_region_M (fun w' => w'.cell? ⟨p, 1, none⟩ = some (.slice A1 t1 c1)) 7 (by as_aux_lemma => kernel_rfl) ?_
      refine mAnyTake (i := 0) (v := .pointer (some ⟨p, 1, none⟩)) (some 30) [0, 1, 5, 6, 7] (by as_aux_lemma => kernel_rfl) rfl rfl (by decide) (by as_aux_lemma => kernel_rfl) rfl rfl (by as_aux_lemma => kernel_rfl) (by as_aux_lemma => kernel_rfl) (by as_aux_lemma => kernel_rfl) (fun _ _ _ h => h) (Or.inl ⟨by rfl, fun w => by go_simp⟩) hS0 ?_
      try simp only [Act.put, List.setIfInBounds_toArray, List.set_cons_zero, List.set_cons_succ]
      refine mTake (i := 1) (v := .slice A1 t1 c1) (some 31) [1, 5, 6, 7] (by as_aux_lemma => kernel_rfl) rfl rfl (by decide) (by as_aux_lemma => kernel_rfl) rfl rfl (by as_aux_lemma => kernel_rfl) (by as_aux_lemma => kernel_rfl) (by as_aux_lemma => kernel_rfl) (fun _ _ _ h => h) (Or.inl ⟨by rfl, fun w h => by (skip; go_simp)⟩) hS0 ?_
      try simp only [Act.put, List.setIfInBounds_toArray, List.set_cons_zero, List.set_cons_succ]
      refine mAnyTake (i := 2) (v := .pointer (some ⟨r, 0, none⟩)) (some 32) [2, 3, 4, 5, 6, 7] (by as_aux_lemma => kernel_rfl) rfl rfl (by decide) (by as_aux_lemma => kernel_rfl) rfl rfl (by as_aux_lemma => kernel_rfl) (by as_aux_lemma => kernel_rfl) (by as_aux_lemma => kernel_rfl) (fun _ _ _ h => h) (Or.inl ⟨by rfl, fun w => by go_simp⟩) hS0 ?_
      try simp only [Act.put, List.setIfInBounds_toArray, List.set_cons_zero, List.set_cons_succ]
      clear hS0
      refine mOne (i := 3) (by as_aux_lemma => kernel_rfl) rfl (fun K hK => ?_)
      have HK := Lib.hid hK
      clear hK
      rw [if_pos (by rfl)]
      refine wp_goCall 45 _ _ (by rfl) Tryd.func45 (by kernel_rfl) (by kernel_rfl) _ (by simp [Act.eval]) HT.out ?_
      rintro e w7 ⟨rfl, hr7, hk7⟩
      refine ⟨_, rfl, ?_⟩
      have HL7 := Lib.hid (HL5.out.call HR5.out hrB hk7)
      have HR7 := Lib.hid hr7
      have z7 : w7.cell? ⟨p, 1, none⟩ = some (.slice A1 t1 c1) := by rw [cell_of_row _ _ _ _ _ _ HL7.out.blk]; rfl
      clear hr7 hk7 HL5 HR5 HT
      refine HK.out _ _ (.inr z7) ?_
      clear HK
      try simp only [Act.put, List.setIfInBounds_toArray, List.set_cons_zero, List.set_cons_succ]
      refine mOne (i := 4) (by as_aux_lemma => kernel_rfl) rfl (fun K hK => ?_)
      have HK := Lib.hid hK
      clear hK
      rw [if_pos (by rfl)]
      have hb8 : Below w7.heap.size w7 (w7.alloc (.cells #[.string s] 9)) := (Below.refl _ _).alloc (Nat.le_refl _) _
      have HL8 : Hid (PaL B p w3 false (ks.take t) (vs.take t) (is.take t) (.slice A1 t1 c1) (.slice A2 t2 c2) (.slice A3 t3 c3) (w7.alloc (.cells #[.string s] 9))) := HL7.out.below hb8
      have HR8 : Hid (RdLB D (w7.alloc (.cells #[.string s] 9)) r tl) := RdLB.kept HR7.out (Kept.of_below (S := fun _ => False) hb8) (fun k _ hS => hS.elim)
      have z8 : (w7.alloc (.cells #[.string s] 9)).cell? ⟨p, 1, none⟩ = some (.slice A1 t1 c1) := by rw [cell_of_row _ _ _ _ _ _ HL8.out.blk]; rfl
      have HV8 : Hid (ValsAt (w7.alloc (.cells #[.string s] 9)) (some ⟨w7.heap.size, 0, none⟩) [.string s]) := ValsAt.one (heap_alloc_new w7 _)
      clear hb8 HL7 HR7 z7
      go_wp2_with fail
      refine HK.out _ _ (.inr z8) ?_
      clear HK
      try simp only [Act.put, List.setIfInBounds_toArray, List.set_cons_zero, List.set_cons_succ]
      have HB8 : Hid (B ≤ (w7.alloc (.cells #[.string s] 9)).heap.size) := PaL.size' HL8.out.be hBe
      obtain ⟨w8, hw8⟩ : ∃ w8, w7.alloc (.cells #[.string s] 9) = w8 := ⟨_, rfl⟩
      rw [hw8] at HL8 HR8 HV8 HB8 ⊢
      clear z8 hw8
      refine mOne (i := 5) (by as_aux_lemma => kernel_rfl) rfl (fun K hK => ?_)
      have HK := Lib.hid hK
      clear hK
      rw [if_pos (by rfl)]
      refine wp_append_vals elStr _ _ (by rfl) B (.slice A1 t1 c1) (strs (ks.take t)) (by rfl) HL8.out.k (some ⟨w7.heap.size, 0, none⟩) 1 1 [.string s] (by rfl) rfl (fun h => by cases h) HV8.out (by simp; rfl) HlK.out HB8.out ?_
      intro v9 w9 H9
      obtain ⟨A9, c9, hv9, _⟩ := H9.out.1.sl
      obtain ⟨l9, hl9⟩ : ∃ l9, (strs (ks.take t) ++ [Value.string s]).length = l9 := ⟨_, rfl⟩
      rw [hl9] at hv9
      subst hv9
      clear hl9
      have HP9 := Lib.hid (PaL.put1 HL8.out (k := atL ks t) (v9 := .slice A9 l9 c9) (w9 := w9) (by have h9 := H9.out; rw [← HS.out] at h9; exact h9) (D := D) HD.out)
      have z9 := HP9.out.1
      have f9 := HP9.out.2.1
      clear H9 HV8 HB8
      refine HK.out _ _ (.inr z9) ?_
      clear HK
      try simp only [Act.put, List.setIfInBounds_toArray, List.set_cons_zero, List.set_cons_succ]
      refine mOne (i := 6) (by as_aux_lemma => kernel_rfl) rfl (fun K hK => ?_)
      have HK := Lib.hid hK
      clear hK
      rw [if_pos (by rfl)]
      go_wp2_with fail
      refine HK.out _ _ (.inr z9) ?_
      clear HK
      try simp only [Act.put, List.setIfInBounds_toArray, List.set_cons_zero, List.set_cons_succ]
      refine mOne (i := 7) (by as_aux_lemma => kernel_rfl) rfl (fun K hK => ?_)
      have HK := Lib.hid hK
      clear hK
      rw [if_pos (by rfl)]
      go_wp2_with fail
      refine HK.out _ _ (by simp) ?_
      clear HK
      try simp only [Act.put, List.setIfInBounds_toArray, List.set_cons_zero, List.set_cons_succ]
      have HLa := Lib.hid HP9.out.2.2.1
      have HRa := Lib.hid (HP9.out.2.2.2 r tl HR8.out)
      clear HP9 HL8 HR8 z9 f9
      obtain ⟨wa, hwa⟩ : ∃ wa, w9.setCell ⟨p, 1, none⟩ (.slice A9 l9 c9) = wa := ⟨_, rfl⟩
      rw [hwa] at HLa HRa ⊢
      clear hwa
      refine mDone (by as_aux_lemma => kernel_rfl) ?_ _
      have z0 : wa.cell? ⟨p, 0, none⟩ = some (.bool false) := by rw [cell_of_row _ _ _ _ _ _ HLa.out.blk]; rfl
      go_wp2_with fail
      have zk : wa.drew.cell? ⟨p, 3, none⟩ = some (.slice A3 t3 c3) := by rw [cell_of_row _ _ _ _ _ _ (show wa.drew.heap[p]? = _ from HLa.out.blk)]; rfl
      obtain ⟨hTV, hk0, hk1⟩ := HTI.out rfl
      have HTW := Lib.hid hTV
      rw [show tl = fixB (atI is t).toNat 4 from HTl.out] at HRa
      have HT : Hid (Calls Tryd.prog 46 #[.pointer (some ⟨r, 0, none⟩), .int .i64 4] wa.drew fun e w' => e = .returned (.int .u64 (atI is t)) ∧ RdLB D w' r [] ∧ Kept (· = r) wa.drew w') := by
        have h := Fixed_calls HRa.out.drew 4 (by rw [fixB_length]; exact Nat.le_refl _) (by decide)
        rw [show (fixB (atI is t).toNat 4).take 4 = fixB (atI is t).toNat 4 from List.take_of_length_le (by rw [fixB_length]; exact Nat.le_refl _), fixB_natB, show (fixB (atI is t).toNat 4).drop 4 = [] from List.drop_of_length_le (by rw [fixB_length]; exact Nat.le_refl _), kid_nat _ hk0 hk1] at h
        exact h
      obtain ⟨y, hy⟩ : ∃ y, atI is t = y := ⟨_, rfl⟩
      rw [hy] at HT hk0 hk1
      have HY := Lib.hid hy
      clear hTV hy
      refine wp_region_M (fun w' => w'.cell? ⟨p, 3, none⟩ = some (.slice A3 t3 c3)) 8 (by as_aux_lemma => kernel_rfl) ?_
      refine mAnyTake (i := 0) (v := .pointer (some ⟨p, 3, none⟩)) (some 47) [0, 1, 6, 7, 8] (by as_aux_lemma => kernel_rfl) rfl rfl (by decide) (by as_aux_lemma => kernel_rfl) rfl rfl (by as_aux_lemma => kernel_rfl) (by as_aux_lemma => kernel_rfl) (by as_aux_lemma => kernel_rfl) (fun _ _ _ h => h) (Or.inl ⟨by rfl, fun w => by go_simp⟩) zk ?_
      try simp only [Act.put, List.setIfInBounds_toArray, List.set_cons_zero, List.set_cons_succ]
      refine mTake (i := 1) (v := .slice A3 t3 c3) (some 48) [1, 6, 7, 8] (by as_aux_lemma => kernel_rfl) rfl rfl (by decide) (by as_aux_lemma => kernel_rfl) rfl rfl (by as_aux_lemma => kernel_rfl) (by as_aux_lemma => kernel_rfl) (by as_aux_lemma => kernel_rfl) (fun _ _ _ h => h) (Or.inl ⟨by rfl, fun w h => by (skip; go_simp)⟩) zk ?_
      try simp only [Act.put, List.setIfInBounds_toArray, List.set_cons_zero, List.set_cons_succ]
      refine mAnyTake (i := 2) (v := .pointer (some ⟨r, 0, none⟩)) (some 49) [2, 3, 4, 5, 6, 7, 8] (by as_aux_lemma => kernel_rfl) rfl rfl (by decide) (by as_aux_lemma => kernel_rfl) rfl rfl (by as_aux_lemma => kernel_rfl) (by as_aux_lemma => kernel_rfl) (by as_aux_lemma => kernel_rfl) (fun _ _ _ h => h) (Or.inl ⟨by rfl, fun w => by go_simp⟩) zk ?_
      try simp only [Act.put, List.setIfInBounds_toArray, List.set_cons_zero, List.set_cons_succ]
      clear zk
      refine mOne (i := 3) (by as_aux_lemma => kernel_rfl) rfl (fun K hK => ?_)
      have HK := Lib.hid hK
      clear hK
      rw [if_pos (by rfl)]
      refine wp_goCall 46 _ _ (by rfl) Tryd.func46 (by kernel_rfl) (by kernel_rfl) _ (by simp [Act.eval]) HT.out ?_
      rintro e wb ⟨rfl, hrb, hkb⟩
      refine ⟨_, rfl, ?_⟩
      have HLb := Lib.hid (HLa.out.call HRa.out hrB hkb)
      have HRb := Lib.hid hrb
      have zb : wb.cell? ⟨p, 3, none⟩ = some (.slice A3 t3 c3) := by rw [cell_of_row _ _ _ _ _ _ HLb.out.blk]; rfl
      have HBb : Hid (B ≤ wb.heap.size) := PaL.size' HLb.out.be hBe
      clear hrb hkb HLa HRa HT
      refine HK.out _ _ (.inr zb) ?_
      clear HK
      try simp only [Act.put, List.setIfInBounds_toArray, List.set_cons_zero, List.set_cons_succ]
      refine mOne (i := 4) (by as_aux_lemma => kernel_rfl) rfl (fun K hK => ?_)
      have HK := Lib.hid hK
      clear hK
      rw [if_pos (by rfl)]
      go_wp2_with fail
      refine HK.out _ _ (.inr zb) ?_
      clear HK
      try simp only [Act.put, List.setIfInBounds_toArray, List.set_cons_zero, List.set_cons_succ]
      refine mOne (i := 5) (by as_aux_lemma => kernel_rfl) rfl (fun K hK => ?_)
      have HK := Lib.hid hK
      clear hK
      rw [if_pos (by rfl)]
      have hbd : Below wb.heap.size wb (wb.alloc (.cells #[Value.int .i64 y] 3)) := (Below.refl _ _).alloc (Nat.le_refl _) _
      have HLd : Hid (PaL B p w3 false (ks.take t ++ [atL ks t]) (vs.take t) (is.take t) (.slice A9 l9 c9) (.slice A2 t2 c2) (.slice A3 t3 c3) (wb.alloc (.cells #[Value.int .i64 y] 3))) := HLb.out.below hbd
      have HRd : Hid (RdLB D (wb.alloc (.cells #[Value.int .i64 y] 3)) r []) := RdLB.kept HRb.out (Kept.of_below (S := fun _ => False) hbd) (fun k _ hS => hS.elim)
      have zd : (wb.alloc (.cells #[Value.int .i64 y] 3)).cell? ⟨p, 3, none⟩ = some (.slice A3 t3 c3) := by rw [cell_of_row _ _ _ _ _ _ HLd.out.blk]; rfl
      have HVd : Hid (ValsAt (wb.alloc (.cells #[Value.int .i64 y] 3)) (some ⟨wb.heap.size, 0, none⟩) [Value.int .i64 y]) := ValsAt.one (heap_alloc_new wb _)
      clear hbd HLb HRb zb
      go_wp2_with fail
      refine HK.out _ _ (.inr zd) ?_
      clear HK
      try simp only [Act.put, List.setIfInBounds_toArray, List.set_cons_zero, List.set_cons_succ]
      have HBd : Hid (B ≤ (wb.alloc (.cells #[Value.int .i64 y] 3)).heap.size) := PaL.size' HLd.out.be hBe
      obtain ⟨wd, hwd⟩ : ∃ wd, wb.alloc (.cells #[Value.int .i64 y] 3) = wd := ⟨_, rfl⟩
      rw [hwd] at HLd HRd HVd HBd ⊢
      clear zd hwd
      refine mOne (i := 6) (by as_aux_lemma => kernel_rfl) rfl (fun K hK => ?_)
      have HK := Lib.hid hK
      clear hK
      rw [if_pos (by rfl)]
      have HlV : Hid ((ints (is.take t)).length + 1 ≤ 1000000000000) := by show _ ≤ _; rw [ints_length, List.length_take]; have := hni; omega
      refine wp_append_vals elInt _ _ (by rfl) B (.slice A3 t3 c3) (ints (is.take t)) (by rfl) HLd.out.i (some ⟨wb.heap.size, 0, none⟩) 1 1 [Value.int .i64 y] (by rfl) rfl (fun h => by cases h) HVd.out (by simp; rfl) HlV.out HBd.out ?_
      intro ve we He
      obtain ⟨Ae, ce, hve, _⟩ := He.out.1.sl
      obtain ⟨le, hle⟩ : ∃ le, (ints (is.take t) ++ [Value.int .i64 y]).length = le := ⟨_, rfl⟩
      rw [hle] at hve
      subst hve
      clear hle
      have HPe := Lib.hid (PaL.put3 HLd.out (k := y) (v9 := .slice Ae le ce) (w9 := we) He.out (D := D) HD.out)
      have ze := HPe.out.1
      have fe := HPe.out.2.1
      clear He HVd HBd HlV
      refine HK.out _ _ (.inr ze) ?_
      clear HK
      try simp only [Act.put, List.setIfInBounds_toArray, List.set_cons_zero, List.set_cons_succ]
      refine mOne (i := 7) (by as_aux_lemma => kernel_rfl) rfl (fun K hK => ?_)
      have HK := Lib.hid hK
      clear hK
      rw [if_pos (by rfl)]
      go_wp2_with fail
      refine HK.out _ _ (.inr ze) ?_
      clear HK
      try simp only [Act.put, List.setIfInBounds_toArray, List.set_cons_zero, List.set_cons_succ]
      refine mOne (i := 8) (by as_aux_lemma => kernel_rfl) rfl (fun K hK => ?_)
      have HK := Lib.hid hK
      clear hK
      rw [if_pos (by rfl)]
      go_wp2_with fail
      refine HK.out _ _ (by simp) ?_
      clear HK
      try simp only [Act.put, List.setIfInBounds_toArray, List.set_cons_zero, List.set_cons_succ]
      have HLf := Lib.hid HPe.out.2.2.1
      have HRf := Lib.hid (HPe.out.2.2.2 r [] HRd.out)
      clear HPe HLd HRd ze fe
      obtain ⟨wf, hwf⟩ : ∃ wf, we.setCell ⟨p, 3, none⟩ (.slice Ae le ce) = wf := ⟨_, rfl⟩
      rw [hwf] at HLf HRf ⊢
      clear hwf
      refine mDone (by as_aux_lemma => kernel_rfl) ?_ _
      have HE := Lib.hid (End_calls HRf.out)
      go_wp2_with (go_at_call 47; (with_reducible refine HE.out.mono ?_); rintro e w' ⟨rfl, rfl⟩)
      have HN1 : Hid (∃ x1 x2 x3, PaL B p w3 false (ks.take (t + 1)) (vs.take (t + 1)) (is.take (t + 1)) x1 x2 x3 wf) := ⟨_, _, _, by have h := HLf.out; rw [← HY.out] at h; rw [HTK.out, HTW.out, show vs.take (t + 1) = vs.take t from HTV2.out rfl]; exact h⟩
      clear HLf HRf HE
      exact ⟨⟨t + 1, Nat.succ_le_of_lt hlt, rfl, congrArg (Value.int .i64) (Int.natCast_succ t).symm, HN1.out⟩, by simp [intOf]; omega⟩
    · obtain rfl : t = nk := by omega
      have e1 : ks.take t = ks := List.take_of_length_le (by rw [HK.out]; exact Nat.le_refl _)
      have e2 : vs.take t = vs := by first | (exact List.take_of_length_le (by have := (HT1.out 0 rfl).1; omega)) | (rw [(HT0.out 0 rfl).2.1]; simp)
      have e3 : is.take t = is := by first | (exact List.take_of_length_le (by have := (HT0.out 0 rfl).1; omega)) | (rw [(HT1.out 0 rfl).2.1]; simp)
      rw [e1, e2, e3] at HL2
      obtain ⟨p0, p1, p2, p3⟩ := row4_cells HL2.out.blk
      have HNd := Lib.hid (HL2.out.node (Kept.refl (fun _ => False) wr) (fun _ _ _ _ hS _ => hS.elim))
      obtain ⟨hN, rfl, rfl, rfl⟩ := HNd.out
      have HRt : Hid (Calls Tryd.prog 14 #[.agg #[.bool false, .slice A1 ks.length c1, .slice A2 vs.length c2, .slice A3 is.length c3]] wr fun e w' => e = .returned (.bool true) ∧ Below wr.heap.size wr w') := by
        have h := Right_calls hN
        rw [rightB_true HN.out] at h
        exact h
      have hqw : wr.heap[qq]? = some (.cells #[Value.bool false, Value.slice none 0 0, Value.slice none 0 0, Value.slice none 0 0] 28 (0, 0)) := (HL2.out.be.block qq (by rw [hBe]; exact HQB.out.1) (by omega)).trans HQ.out
      have HQW := Lib.hid hqw
      have HB4 : Hid (Below qq w wr) := HB3.out.trans (HL2.out.be.below (by rw [hBe]; exact Nat.le_of_lt HQB.out.1) (fun k hk e => by have e' : k = p := e; omega))
      clear e1 e2 e3 hN HNd hqw
      go_wp2_with (go_at_call 14; (with_reducible refine HRt.out.mono ?_); rintro e w6 ⟨rfl, hb6⟩; refine park ?_; intro q hq)
      have hp6 := (hb6.block p (Array.getElem?_eq_some_iff.1 HL2.out.blk).1).trans HL2.out.blk
      have hq6 := (hb6.block qq (Array.getElem?_eq_some_iff.1 HQW.out).1).trans HQW.out
      have HL6 := Lib.hid (HL2.out.below hb6)
      have HB6 : Hid (Below qq w w6) := HB4.out.trans (hb6.mono (Nat.le_of_lt (Array.getElem?_eq_some_iff.1 HQW.out).1))
      have HQ6 := Lib.hid hq6
      clear p0 p1 p2 p3
      obtain ⟨p0, p1, p2, p3⟩ := row4_cells hp6
      obtain ⟨z0, z1, z2, z3⟩ := row4_cells hq6
      obtain ⟨f0, f1, f2, f3⟩ := row4_frozen hq6
      clear hp6 hq6 hb6 HRt HQW HB4
      refine hq.out ?_
      clear hq
      go_wp2_with fail
      obtain ⟨g1, g2⟩ := row4_put HQ6.out (.bool false) (.slice A1 ks.length c1) (.slice A2 vs.length c2) (.slice A3 is.length c3)
      refine bodyPost_ret_by (results_cellTmp rfl _ rfl rfl (run_retNode g1)) rfl ?_
      refine ⟨A1, c1, A2, c2, A3, c3, by rw [HK.out]; rfl, (HL6.out.node g2 (fun k cs t fz hS hc => ?_)).1, ?_⟩
      · rw [show k = qq from hS, HQ6.out] at hc; injection hc with hc; injection hc with _ h4 _; exact h4.symm
      · rw [HQQ.out]
        exact HB6.out.trans (g2.below (Nat.le_of_lt (Array.getElem?_eq_some_iff.1 HQ6.out).1) (fun k hk e => by have e' : k = qq := e; omega))
set_option maxRecDepth 10000 in
set_option maxHeartbeats 4000000 in
theorem Parse_leaf {w : World} {ks vs : List (List UInt8)} {is : List Int} {l : List UInt8} {no b o c : Nat} (hn : RightM ⟨true, ks, vs, is⟩) (hkl : ks.length ≤ 1000) (hP : PgL l no 5 (cellsB ⟨true, ks, vs, is⟩)) (hno : no ≤ 2147483647) (hb : Bytes w (some ⟨b, o, none⟩) l) (hc : 256 ≤ c) (hcm : c ≤ 9223372036854775807) :
    Calls Tryd.prog 21 #[.slice (some ⟨b, o, none⟩) 256 c] w fun e w' => ∃ kB kd vB vd iB id, e = .returned (.tuple #[.agg #[.bool true, .slice kB ks.length kd, .slice vB vs.length vd, .slice iB is.length id], .int .i64 0]) ∧ Hid (NodeAt w' ⟨true, ks, vs, is⟩ kB kd vB vd iB id ∧ Below w.heap.size w w') := by
  have hKd := fun (w' : World) (h : Bytes w' (some ⟨b, o, none⟩) l) => Kind_calls (some ⟨b, o, none⟩) 256 c l w' hP.len.symm h hc hcm (by decide)
  rw [hP.kindP hno (by decide)] at hKd
  have HKd := Lib.hid hKd
  have HCe : Hid (∀ w', Bytes w' (some ⟨b, o, none⟩) l → Calls Tryd.prog 43 #[.slice (some ⟨b, o, none⟩) 256 c] w' fun e w2 => ∃ v, e = .returned v ∧ OwnRL w2 w'.heap.size v (cellsB ⟨true, ks, vs, is⟩) ∧ Below w'.heap.size w' w2) := fun w' h => Cells_calls b o c l no 5 _ w' h hP hno (by decide) hc hcm
  have HN := Lib.hid hn
  have HB := Lib.hid hb
  obtain ⟨nk, hnk⟩ : ∃ k, ks.length = k := ⟨_, rfl⟩
  have hvl : vs.length ≤ 1000 := by have h2 := hn.2; simp at h2; first | (rw [h2.2.2.1]; simp; done) | omega
  have hil : is.length ≤ 1000 := by have h2 := hn.2; simp at h2; first | (rw [h2.2.1]; simp; done) | omega
  have hnkl : nk ≤ 1000 := by omega
  have HK := Lib.hid hnk
  have HVL := Lib.hid hvl
  have HIL := Lib.hid hil
  have HT1 : Hid (∀ t, IfB true (vs.length = nk ∧ is = [] ∧ (atL vs t).length ≤ 49)) := fun t e => by
    have h2 := hn.2; simp at h2
    first | (cases e; done) | exact ⟨by omega, by simpa using h2.2.1, atL_mem_le h2.2.2 t⟩
  have HT0 : Hid (∀ t, IfB (!true) (is.length = nk ∧ vs = [] ∧ 0 ≤ atI is t ∧ atI is t ≤ 2147483647)) := fun t e => by
    have h2 := hn.2; simp at h2
    first | (cases e; done) | exact ⟨by omega, by simpa using h2.2.2.1, atI_mem h2.2.2.2.2 t⟩
  simp only [hnk]
  clear hKd hn hP hb hnk hkl hvl hil
  go_enter Tryd.func21, Tryd.ntmps21
  go_wp2_with (go_at_call 42; (with_reducible refine (HKd.out _ (HB.out.below ((Below.refl _ _).alloc (Nat.le_refl _) _))).mono ?_); rintro e w2 ⟨rfl, m2, rfl⟩; rw [show (((5 : UInt8).toNat : Nat) : Int) = 5 from rfl]; refine park ?_; intro q hq)
  refine hq.out ?_
  clear hq
  have HW1 := Lib.hid (node2_boxD w m2 #[Value.bool false, Value.slice none 0 0, Value.slice none 0 0, Value.slice none 0 0] #[Value.bool true, Value.slice none 0 0, Value.slice none 0 0, Value.slice none 0 0] 28 28)
  go_wp2_with (go_at_call 43; (with_reducible refine (HCe.out _ (HB.out.below HW1.out.1)).mono ?_); rintro e w3 ⟨v, rfl, hO, hB3⟩; refine park ?_; intro q hq)
  obtain ⟨h1, h2, h3⟩ := HW1.out
  obtain ⟨W1, hW1⟩ : ∃ W1, ((w.alloc (.cells #[Value.bool false, Value.slice none 0 0, Value.slice none 0 0, Value.slice none 0 0] 28)).drewN m2).alloc (.cells #[Value.bool true, Value.slice none 0 0, Value.slice none 0 0, Value.slice none 0 0] 28) = W1 := ⟨_, rfl⟩
  rw [hW1] at h1 h2 h3 hO hB3
  have HO := Lib.hid hO
  obtain ⟨Ac, cc, hv, _, _, _, _⟩ := hO.slice
  rw [cellsB_length] at hv
  simp only [HK.out] at hv
  subst hv
  have hq1 := (hB3.block _ (Array.getElem?_eq_some_iff.1 h2).1).trans h2
  have hp1 := (hB3.block _ (Array.getElem?_eq_some_iff.1 h3).1).trans h3
  obtain ⟨B, hBe⟩ : ∃ B, w3.heap.size = B := ⟨_, rfl⟩
  have HB3 : Hid (Below w.heap.size w w3) := h1.trans (hB3.mono h1.size)
  refine hq.out ?_
  clear hq
  obtain ⟨qq, hqq⟩ : ∃ k, w.heap.size = k := ⟨_, rfl⟩
  have HQQ := Lib.hid hqq
  rw [hqq] at hq1 hp1 HB3 ⊢
  obtain ⟨p, hp0⟩ : ∃ k, qq + 1 = k := ⟨_, rfl⟩
  have hqp : qq < p := by omega
  rw [hp0] at hp1 ⊢
  have HP := Lib.hid hp1
  have HQ := Lib.hid hq1
  have HI0 : Hid (PaL B p w3 true [] [] [] (.slice none 0 0) (.slice none 0 0) (.slice none 0 0) w3) := ⟨hp1, World.ownsRow_nil _ _ _ _, OwnRF.nil _ _, World.ownsRow_nil _ _ _ _, Kept.refl _ _, hBe⟩
  have HQB : Hid (qq < B ∧ p < B) := by rw [← hBe]; exact ⟨(Array.getElem?_eq_some_iff.1 hq1).1, (Array.getElem?_eq_some_iff.1 hp1).1⟩
  have HBe := Lib.hid hBe
  have hnk64 : nk ≤ 9223372036854775807 := by omega
  clear h1 h2 h3 hO hB3 hW1 hq1 hp1 HKd HCe HB HW1 hp0 hqq
  go_wp2_with fail
  go_loopw [3, 24] (fun e i wr => ∃ t : Nat, t ≤ nk ∧ e = .int .i64 0 ∧ i = .int .i64 (t : Int) ∧ Hid (∃ x1 x2 x3, PaL B p w3 true (ks.take t) (vs.take t) (is.take t) x1 x2 x3 wr)) (fun _ i _ => nk - (intOf i).toNat)
  case atStart => exact ⟨0, Nat.zero_le _, rfl, rfl, _, _, _, HI0.out⟩
  case round =>
    obtain ⟨t, ht, rfl, rfl, HL⟩ := hrel
    clear HI0
    obtain ⟨x1, x2, x3, hL⟩ := HL.out
    obtain ⟨A1, t1, c1, A2, t2, c2, A3, t3, c3, rfl, rfl, rfl⟩ := hL.slc
    have HL2 := Lib.hid hL
    clear hL HL
    have hBe := HBe.out
    by_cases hlt : t < nk
    · have hlt' : t < ks.length := by rw [HK.out]; exact hlt
      obtain ⟨g, o', Ai, ci, hA, hcell, hsl, hcim, had⟩ := OwnRL.rowAt HO.out HP.out hBe HL2.out.be t (by rw [cellsB_length]; exact hlt')
      subst hA
      rw [atL_cells _ _ hlt', cellB_key] at hcell hsl
      obtain ⟨tl, htl⟩ : ∃ tl, (if true = true then textB (atL vs t) else fixB (atI is t).toNat 4) = tl := ⟨_, rfl⟩
      have hcb : textB (atL ks t) ++ (if (⟨true, ks, vs, is⟩ : NodeM).leaf = true then textB (atL (⟨true, ks, vs, is⟩ : NodeM).vals t) else fixB (atI (⟨true, ks, vs, is⟩ : NodeM).kids t).toNat 4) = textB (atL ks t) ++ tl := by rw [← htl]
      simp only at hcell hsl hcb
      rw [hcb] at hcell hsl
      have HTl : Hid (tl = (if true = true then textB (atL vs t) else fixB (atI is t).toNat 4)) := htl.symm
      obtain ⟨m, hm⟩ : ∃ m, (textB (atL ks t) ++ tl).length = m := ⟨_, rfl⟩
      rw [hm] at hcell hsl
      obtain ⟨D, hDe⟩ : ∃ D : Nat → Prop, (fun k => k < B ∧ k ≠ p) = D := ⟨_, rfl⟩
      have HD : Hid (∀ k, D k → k < B ∧ k ≠ p) := fun k hk => by rw [← hDe] at hk; exact hk
      have HRd : Hid (Calls Tryd.prog 44 #[.slice Ai m ci] wr fun e w' => e = .returned (.pointer (some ⟨wr.heap.size, 0, none⟩)) ∧ RdLB D w' wr.heap.size (textB (atL ks t) ++ tl) ∧ Below wr.heap.size wr w') := by rw [← hDe]; exact Read_callsB (fun k => k < B ∧ k ≠ p) Ai m ci (textB (atL ks t) ++ tl) wr hm.symm hsl.2.1 had hsl.2.2.1 hcim
      have HBr : Hid (B ≤ wr.heap.size) := PaL.size' HL2.out.be hBe
      have HTK : Hid (ks.take (t + 1) = ks.take t ++ [atL ks t]) := takeL ks t hlt'
      have HTV : Hid (IfB true (vs.take (t + 1) = vs.take t ++ [atL vs t] ∧ (atL vs t).length ≤ 49)) := fun e => ⟨takeL vs t (by have := HT1.out t e; omega), (HT1.out t e).2.2⟩
      have HTI : Hid (IfB (!true) (is.take (t + 1) = is.take t ++ [atI is t] ∧ 0 ≤ atI is t ∧ atI is t ≤ 2147483647)) := fun e => ⟨takeI is t (by have := HT0.out t e; omega), (HT0.out t e).2.2⟩
      have HTI2 : Hid (IfB true (is.take (t + 1) = is.take t)) := fun e => by rw [(HT1.out t e).2.1]; simp
      have HTV2 : Hid (IfB (!true) (vs.take (t + 1) = vs.take t)) := fun e => by rw [(HT0.out t e).2.1]; simp
      have HKey : Hid ((atL ks t).length ≤ 40) := (HN.out.1 t hlt').1
      have HlK : Hid ((strs (ks.take t)).length + 1 ≤ 1000000000000) := by show _ ≤ _; rw [strs_length, List.length_take]; omega
      have hnv := HVL.out
      have hni := HIL.out
      clear hsl hm had hlt' htl hcb hDe
      go_wp2_with (go_at_call 44; (with_reducible refine HRd.out.mono ?_); rintro e w5 ⟨rfl, hr5, hb5⟩; refine park ?_; intro q hq)
      have HL5 : Hid (PaL B p w3 true (ks.take t) (vs.take t) (is.take t) (.slice A1 t1 c1) (.slice A2 t2 c2) (.slice A3 t3 c3) w5) := HL2.out.below hb5
      have HR5 := Lib.hid hr5
      obtain ⟨r, hr⟩ : ∃ r, wr.heap.size = r := ⟨_, rfl⟩
      have hrB : B ≤ r := by rw [← hr]; exact HBr.out
      rw [hr] at HR5
      have HT : Hid (Calls Tryd.prog 45 #[.pointer (some ⟨r, 0, none⟩), .int .i64 40] w5.drew fun e w' => e = .returned (.string (bstr (atL ks t))) ∧ RdLB D w' r tl ∧ Kept (· = r) w5.drew w') := Text_calls (most := 40) HKey.out (by decide) HR5.out.drew
      obtain ⟨s, hs⟩ : ∃ s, bstr (atL ks t) = s := ⟨_, rfl⟩
      rw [hs] at HT
      have HS := Lib.hid hs
      clear hs hr5 hb5 HRd HL2 HBr HKey
      refine hq.out ?_
      clear hq
      simp only [hr]
      clear hr
      go_wp2_with fail
      have hS0 : w5.drew.cell? ⟨p, 1, none⟩ = some (.slice A1 t1 c1) := by rw [cell_of_row _ _ _ _ _ _ (show w5.drew.heap[p]? = _ from HL5.out.blk)]; rfl
      refine wp_region_M (fun w' => w'.cell? ⟨p, 1, none⟩ = some (.slice A1 t1 c1)) 7 (by as_aux_lemma => kernel_rfl) ?_
      refine mAnyTake (i := 0) (v := .pointer (some ⟨p, 1, none⟩)) (some 30) [0, 1, 5, 6, 7] (by as_aux_lemma => kernel_rfl) rfl rfl (by decide) (by as_aux_lemma => kernel_rfl) rfl rfl (by as_aux_lemma => kernel_rfl) (by as_aux_lemma => kernel_rfl) (by as_aux_lemma => kernel_rfl) (fun _ _ _ h => h) (Or.inl ⟨by rfl, fun w => by go_simp⟩) hS0 ?_
      try simp only [Act.put, List.setIfInBounds_toArray, List.set_cons_zero, List.set_cons_succ]
      refine mTake (i := 1) (v := .slice A1 t1 c1) (some 31) [1, 5, 6, 7] (by as_aux_lemma => kernel_rfl) rfl rfl (by decide) (by as_aux_lemma => kernel_rfl) rfl rfl (by as_aux_lemma => kernel_rfl) (by as_aux_lemma => kernel_rfl) (by as_aux_lemma => kernel_rfl) (fun _ _ _ h => h) (Or.inl ⟨by rfl, fun w h => by (skip; go_simp)⟩) hS0 ?_
      try simp only [Act.put, List.setIfInBounds_toArray, List.set_cons_zero, List.set_cons_succ]
      refine mAnyTake (i := 2) (v := .pointer (some ⟨r, 0, none⟩)) (some 32) [2, 3, 4, 5, 6, 7] (by as_aux_lemma => kernel_rfl) rfl rfl (by decide) (by as_aux_lemma => kernel_rfl) rfl rfl (by as_aux_lemma => kernel_rfl) (by as_aux_lemma => kernel_rfl) (by as_aux_lemma => kernel_rfl) (fun _ _ _ h => h) (Or.inl ⟨by rfl, fun w => by go_simp⟩) hS0 ?_
      try simp only [Act.put, List.setIfInBounds_toArray, List.set_cons_zero, List.set_cons_succ]
      clear hS0
      refine mOne (i := 3) (by as_aux_lemma => kernel_rfl) rfl (fun K hK => ?_)
      have HK := Lib.hid hK
      clear hK
      rw [if_pos (by rfl)]
      refine wp_goCall 45 _ _ (by rfl) Tryd.func45 (by kernel_rfl) (by kernel_rfl) _ (by simp [Act.eval]) HT.out ?_
      rintro e w7 ⟨rfl, hr7, hk7⟩
      refine ⟨_, rfl, ?_⟩
      have HL7 := Lib.hid (HL5.out.call HR5.out hrB hk7)
      have HR7 := Lib.hid hr7
      have z7 : w7.cell? ⟨p, 1, none⟩ = some (.slice A1 t1 c1) := by rw [cell_of_row _ _ _ _ _ _ HL7.out.blk]; rfl
      clear hr7 hk7 HL5 HR5 HT
      refine HK.out _ _ (.inr z7) ?_
      clear HK
      try simp only [Act.put, List.setIfInBounds_toArray, List.set_cons_zero, List.set_cons_succ]
      refine mOne (i := 4) (by as_aux_lemma => kernel_rfl) rfl (fun K hK => ?_)
      have HK := Lib.hid hK
      clear hK
      rw [if_pos (by rfl)]
      have hb8 : Below w7.heap.size w7 (w7.alloc (.cells #[.string s] 9)) := (Below.refl _ _).alloc (Nat.le_refl _) _
      have HL8 : Hid (PaL B p w3 true (ks.take t) (vs.take t) (is.take t) (.slice A1 t1 c1) (.slice A2 t2 c2) (.slice A3 t3 c3) (w7.alloc (.cells #[.string s] 9))) := HL7.out.below hb8
      have HR8 : Hid (RdLB D (w7.alloc (.cells #[.string s] 9)) r tl) := RdLB.kept HR7.out (Kept.of_below (S := fun _ => False) hb8) (fun k _ hS => hS.elim)
      have z8 : (w7.alloc (.cells #[.string s] 9)).cell? ⟨p, 1, none⟩ = some (.slice A1 t1 c1) := by rw [cell_of_row _ _ _ _ _ _ HL8.out.blk]; rfl
      have HV8 : Hid (ValsAt (w7.alloc (.cells #[.string s] 9)) (some ⟨w7.heap.size, 0, none⟩) [.string s]) := ValsAt.one (heap_alloc_new w7 _)
      clear hb8 HL7 HR7 z7
      go_wp2_with fail
      refine HK.out _ _ (.inr z8) ?_
      clear HK
      try simp only [Act.put, List.setIfInBounds_toArray, List.set_cons_zero, List.set_cons_succ]
      have HB8 : Hid (B ≤ (w7.alloc (.cells #[.string s] 9)).heap.size) := PaL.size' HL8.out.be hBe
      obtain ⟨w8, hw8⟩ : ∃ w8, w7.alloc (.cells #[.string s] 9) = w8 := ⟨_, rfl⟩
      rw [hw8] at HL8 HR8 HV8 HB8 ⊢
      clear z8 hw8
      refine mOne (i := 5) (by as_aux_lemma => kernel_rfl) rfl (fun K hK => ?_)
      have HK := Lib.hid hK
      clear hK
      rw [if_pos (by rfl)]
      refine wp_append_vals elStr _ _ (by rfl) B (.slice A1 t1 c1) (strs (ks.take t)) (by rfl) HL8.out.k (some ⟨w7.heap.size, 0, none⟩) 1 1 [.string s] (by rfl) rfl (fun h => by cases h) HV8.out (by simp; rfl) HlK.out HB8.out ?_
      intro v9 w9 H9
      obtain ⟨A9, c9, hv9, _⟩ := H9.out.1.sl
      obtain ⟨l9, hl9⟩ : ∃ l9, (strs (ks.take t) ++ [Value.string s]).length = l9 := ⟨_, rfl⟩
      rw [hl9] at hv9
      subst hv9
      clear hl9
      have HP9 := Lib.hid (PaL.put1 HL8.out (k := atL ks t) (v9 := .slice A9 l9 c9) (w9 := w9) (by have h9 := H9.out; rw [← HS.out] at h9; exact h9) (D := D) HD.out)
      have z9 := HP9.out.1
      have f9 := HP9.out.2.1
      clear H9 HV8 HB8
      refine HK.out _ _ (.inr z9) ?_
      clear HK
      try simp only [Act.put, List.setIfInBounds_toArray, List.set_cons_zero, List.set_cons_succ]
      refine mOne (i := 6) (by as_aux_lemma => kernel_rfl) rfl (fun K hK => ?_)
      have HK := Lib.hid hK
      clear hK
      rw [if_pos (by rfl)]
      go_wp2_with fail
      refine HK.out _ _ (.inr z9) ?_
      clear HK
      try simp only [Act.put, List.setIfInBounds_toArray, List.set_cons_zero, List.set_cons_succ]
      refine mOne (i := 7) (by as_aux_lemma => kernel_rfl) rfl (fun K hK => ?_)
      have HK := Lib.hid hK
      clear hK
      rw [if_pos (by rfl)]
      go_wp2_with fail
      refine HK.out _ _ (by simp) ?_
      clear HK
      try simp only [Act.put, List.setIfInBounds_toArray, List.set_cons_zero, List.set_cons_succ]
      have HLa := Lib.hid HP9.out.2.2.1
      have HRa := Lib.hid (HP9.out.2.2.2 r tl HR8.out)
      clear HP9 HL8 HR8 z9 f9
      obtain ⟨wa, hwa⟩ : ∃ wa, w9.setCell ⟨p, 1, none⟩ (.slice A9 l9 c9) = wa := ⟨_, rfl⟩
      rw [hwa] at HLa HRa ⊢
      clear hwa
      refine mDone (by as_aux_lemma => kernel_rfl) ?_ _
      have z0 : wa.cell? ⟨p, 0, none⟩ = some (.bool true) := by rw [cell_of_row _ _ _ _ _ _ HLa.out.blk]; rfl
      go_wp2_with fail
      have zk : wa.drew.cell? ⟨p, 2, none⟩ = some (.slice A2 t2 c2) := by rw [cell_of_row _ _ _ _ _ _ (show wa.drew.heap[p]? = _ from HLa.out.blk)]; rfl
      obtain ⟨hTV, hval⟩ := HTV.out rfl
      have HTW := Lib.hid hTV
      rw [show tl = textB (atL vs t) ++ [] from by rw [List.append_nil]; exact HTl.out] at HRa
      have HT : Hid (Calls Tryd.prog 45 #[.pointer (some ⟨r, 0, none⟩), .int .i64 49] wa.drew fun e w' => e = .returned (.string (bstr (atL vs t))) ∧ RdLB D w' r [] ∧ Kept (· = r) wa.drew w') := Text_calls (most := 49) hval (by decide) HRa.out.drew
      obtain ⟨y, hy⟩ : ∃ y, bstr (atL vs t) = y := ⟨_, rfl⟩
      rw [hy] at HT
      have HY := Lib.hid hy
      have HVl : Hid ((atL vs t).length ≤ 1000) := by show _ ≤ _; omega
      clear hTV hval hy
      refine wp_region_M (fun w' => w'.cell? ⟨p, 2, none⟩ = some (.slice A2 t2 c2)) 8 (by as_aux_lemma => kernel_rfl) ?_
      refine mAnyTake (i := 0) (v := .pointer (some ⟨p, 2, none⟩)) (some 39) [0, 1, 6, 7, 8] (by as_aux_lemma => kernel_rfl) rfl rfl (by decide) (by as_aux_lemma => kernel_rfl) rfl rfl (by as_aux_lemma => kernel_rfl) (by as_aux_lemma => kernel_rfl) (by as_aux_lemma => kernel_rfl) (fun _ _ _ h => h) (Or.inl ⟨by rfl, fun w => by go_simp⟩) zk ?_
      try simp only [Act.put, List.setIfInBounds_toArray, List.set_cons_zero, List.set_cons_succ]
      refine mTake (i := 1) (v := .slice A2 t2 c2) (some 40) [1, 6, 7, 8] (by as_aux_lemma => kernel_rfl) rfl rfl (by decide) (by as_aux_lemma => kernel_rfl) rfl rfl (by as_aux_lemma => kernel_rfl) (by as_aux_lemma => kernel_rfl) (by as_aux_lemma => kernel_rfl) (fun _ _ _ h => h) (Or.inl ⟨by rfl, fun w h => by (skip; go_simp)⟩) zk ?_
      try simp only [Act.put, List.setIfInBounds_toArray, List.set_cons_zero, List.set_cons_succ]
      refine mAnyTake (i := 2) (v := .pointer (some ⟨r, 0, none⟩)) (some 41) [2, 3, 4, 5, 6, 7, 8] (by as_aux_lemma => kernel_rfl) rfl rfl (by decide) (by as_aux_lemma => kernel_rfl) rfl rfl (by as_aux_lemma => kernel_rfl) (by as_aux_lemma => kernel_rfl) (by as_aux_lemma => kernel_rfl) (fun _ _ _ h => h) (Or.inl ⟨by rfl, fun w => by go_simp⟩) zk ?_
      try simp only [Act.put, List.setIfInBounds_toArray, List.set_cons_zero, List.set_cons_succ]
      clear zk
      refine mOne (i := 3) (by as_aux_lemma => kernel_rfl) rfl (fun K hK => ?_)
      have HK := Lib.hid hK
      clear hK
      rw [if_pos (by rfl)]
      refine wp_goCall 45 _ _ (by rfl) Tryd.func45 (by kernel_rfl) (by kernel_rfl) _ (by simp [Act.eval]) HT.out ?_
      rintro e wb ⟨rfl, hrb, hkb⟩
      refine ⟨_, rfl, ?_⟩
      have HLb := Lib.hid (HLa.out.call HRa.out hrB hkb)
      have HRb := Lib.hid hrb
      have zb : wb.cell? ⟨p, 2, none⟩ = some (.slice A2 t2 c2) := by rw [cell_of_row _ _ _ _ _ _ HLb.out.blk]; rfl
      have HBb : Hid (B ≤ wb.heap.size) := PaL.size' HLb.out.be hBe
      clear hrb hkb HLa HRa HT
      refine HK.out _ _ (.inr zb) ?_
      clear HK
      try simp only [Act.put, List.setIfInBounds_toArray, List.set_cons_zero, List.set_cons_succ]
      refine mOne (i := 4) (by as_aux_lemma => kernel_rfl) rfl (fun K hK => ?_)
      have HK := Lib.hid hK
      clear hK
      rw [if_pos (by rfl)]
      refine wp_bytes_ofO _ (by rfl) B (atL vs t) y HY.out.symm (by rfl) HVl.out HBb.out ?_
      intro u wc Hc
      obtain ⟨gu, cu, _, _, hu, _⟩ := Hc.out.1
      obtain ⟨lu, hlu⟩ : ∃ lu, (atL vs t).length = lu := ⟨_, rfl⟩
      rw [hlu] at hu
      subst hu
      clear hlu
      have HLc : Hid (PaL B p w3 true (ks.take t ++ [atL ks t]) (vs.take t) (is.take t) (.slice A9 l9 c9) (.slice A2 t2 c2) (.slice A3 t3 c3) wc) := HLb.out.below Hc.out.2
      have HRc : Hid (RdLB D wc r []) := RdLB.kept HRb.out (Kept.of_below (S := fun _ => False) Hc.out.2) (fun k _ hS => hS.elim)
      have zc : wc.cell? ⟨p, 2, none⟩ = some (.slice A2 t2 c2) := by rw [cell_of_row _ _ _ _ _ _ HLc.out.blk]; rfl
      have HUc := Lib.hid Hc.out.1
      clear Hc HLb HRb zb HBb
      refine HK.out _ _ (.inr zc) ?_
      clear HK
      try simp only [Act.put, List.setIfInBounds_toArray, List.set_cons_zero, List.set_cons_succ]
      refine mOne (i := 5) (by as_aux_lemma => kernel_rfl) rfl (fun K hK => ?_)
      have HK := Lib.hid hK
      clear hK
      rw [if_pos (by rfl)]
      have hbd : Below wc.heap.size wc (wc.alloc (.cells #[Value.slice (some ⟨gu, 0, none⟩) lu cu] 30)) := (Below.refl _ _).alloc (Nat.le_refl _) _
      have HLd : Hid (PaL B p w3 true (ks.take t ++ [atL ks t]) (vs.take t) (is.take t) (.slice A9 l9 c9) (.slice A2 t2 c2) (.slice A3 t3 c3) (wc.alloc (.cells #[Value.slice (some ⟨gu, 0, none⟩) lu cu] 30))) := HLc.out.below hbd
      have HRd : Hid (RdLB D (wc.alloc (.cells #[Value.slice (some ⟨gu, 0, none⟩) lu cu] 30)) r []) := RdLB.kept HRc.out (Kept.of_below (S := fun _ => False) hbd) (fun k _ hS => hS.elim)
      have zd : (wc.alloc (.cells #[Value.slice (some ⟨gu, 0, none⟩) lu cu] 30)).cell? ⟨p, 2, none⟩ = some (.slice A2 t2 c2) := by rw [cell_of_row _ _ _ _ _ _ HLd.out.blk]; rfl
      have HVd : Hid (ValsAt (wc.alloc (.cells #[Value.slice (some ⟨gu, 0, none⟩) lu cu] 30)) (some ⟨wc.heap.size, 0, none⟩) [Value.slice (some ⟨gu, 0, none⟩) lu cu]) := ValsAt.one (heap_alloc_new wc _)
      have HUd : Hid (RowF B (wc.alloc (.cells #[Value.slice (some ⟨gu, 0, none⟩) lu cu] 30)) (Value.slice (some ⟨gu, 0, none⟩) lu cu) (atL vs t)) := HUc.out.kept (Kept.of_below (S := fun _ => False) hbd) (fun k _ _ hS _ => hS.elim)
      clear HUc
      clear hbd HLc HRc zc
      go_wp2_with fail
      refine HK.out _ _ (.inr zd) ?_
      clear HK
      try simp only [Act.put, List.setIfInBounds_toArray, List.set_cons_zero, List.set_cons_succ]
      have HBd : Hid (B ≤ (wc.alloc (.cells #[Value.slice (some ⟨gu, 0, none⟩) lu cu] 30)).heap.size) := PaL.size' HLd.out.be hBe
      obtain ⟨wd, hwd⟩ : ∃ wd, wc.alloc (.cells #[Value.slice (some ⟨gu, 0, none⟩) lu cu] 30) = wd := ⟨_, rfl⟩
      rw [hwd] at HLd HRd HVd HBd HUd ⊢
      clear zd hwd
      refine mOne (i := 6) (by as_aux_lemma => kernel_rfl) rfl (fun K hK => ?_)
      have HK := Lib.hid hK
      clear hK
      rw [if_pos (by rfl)]
      obtain ⟨us, hu1, hu2, hu3⟩ := HLd.out.v
      have HUs := Lib.hid (And.intro hu1 (And.intro hu2 hu3))
      have HlV : Hid (us.length + 1 ≤ 1000000000000) := by show _ ≤ _; rw [hu2, List.length_take]; have := hnv; omega
      clear hu1 hu2 hu3
      refine wp_append_vals elRow _ _ (by rfl) B (.slice A2 t2 c2) us (by rfl) HUs.out.1 (some ⟨wc.heap.size, 0, none⟩) 1 1 [Value.slice (some ⟨gu, 0, none⟩) lu cu] (by rfl) rfl (fun h => by cases h) HVd.out (by simp; rfl) HlV.out HBd.out ?_
      intro ve we He
      obtain ⟨Ae, ce, hve, _⟩ := He.out.1.sl
      obtain ⟨le, hle⟩ : ∃ le, (us ++ [Value.slice (some ⟨gu, 0, none⟩) lu cu]).length = le := ⟨_, rfl⟩
      rw [hle] at hve
      subst hve
      clear hle
      have HPe := Lib.hid (PaL.put2 HLd.out HUs.out.1 HUs.out.2.1 HUs.out.2.2 HUd.out (v9 := .slice Ae le ce) (w9 := we) He.out (D := D) HD.out)
      have ze := HPe.out.1
      have fe := HPe.out.2.1
      clear He HVd HBd HUs HUd HlV
      refine HK.out _ _ (.inr ze) ?_
      clear HK
      try simp only [Act.put, List.setIfInBounds_toArray, List.set_cons_zero, List.set_cons_succ]
      refine mOne (i := 7) (by as_aux_lemma => kernel_rfl) rfl (fun K hK => ?_)
      have HK := Lib.hid hK
      clear hK
      rw [if_pos (by rfl)]
      go_wp2_with fail
      refine HK.out _ _ (.inr ze) ?_
      clear HK
      try simp only [Act.put, List.setIfInBounds_toArray, List.set_cons_zero, List.set_cons_succ]
      refine mOne (i := 8) (by as_aux_lemma => kernel_rfl) rfl (fun K hK => ?_)
      have HK := Lib.hid hK
      clear hK
      rw [if_pos (by rfl)]
      go_wp2_with fail
      refine HK.out _ _ (by simp) ?_
      clear HK
      try simp only [Act.put, List.setIfInBounds_toArray, List.set_cons_zero, List.set_cons_succ]
      have HLf := Lib.hid HPe.out.2.2.1
      have HRf := Lib.hid (HPe.out.2.2.2 r [] HRd.out)
      clear HPe HLd HRd ze fe
      obtain ⟨wf, hwf⟩ : ∃ wf, we.setCell ⟨p, 2, none⟩ (.slice Ae le ce) = wf := ⟨_, rfl⟩
      rw [hwf] at HLf HRf ⊢
      clear hwf
      refine mDone (by as_aux_lemma => kernel_rfl) ?_ _
      have HE := Lib.hid (End_calls HRf.out)
      go_wp2_with (go_at_call 47; (with_reducible refine HE.out.mono ?_); rintro e w' ⟨rfl, rfl⟩)
      have HN1 : Hid (∃ x1 x2 x3, PaL B p w3 true (ks.take (t + 1)) (vs.take (t + 1)) (is.take (t + 1)) x1 x2 x3 wf) := ⟨_, _, _, by rw [HTK.out, HTW.out, show is.take (t + 1) = is.take t from HTI2.out rfl]; exact HLf.out⟩
      clear HLf HRf HE
      exact ⟨⟨t + 1, Nat.succ_le_of_lt hlt, rfl, congrArg (Value.int .i64) (Int.natCast_succ t).symm, HN1.out⟩, by simp [intOf]; omega⟩
    · obtain rfl : t = nk := by omega
      have e1 : ks.take t = ks := List.take_of_length_le (by rw [HK.out]; exact Nat.le_refl _)
      have e2 : vs.take t = vs := by first | (exact List.take_of_length_le (by have := (HT1.out 0 rfl).1; omega)) | (rw [(HT0.out 0 rfl).2.1]; simp)
      have e3 : is.take t = is := by first | (exact List.take_of_length_le (by have := (HT0.out 0 rfl).1; omega)) | (rw [(HT1.out 0 rfl).2.1]; simp)
      rw [e1, e2, e3] at HL2
      obtain ⟨p0, p1, p2, p3⟩ := row4_cells HL2.out.blk
      have HNd := Lib.hid (HL2.out.node (Kept.refl (fun _ => False) wr) (fun _ _ _ _ hS _ => hS.elim))
      obtain ⟨hN, rfl, rfl, rfl⟩ := HNd.out
      have HRt : Hid (Calls Tryd.prog 14 #[.agg #[.bool true, .slice A1 ks.length c1, .slice A2 vs.length c2, .slice A3 is.length c3]] wr fun e w' => e = .returned (.bool true) ∧ Below wr.heap.size wr w') := by
        have h := Right_calls hN
        rw [rightB_true HN.out] at h
        exact h
      have hqw : wr.heap[qq]? = some (.cells #[Value.bool false, Value.slice none 0 0, Value.slice none 0 0, Value.slice none 0 0] 28 (0, 0)) := (HL2.out.be.block qq (by rw [hBe]; exact HQB.out.1) (by omega)).trans HQ.out
      have HQW := Lib.hid hqw
      have HB4 : Hid (Below qq w wr) := HB3.out.trans (HL2.out.be.below (by rw [hBe]; exact Nat.le_of_lt HQB.out.1) (fun k hk e => by have e' : k = p := e; omega))
      clear e1 e2 e3 hN HNd hqw
      go_wp2_with (go_at_call 14; (with_reducible refine HRt.out.mono ?_); rintro e w6 ⟨rfl, hb6⟩; refine park ?_; intro q hq)
      have hp6 := (hb6.block p (Array.getElem?_eq_some_iff.1 HL2.out.blk).1).trans HL2.out.blk
      have hq6 := (hb6.block qq (Array.getElem?_eq_some_iff.1 HQW.out).1).trans HQW.out
      have HL6 := Lib.hid (HL2.out.below hb6)
      have HB6 : Hid (Below qq w w6) := HB4.out.trans (hb6.mono (Nat.le_of_lt (Array.getElem?_eq_some_iff.1 HQW.out).1))
      have HQ6 := Lib.hid hq6
      clear p0 p1 p2 p3
      obtain ⟨p0, p1, p2, p3⟩ := row4_cells hp6
      obtain ⟨z0, z1, z2, z3⟩ := row4_cells hq6
      obtain ⟨f0, f1, f2, f3⟩ := row4_frozen hq6
      clear hp6 hq6 hb6 HRt HQW HB4
      refine hq.out ?_
      clear hq
      go_wp2_with fail
      obtain ⟨g1, g2⟩ := row4_put HQ6.out (.bool true) (.slice A1 ks.length c1) (.slice A2 vs.length c2) (.slice A3 is.length c3)
      refine bodyPost_ret_by (results_cellTmp rfl _ rfl rfl (run_retNode g1)) rfl ?_
      refine ⟨A1, c1, A2, c2, A3, c3, by rw [HK.out]; rfl, (HL6.out.node g2 (fun k cs t fz hS hc => ?_)).1, ?_⟩
      · rw [show k = qq from hS, HQ6.out] at hc; injection hc with hc; injection hc with _ h4 _; exact h4.symm
      · rw [HQQ.out]
        exact HB6.out.trans (g2.below (Nat.le_of_lt (Array.getElem?_eq_some_iff.1 HQ6.out).1) (fun k hk e => by have e' : k = qq := e; omega))
def kindN (n : NodeM) : UInt8 := if n.leaf then 5 else 6
theorem Parse_calls {w : World} {n : NodeM} {l : List UInt8} {no b o c : Nat} (hn : RightM n) (hkl : n.keys.length ≤ 1000) (hP : PgL l no (kindN n) (cellsB n)) (hno : no ≤ 2147483647) (hb : Bytes w (some ⟨b, o, none⟩) l) (hc : 256 ≤ c) (hcm : c ≤ 9223372036854775807) :
    Calls Tryd.prog 21 #[.slice (some ⟨b, o, none⟩) 256 c] w fun e w' => ∃ kB kd vB vd iB id, e = .returned (.tuple #[.agg #[.bool n.leaf, .slice kB n.keys.length kd, .slice vB n.vals.length vd, .slice iB n.kids.length id], .int .i64 0]) ∧ Hid (NodeAt w' n kB kd vB vd iB id ∧ Below w.heap.size w w') := by
  obtain ⟨lf, ks, vs, is⟩ := n
  cases lf
  · exact Parse_inner hn hkl hP hno hb hc hcm
  · exact Parse_leaf hn hkl hP hno hb hc hcm
end Go.Proofs.YtibmlgkakeakcaaDoor
/- The chapter's example of nodes. -/
set_option linter.unusedSimpArgs false
set_option linter.unusedVariables false
namespace Go.Proofs.YtibmlgkakeakcaaDoor
open Go.RowKit Go.Proofs.YtibmlgkakeakcaaDoor.Crc
/-- A node that fits has a page. -/
theorem bytesN_fit {no : Int} {n : NodeM} (hf : fitsB n = true) (h0 : 0 ≤ no) (h1 : no ≤ 2147483647) : ∃ l, bytesN no n = (l, 0) ∧ l.length = 256 ∧ PgL l no.toNat (kindN n) (cellsB n) := by
  have hr : rightB n = true := by unfold fitsB at hf; rw [Bool.and_eq_true] at hf; exact hf.1
  have ht : takenN n ≤ 244 := by
    unfold fitsB at hf
    rw [hr, Bool.true_and, decide_eq_true_iff] at hf
    unfold takenB at hf
    rw [hr] at hf
    exact hf
  have hfit : fitC (cellsB n) := (takenN_fit n).1 ht
  have hk : (if n.leaf then 5 else 6 : UInt8) ≠ 0 := by cases n.leaf <;> decide
  have hP := pgl_page no.toNat (kindN n) (cellsB n) hfit
  refine ⟨_, ?_, hP.len, hP⟩
  unfold bytesN
  rw [hr, hf]
  simp only [if_true]
  unfold fillP
  rw [if_neg (by rintro (h | h | h); omega; omega; exact hk h), if_pos (show 2 * (cellsB n).length + sizC (cellsB n) ≤ 244 from hfit)]
  rfl
/-- Bytes of a node that fits: the walk's result. -/
theorem Bytes_fit {w : World} {n : NodeM} {kA : Option Addr} {kc : Nat} {vA : Option Addr} {vc : Nat} {iA : Option Addr} {ic : Nat} (no : Int) (h : NodeAt w n kA kc vA vc iA ic) (hn : n.keys.length ≤ 1000) {pg : List UInt8} (hb : bytesN no n = (pg, 0)) (hl : pg.length = 256) :
    Calls Tryd.prog 10 #[.int .i64 no, .agg #[.bool n.leaf, .slice kA n.keys.length kc, .slice vA n.vals.length vc, .slice iA n.kids.length ic]] w fun e w' => ∃ g c, e = .returned (.tuple #[.slice (some ⟨g, 0, none⟩) 256 c, .int .i64 0]) ∧ Hid (Bytes w' (some ⟨g, 0, none⟩) pg ∧ 256 ≤ c ∧ c ≤ 9223372036854775807 ∧ Below w.heap.size w w') := by
  refine (Bytes_calls no h hn).mono ?_
  rintro e w' ⟨A, c, rfl, hO, hB⟩
  rw [hb] at hO ⊢
  simp only at hO ⊢
  rcases hO.form with ⟨_, h2⟩ | ⟨g, c', e1, _⟩
  · rw [h2] at hl; cases hl
  · obtain ⟨rfl, _, rfl⟩ : A = some ⟨g, 0, none⟩ ∧ pg.length = pg.length ∧ c = c' := by simpa using e1
    have hc := hO.caps
    rw [hl] at hc ⊢
    exact ⟨g, c, rfl, hO.bytes, hc.2.1, hc.2.2.1, hB⟩
def nW : NodeM := ⟨true, [[97]], [[120, 121]], []⟩
theorem nW_right : RightM nW := by
  refine ⟨fun i hi => ?_, ?_⟩
  · have : i = 0 := by simpa [nW] using hi
    subst this
    exact ⟨by decide, fun h => absurd h (by decide)⟩
  · show _ ∧ _
    refine ⟨rfl, rfl, ?_⟩
    intro v hv
    simp [nW] at hv
    subst hv
    decide
theorem nW_taken : takenB nW = 7 := by
  unfold takenB; rw [rightB_true nW_right]
  simp [takenN, sizeN, cellsB, cellB, nW, textB, atL, sizC, putU_small, List.range_succ]
theorem nW_fits : fitsB nW = true := by unfold fitsB; rw [rightB_true nW_right, nW_taken]; rfl
theorem nW_find : findN nW [98] = (1, false) := by
  unfold findN
  rw [rightB_true nW_right]
  have h1 : ltB (atL nW.keys 0) [98] = true := by simp [nW, atL, ltB_cons]
  have : placeN nW.keys [98] = 1 := placeN_eq _ _ 1 (by decide) (fun i hi => (by obtain rfl : i = 0 := by omega
                                                                                 exact h1)) (fun h => absurd h (by decide))
  simp only [this]
  rfl
theorem nW_at (w : World) : NodeAt ((((w.alloc (.cells #[.string { data := #[97] }] 9)).alloc (.cells #[.int .u8 120, .int .u8 121] 5 (2, 3))).alloc (.cells #[.slice (some ⟨w.heap.size + 1, 0, none⟩) 2 2] 30)).alloc (.cells #[.bool true, .slice (some ⟨w.heap.size, 0, none⟩) 1 1, .slice (some ⟨w.heap.size + 2, 0, none⟩) 1 1, .slice none 0 0] 28)) nW (some ⟨w.heap.size, 0, none⟩) 1 (some ⟨w.heap.size + 2, 0, none⟩) 1 none 0 ∧
    Below w.heap.size w ((((w.alloc (.cells #[.string { data := #[97] }] 9)).alloc (.cells #[.int .u8 120, .int .u8 121] 5 (2, 3))).alloc (.cells #[.slice (some ⟨w.heap.size + 1, 0, none⟩) 2 2] 30)).alloc (.cells #[.bool true, .slice (some ⟨w.heap.size, 0, none⟩) 1 1, .slice (some ⟨w.heap.size + 2, 0, none⟩) 1 1, .slice none 0 0] 28)) ∧
    ((((w.alloc (.cells #[.string { data := #[97] }] 9)).alloc (.cells #[.int .u8 120, .int .u8 121] 5 (2, 3))).alloc (.cells #[.slice (some ⟨w.heap.size + 1, 0, none⟩) 2 2] 30)).alloc (.cells #[.bool true, .slice (some ⟨w.heap.size, 0, none⟩) 1 1, .slice (some ⟨w.heap.size + 2, 0, none⟩) 1 1, .slice none 0 0] 28)).heap[w.heap.size + 3]? = some (.cells #[.bool true, .slice (some ⟨w.heap.size, 0, none⟩) 1 1, .slice (some ⟨w.heap.size + 2, 0, none⟩) 1 1, .slice none 0 0] 28 (0, 0)) := by
  obtain ⟨w1, h1⟩ : ∃ x, w.alloc (.cells #[.string { data := #[97] }] 9) = x := ⟨_, rfl⟩
  rw [h1]
  obtain ⟨w2, h2⟩ : ∃ x, w1.alloc (.cells #[.int .u8 120, .int .u8 121] 5 (2, 3)) = x := ⟨_, rfl⟩
  rw [h2]
  obtain ⟨w3, h3⟩ : ∃ x, w2.alloc (.cells #[.slice (some ⟨w.heap.size + 1, 0, none⟩) 2 2] 30) = x := ⟨_, rfl⟩
  rw [h3]
  obtain ⟨w4, h4⟩ : ∃ x, w3.alloc (.cells #[.bool true, .slice (some ⟨w.heap.size, 0, none⟩) 1 1, .slice (some ⟨w.heap.size + 2, 0, none⟩) 1 1, .slice none 0 0] 28) = x := ⟨_, rfl⟩
  rw [h4]
  have a0 : w1.heap[w.heap.size]? = some (.cells #[.string { data := #[97] }] 9) := by rw [← h1]; exact heap_alloc_new w _
  have s1 : w1.heap.size = w.heap.size + 1 := by rw [← h1]; simp
  have s2 : w2.heap.size = w.heap.size + 2 := by rw [← h2]; simp [s1]
  have s3 : w3.heap.size = w.heap.size + 3 := by rw [← h3]; simp [s2]
  have a1 : w2.heap[w.heap.size + 1]? = some (.cells #[.int .u8 120, .int .u8 121] 5 (2, 3)) := by rw [← h2, ← s1]; exact heap_alloc_new w1 _
  have a2 : w3.heap[w.heap.size + 2]? = some (.cells #[.slice (some ⟨w.heap.size + 1, 0, none⟩) 2 2] 30) := by rw [← h3, ← s2]; exact heap_alloc_new w2 _
  have a3 : w4.heap[w.heap.size + 3]? = some (.cells #[.bool true, .slice (some ⟨w.heap.size, 0, none⟩) 1 1, .slice (some ⟨w.heap.size + 2, 0, none⟩) 1 1, .slice none 0 0] 28) := by rw [← h4, ← s3]; exact heap_alloc_new w3 _
  have b1 : Below w.heap.size w w1 := by rw [← h1]; exact (Below.refl _ _).alloc (Nat.le_refl _) _
  have b2 : Below (w.heap.size + 1) w1 w2 := by rw [← h2, ← s1]; exact (Below.refl _ _).alloc (Nat.le_refl _) _
  have b3 : Below (w.heap.size + 2) w2 w3 := by rw [← h3, ← s2]; exact (Below.refl _ _).alloc (Nat.le_refl _) _
  have b4 : Below (w.heap.size + 3) w3 w4 := by rw [← h4, ← s3]; exact (Below.refl _ _).alloc (Nat.le_refl _) _
  have b23 : Below (w.heap.size + 1) w1 w3 := b2.trans (b3.mono (by omega))
  have b24 : Below (w.heap.size + 1) w1 w4 := b23.trans (b4.mono (by omega))
  have b34 : Below (w.heap.size + 2) w2 w4 := b3.trans (b4.mono (by omega))
  have c0 := (b24.block w.heap.size (by omega)).trans a0
  have c1 := (b34.block (w.heap.size + 1) (by omega)).trans a1
  have c2 := (b4.block (w.heap.size + 2) (by omega)).trans a2
  have B1 : Bytes w4 (some ⟨w.heap.size + 1, 0, none⟩) [120, 121] := bytes_of_block c1 rfl
  refine ⟨⟨fun k hk => ?_, fun i hi => ?_, ValsAt.nil _ _, ⟨(fun h => by cases h), by decide, by decide⟩, ⟨(fun h => by cases h), by decide, by decide⟩, ⟨fun _ => rfl, by decide, by decide⟩⟩, b1.trans (b24.mono (by omega)), a3⟩
  · obtain rfl : k = 0 := by have : k < 1 := hk; omega
    exact ⟨_, rfl, by rw [Addr.add_lit, cell_of_row _ _ _ _ _ _ c0]; rfl⟩
  · obtain rfl : i = 0 := by have : i < 1 := hi; omega
    exact ⟨_, some ⟨w.heap.size + 1, 0, none⟩, 2, rfl, by rw [Addr.add_lit, cell_of_row _ _ _ _ _ _ c2]; rfl, rfl, B1, Nat.le_refl 2, (show (2 : Nat) ≤ 9223372036854775807 by decide), fun h => by cases h⟩
set_option maxRecDepth 10000 in
set_option maxHeartbeats 2000000 in
theorem works14_calls (w : World) : Calls Tryd.prog 20 #[] w fun e w' => e = .returned (.bool true) ∧ Below w.heap.size w w' := by
  have kc : (Go.convert 30 30 (.slice (some ⟨w.heap.size + 1, 0, none⟩) 2 2)).run Tryd.prog ((w.alloc (.cells #[.string { data := #[97] }] 9)).alloc (.cells #[.int .u8 120, .int .u8 121] 5)) = .ok (.slice (some ⟨w.heap.size + 1, 0, none⟩) 2 2) ((w.alloc (.cells #[.string { data := #[97] }] 9)).alloc (.cells #[.int .u8 120, .int .u8 121] 5 (2, 3))) := by
    have h := Lib.run_convert_bytes_const (P := Tryd.prog) (w.alloc (.cells #[.string { data := #[97] }] 9)) 30 5 #[.int .u8 120, .int .u8 121] 2 2 Tryd.underlying30 Tryd.underlying5
    rw [show (w.alloc (.cells #[.string { data := #[97] }] 9)).heap.size = w.heap.size + 1 from by simp] at h
    exact h
  obtain ⟨hNd, hBw, hrow⟩ := nW_at w
  obtain ⟨pg, hpg, hpl, hP⟩ := bytesN_fit (no := 3) nW_fits (by decide) (by decide)
  have HF : Hid (Calls Tryd.prog 12 #[.agg #[.bool true, .slice (some ⟨w.heap.size, 0, none⟩) 1 1, .slice (some ⟨w.heap.size + 2, 0, none⟩) 1 1, .slice none 0 0], .string { data := #[98] }] ((((w.alloc (.cells #[.string { data := #[97] }] 9)).alloc (.cells #[.int .u8 120, .int .u8 121] 5 (2, 3))).alloc (.cells #[.slice (some ⟨w.heap.size + 1, 0, none⟩) 2 2] 30)).alloc (.cells #[.bool true, .slice (some ⟨w.heap.size, 0, none⟩) 1 1, .slice (some ⟨w.heap.size + 2, 0, none⟩) 1 1, .slice none 0 0] 28)) fun e w' => e = .returned (.tuple #[.int .i64 1, .bool false]) ∧ Hid (Below ((((w.alloc (.cells #[.string { data := #[97] }] 9)).alloc (.cells #[.int .u8 120, .int .u8 121] 5 (2, 3))).alloc (.cells #[.slice (some ⟨w.heap.size + 1, 0, none⟩) 2 2] 30)).alloc (.cells #[.bool true, .slice (some ⟨w.heap.size, 0, none⟩) 1 1, .slice (some ⟨w.heap.size + 2, 0, none⟩) 1 1, .slice none 0 0] 28)).heap.size ((((w.alloc (.cells #[.string { data := #[97] }] 9)).alloc (.cells #[.int .u8 120, .int .u8 121] 5 (2, 3))).alloc (.cells #[.slice (some ⟨w.heap.size + 1, 0, none⟩) 2 2] 30)).alloc (.cells #[.bool true, .slice (some ⟨w.heap.size, 0, none⟩) 1 1, .slice (some ⟨w.heap.size + 2, 0, none⟩) 1 1, .slice none 0 0] 28)) w')) := by
    have h := Find_calls [98] hNd (by decide)
    rw [nW_find] at h
    exact h
  obtain ⟨W1, hW1⟩ : ∃ x, ((((w.alloc (.cells #[.string { data := #[97] }] 9)).alloc (.cells #[.int .u8 120, .int .u8 121] 5 (2, 3))).alloc (.cells #[.slice (some ⟨w.heap.size + 1, 0, none⟩) 2 2] 30)).alloc (.cells #[.bool true, .slice (some ⟨w.heap.size, 0, none⟩) 1 1, .slice (some ⟨w.heap.size + 2, 0, none⟩) 1 1, .slice none 0 0] 28)) = x := ⟨_, rfl⟩
  rw [hW1] at hNd hBw hrow
  have HW1 := Lib.hid hW1
  have HN := Lib.hid hNd
  have HBw := Lib.hid hBw
  have HX := Lib.hid (box_cells hrow)
  have HBy : Hid (∀ w', Below W1.heap.size W1 w' → Calls Tryd.prog 10 #[.int .i64 3, .agg #[.bool true, .slice (some ⟨w.heap.size, 0, none⟩) 1 1, .slice (some ⟨w.heap.size + 2, 0, none⟩) 1 1, .slice none 0 0]] w' fun e w'' => ∃ g c, e = .returned (.tuple #[.slice (some ⟨g, 0, none⟩) 256 c, .int .i64 0]) ∧ Hid (Bytes w'' (some ⟨g, 0, none⟩) pg ∧ 256 ≤ c ∧ c ≤ 9223372036854775807 ∧ Below w'.heap.size w' w'')) := fun w' hb => Bytes_fit 3 (HN.out.below hb) (by decide) hpg hpl
  have HPa : Hid (∀ w' g c, Bytes w' (some ⟨g, 0, none⟩) pg → 256 ≤ c → c ≤ 9223372036854775807 → Calls Tryd.prog 21 #[.slice (some ⟨g, 0, none⟩) 256 c] w' fun e w'' => ∃ kB kd vB vd iB id, e = .returned (.tuple #[.agg #[.bool true, .slice kB 1 kd, .slice vB 1 vd, .slice iB 0 id], .int .i64 0]) ∧ Hid (NodeAt w'' nW kB kd vB vd iB id ∧ Below w'.heap.size w' w'')) := fun w' g c hb h1 h2 => Parse_calls nW_right (by decide) hP (by decide) hb h1 h2
  have HRt : Hid (∀ w', Below W1.heap.size W1 w' → Calls Tryd.prog 14 #[.agg #[.bool true, .slice (some ⟨w.heap.size, 0, none⟩) 1 1, .slice (some ⟨w.heap.size + 2, 0, none⟩) 1 1, .slice none 0 0]] w' fun e w'' => e = .returned (.bool true) ∧ Below w'.heap.size w' w'') := fun w' hb => by
    have h := Right_calls (HN.out.below hb)
    rw [rightB_true nW_right] at h
    exact h
  have HTk : Hid (∀ w', Below W1.heap.size W1 w' → Calls Tryd.prog 16 #[.agg #[.bool true, .slice (some ⟨w.heap.size, 0, none⟩) 1 1, .slice (some ⟨w.heap.size + 2, 0, none⟩) 1 1, .slice none 0 0]] w' fun e w'' => e = .returned (.int .i64 7) ∧ Below w'.heap.size w' w'') := fun w' hb => by
    have h := Taken_calls (HN.out.below hb) (by decide)
    rw [nW_taken] at h
    exact h
  have HFt : Hid (∀ w', Below W1.heap.size W1 w' → Calls Tryd.prog 18 #[.agg #[.bool true, .slice (some ⟨w.heap.size, 0, none⟩) 1 1, .slice (some ⟨w.heap.size + 2, 0, none⟩) 1 1, .slice none 0 0]] w' fun e w'' => e = .returned (.bool true) ∧ Below w'.heap.size w' w'') := fun w' hb => by
    have h := Fits_calls (HN.out.below hb) (by decide)
    rw [nW_fits] at h
    exact h
  have HSa : Hid (∀ w' kB kd vB vd iB id, NodeAt w' nW kB kd vB vd iB id → Below W1.heap.size W1 w' → Calls Tryd.prog 19 #[.agg #[.bool true, .slice kB 1 kd, .slice vB 1 vd, .slice iB 0 id], .agg #[.bool true, .slice (some ⟨w.heap.size, 0, none⟩) 1 1, .slice (some ⟨w.heap.size + 2, 0, none⟩) 1 1, .slice none 0 0]] w' fun e w'' => e = .returned (.bool true) ∧ Hid (Below w'.heap.size w' w'')) := fun w' kB kd vB vd iB id h hb => by
    have h := Same14_calls h (HN.out.below hb)
    rw [sameB_true rfl] at h
    exact h
  clear hNd hBw hrow hpg hpl hP hW1
  go_enter Tryd.func20, Tryd.ntmps20
  go_wp2_with (go_at_call 12; (with_reducible refine HF.out.mono ?_); rintro e w2 ⟨rfl, hb2⟩; refine park ?_; intro q hq)
  rw [HW1.out] at hb2
  refine hq.out ?_
  clear hq
  obtain ⟨x0, x1, x2, x3⟩ := HX.out _ hb2.out
  have H2 := Lib.hid (HBy.out w2 hb2.out)
  go_wp2_with (go_at_call 10; (with_reducible refine H2.out.mono ?_); rintro e w3 ⟨g3, c3, rfl, hb3⟩; refine park ?_; intro q hq)
  refine hq.out ?_
  clear hq x0 x1 x2 x3 H2
  have hB3 : Hid (Below W1.heap.size W1 w3) := hb2.out.trans (hb3.out.2.2.2.mono hb2.out.size)
  have H3 := Lib.hid (HPa.out w3 g3 c3 hb3.out.1 hb3.out.2.1 hb3.out.2.2.1)
  obtain ⟨x0, x1, x2, x3⟩ := HX.out _ hB3.out
  go_wp2_with (go_at_call 21; (with_reducible refine H3.out.mono ?_); rintro e w4 ⟨kB, kd, vB, vd, iB, id, rfl, hb4⟩; refine park ?_; intro q hq)
  refine hq.out ?_
  clear hq x0 x1 x2 x3 H3
  have hba : Below w4.heap.size w4 (w4.alloc (.cells #[.bool true, .slice kB 1 kd, .slice vB 1 vd, .slice iB 0 id] 28)) := (Below.refl _ _).alloc (Nat.le_refl _) _
  have hB4 : Hid (Below W1.heap.size W1 (w4.alloc (.cells #[.bool true, .slice kB 1 kd, .slice vB 1 vd, .slice iB 0 id] 28))) := hB3.out.trans ((hb4.out.2.trans (hba.mono hb4.out.2.size)).mono hB3.out.size)
  have HN4 : Hid (NodeAt (w4.alloc (.cells #[.bool true, .slice kB 1 kd, .slice vB 1 vd, .slice iB 0 id] 28)) nW kB kd vB vd iB id) := hb4.out.1.below hba
  have HY := Lib.hid (box_cells (heap_alloc_new w4 (.cells #[.bool true, .slice kB 1 kd, .slice vB 1 vd, .slice iB 0 id] 28)))
  clear hba
  obtain ⟨x0, x1, x2, x3⟩ := HX.out _ hB4.out
  have H5 := Lib.hid (HRt.out _ hB4.out)
  go_wp2_with (go_at_call 14; (with_reducible refine H5.out.mono ?_); rintro e w5 ⟨rfl, hb5⟩; refine park ?_; intro q hq)
  have hB5 : Hid (Below W1.heap.size W1 w5) := hB4.out.trans (hb5.mono hB4.out.size)
  have HN5 : Hid (NodeAt w5 nW kB kd vB vd iB id) := HN4.out.below hb5
  have hb5' := Lib.hid hb5
  clear hb5 x0 x1 x2 x3 H5 HN4
  refine hq.out ?_
  clear hq
  obtain ⟨x0, x1, x2, x3⟩ := HX.out _ hB5.out
  have H6 := Lib.hid (HTk.out _ hB5.out)
  go_wp2_with (go_at_call 16; (with_reducible refine H6.out.mono ?_); rintro e w6 ⟨rfl, hb6⟩; refine park ?_; intro q hq)
  have hB6 : Hid (Below W1.heap.size W1 w6) := hB5.out.trans (hb6.mono hB5.out.size)
  have HN6 : Hid (NodeAt w6 nW kB kd vB vd iB id) := HN5.out.below hb6
  have hb6' := Lib.hid (hb5'.out.trans (hb6.mono hb5'.out.size))
  clear hb6 x0 x1 x2 x3 H6 HN5 hb5'
  refine hq.out ?_
  clear hq
  obtain ⟨x0, x1, x2, x3⟩ := HX.out _ hB6.out
  have H7 := Lib.hid (HFt.out _ hB6.out)
  go_wp2_with (go_at_call 18; (with_reducible refine H7.out.mono ?_); rintro e w7 ⟨rfl, hb7⟩; refine park ?_; intro q hq)
  have hB7 : Hid (Below W1.heap.size W1 w7) := hB6.out.trans (hb7.mono hB6.out.size)
  have HN7 : Hid (NodeAt w7 nW kB kd vB vd iB id) := HN6.out.below hb7
  have hb7' := Lib.hid (hb6'.out.trans (hb7.mono hb6'.out.size))
  clear hb7 x0 x1 x2 x3 H7 HN6 hb6'
  refine hq.out ?_
  clear hq
  obtain ⟨x0, x1, x2, x3⟩ := HX.out _ hB7.out
  obtain ⟨y0, y1, y2, y3⟩ := HY.out _ hb7'.out
  have H8 := Lib.hid (HSa.out w7 kB kd vB vd iB id HN7.out hB7.out)
  go_wp2_with (go_at_call 19; (with_reducible refine H8.out.mono ?_); rintro e w8 ⟨rfl, hb8⟩; refine park ?_; intro q hq)
  refine hq.out ?_
  clear hq
  go_wp2_with fail
  go_ret
  exact ⟨rfl, HBw.out.trans ((hB7.out.trans (hb8.out.mono hB7.out.size)).mono HBw.out.size)⟩
end Go.Proofs.YtibmlgkakeakcaaDoor
