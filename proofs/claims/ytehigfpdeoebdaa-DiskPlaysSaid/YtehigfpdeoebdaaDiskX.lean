/- The disk: Write. -/
import Derived.Test.YtehigfpdeoebdaaDiskF
set_option linter.unusedSimpArgs false
set_option linter.unusedVariables false
namespace Go.Proofs.Ytehigfpdeoebdaa.Dsk
open Go.RowKit
def DiskM.put (d : DiskM) (i : Int) (l : List UInt8) : DiskM := { d with wait := d.wait ++ [(i, l)], bud := d.bud + 1 }
def DiskM.write (d : DiskM) (i : Int) (l : List UInt8) : DiskM := (d.put i l).step
theorem info71b : (Try.prog.info? 66).map (fun i => (i.zero, i.size, i.bytes)) = some (some (entV (0, zsec)), 257, 264) := by kernel_rfl
theorem fill_foldl (l : List Value) : ∀ (pre cs : List Value), cs.length = l.length →
    (l.zipIdx pre.length).foldl (fun (cs : Array Value) (x : Value × Nat) => cs.setIfInBounds x.2 x.1) (pre ++ cs).toArray = (pre ++ l).toArray := by
  induction l with
  | nil => intro pre cs h; rw [List.eq_nil_of_length_eq_zero h]; rfl
  | cons v l ih =>
    intro pre cs h
    cases cs with
    | nil => simp at h
    | cons c cs =>
      simp only [List.zipIdx_cons, List.foldl_cons]
      have e : (pre ++ c :: cs).toArray.setIfInBounds pre.length v = ((pre ++ [v]) ++ cs).toArray := by
        simp
      rw [e]
      have := ih (pre ++ [v]) cs (by simpa using h)
      simp only [List.length_append, List.length_singleton] at this
      rw [this]; simp
theorem run_buildSlice71 (w : World) (e : Int × List UInt8) (he : e.2.length = 256) :
    (Instr.buildSlice 51 1 #[(0, .agg (entL e).toArray)]).run Try.prog w = .ok (.slice (some ⟨w.heap.size, 0, none⟩) 1 1) (w.alloc (.cells (entL e).toArray 66)) := by
  have hu : Try.prog.underlying 51 = some (.slice 66) := by kernel_rfl
  have hs : (sizeOf 66).run Try.prog w = .ok 257 w := by
    have := size71
    cases hq : Try.prog.info? 66 with
    | none => rw [hq] at this; cases this
    | some i => rw [hq] at this; simp [sizeOf, typeInfo, hq]; simpa using this
  have hf : Instr.fill (fun i => some (i * 257, 257)) ((Array.range (1 * 257)).map (fun x => (entV (0, zsec)).cells[x % (entV (0, zsec)).cells.size]!)) [(0, .agg (entL e).toArray)] = some (entL e).toArray := by
    have hl := entL_length e he
    generalize hX : ((Array.range (1 * 257)).map (fun x => (entV (0, zsec)).cells[x % (entV (0, zsec)).cells.size]!)) = X
    have hX' : X.size = 257 := by rw [← hX]; simp
    obtain ⟨cs, rfl⟩ : ∃ cs : List Value, X = cs.toArray := ⟨X.toList, by simp⟩
    have := fill_foldl (entL e) [] cs (by simpa [hl] using hX')
    simp only [List.nil_append, List.length_nil] at this
    simp [Instr.fill, Value.cells, hl]
    have h2 : cs.length = 257 := by simpa using hX'
    simp [h2, this]
  have h0 : ¬ (1 * 257 > 2 ^ 24) := by decide
  have h1 : ¬ (1 * 257 = 0) := by decide
  simp only [Instr.buildSlice, Sem.run_bind, run_underlying hu, Result.andThen_ok, hs, h0, if_false, h1, zero71, Sem.run_pure, hf, newRow, run_newObj_alloc]
/-! a region that draws its order, by hand -/
section
variable {P : Program} {ops : Array Oper} {Q : Exit → Act → World → Prop} {md : Region.Mode} {a : Act} {w : World} {K : Act → World → Prop} {o : Oper} {ys : Nat → Bool}
theorem wpAny_takeTo {i : Nat} {oi : Oper} {v : Value} {fuel : Nat} {listed : Array Bool} (dst : Option Tmp) (hi : ops[i]? = some oi) (hd : oi.dst = dst)
    (hs : Region.noSelect ops = true) (hf : Region.free md ops listed i = true) (hr : (Region.ready md ops listed).contains i = true)
    (hQ : ∀ c a w, Q (.panic c) (a.put dst v) w → Q (.panic c) a w) (hy : Yields P ops oi v a)
    (h : wpAny P md ops Q fuel (listed.setIfInBounds i true) (a.put dst v) w) : wpAny P md ops Q (fuel + 1) listed a w := by
  subst hd
  exact wpAny_take hi hs hf hr hQ hy h
theorem step_run {E : Prop} {b : Bool} (dst : Option Tmp) (hb : b = true) (hd : o.dst = dst) (v : Value) (w' : World) (hrun : (execOp a.eval o).run P w = .ok (.value v) w') (hK : K (a.put dst v) w') : if b = true then o.wp P a w K Q else E := by
  subst hd
  rw [if_pos hb]
  unfold Oper.wp
  rw [hrun, Oper.upon_value]
  exact hK
theorem step_load {E : Prop} {b : Bool} (dst : Option Tmp) (hb : b = true) (hd : o.dst = dst) (t : TypeId) (x : Operand) (ho : o.op = .load t x) (p v : Value) (hx : a.eval x = p) (hrun : (Instr.loadAt t p).run P w = .ok v w) (hK : K (a.put dst v) w) : if b = true then o.wp P a w K Q else E := by
  refine step_run dst hb hd v w ?_ hK
  unfold execOp
  simp only [ho, hx, hrun, Sem.run_bind, Result.andThen_ok, Sem.run_pure]
theorem step_build {E : Prop} {b : Bool} (dst : Option Tmp) (hb : b = true) (hd : o.dst = dst) (t : TypeId) (x : Operand) (ho : o.op = .buildSlice t 1 #[(0, x)]) (p v : Value) (w' : World) (hx : a.eval x = p) (hrun : (Instr.buildSlice t 1 #[(0, p)]).run P w = .ok v w') (hK : K (a.put dst v) w') : if b = true then o.wp P a w K Q else E := by
  refine step_run dst hb hd v w' ?_ hK
  unfold execOp
  simp only [ho, List.map_toArray, List.map_cons, List.map_nil, hx, hrun, Sem.run_bind, Result.andThen_ok, Sem.run_pure]
theorem step_append {E : Prop} {b : Bool} (dst : Option Tmp) (hb : b = true) (hd : o.dst = dst) (t ty : TypeId) (s x : Operand) (ho : o.op = .call { callee := .builtin .append, args := #[s, x], argTypes := #[t, t] }) (hty : o.type = ty) (p q v : Value) (w' : World) (hs : a.eval s = p) (hx : a.eval x = q) (hrun : (Builtin.append_ #[t, t] ty #[p, q]).run P w = .ok v w') (hK : K (a.put dst v) w') : if b = true then o.wp P a w K Q else E := by
  refine step_run dst hb hd v w' ?_ hK
  unfold execOp
  simp only [ho, resolve, invoke, builtin, hty, Sem.run_bind, Sem.run_pure, Result.andThen_ok, List.map_toArray, List.map_cons, List.map_nil, hs, hx, hrun]
theorem step_store {E : Prop} {b : Bool} (hb : b = true) (hd : o.dst = none) (t : TypeId) (x y : Operand) (ho : o.op = .store t x y) (p v : Value) (w' : World) (hx : a.eval x = p) (hy : a.eval y = v) (hrun : (Instr.storeAt t p v).run P w = .ok () w') (hK : K a w') : if b = true then o.wp P a w K Q else E := by
  rw [if_pos hb]
  unfold Oper.wp execOp
  simp only [ho, hx, hy, hrun, Sem.run_bind, Result.andThen_ok, Sem.run_pure]
  have : a.put o.dst undef = a := by rw [hd]; rfl
  first | exact hK | (show K (a.put o.dst undef) w'; rw [this]; exact hK)
end
theorem splice_ent (i : Int) (z l : List UInt8) (hz : z.length = 256) (hl : l.length = 256) : splice (entL (i, z)) 1 (cells8 l) = entL (i, l) := by
  unfold splice
  rw [cells8_length, hl, List.drop_of_length_le (by rw [entL_length _ hz]; decide)]
  simp [entL]
theorem entCells_snoc (l : List (Int × List UInt8)) (e : Int × List UInt8) : entCells (l ++ [e]) = entCells l ++ entL e := by simp [entCells]
theorem load61 {w : World} {a k : Nat} {v : Value} (h : w.cell? ⟨a, k, none⟩ = some v) : (Instr.loadAt 51 (.pointer (some ⟨a, k, none⟩))).run Try.prog w = .ok v w := by go_simp
theorem store61 {w : World} {a k : Nat} {v u : Value} (hv : ∃ p n c, v = .slice p n c) (h : w.cell? ⟨a, k, none⟩ = some u) (hf : w.frozen? ⟨a, k, none⟩ = false) : (Instr.storeAt 51 (.pointer (some ⟨a, k, none⟩)) v).run Try.prog w = .ok () (w.setCell ⟨a, k, none⟩ v) := by
  obtain ⟨p, n, c, rfl⟩ := hv
  go_simp
set_option maxRecDepth 100000 in
set_option maxHeartbeats 1000000 in
theorem Write_calls {w : World} {base a m : Nat} {wv : Value} {d : DiskM} (h : DiskAt w base a m wv d) (hbase : base ≤ w.heap.size) (i : Int) (hi : 0 ≤ i ∧ i < d.size) (ho : d.isOff = false) (A : Option Addr) (c : Nat) (l : List UInt8) (hl : l.length = 256) (hy : Bytes w A l)
    (hbd : d.bud < 1000) (hst : d.steps + 1 ≤ 1000000) :
    Calls Try.prog 8 #[.pointer (some ⟨a, 0, none⟩), .int .i64 i, .slice A 256 c] w fun e w' => e = .returned (.int .i64 0) ∧ ∃ wv', DiskAt w' base a m wv' (d.write i l) ∧ Kept (Foot a m wv) w w' ∧ (wv'.ownBlock = wv.ownBlock ∨ ∃ k, wv'.ownBlock = some k ∧ w.heap.size ≤ k) := by
  have H := Lib.hid h
  have HL := Lib.hid hl
  have HY := Lib.hid hy
  have HBase := Lib.hid hbase
  have HBd := Lib.hid hbd
  have HSt := Lib.hid hst
  have HO := Lib.hid ho
  have hb := h.ok.size
  have hm := made_calls h
  have hh := has_calls h i
  have hf := off_calls h
  rw [show decide (0 ≤ i ∧ i < d.size) = true by simpa using hi] at hh
  rw [ho] at hf
  have HM := Lib.hid hm
  have HH := Lib.hid hh
  have HF := Lib.hid hf
  have hwl : d.wait.length ≤ 1000 := by obtain ⟨n, D, _, hn⟩ := h.map; have := h.ok.bud; omega
  clear h hm hh hf hl hy hbase hbd hst ho
  go_enter Try.func8, Try.ntmps8
  go_wp2_with (first | (go_at_call 22; refine HM.out.mono ?_; rintro e w' ⟨rfl, rfl⟩) | (go_at_call 23; refine HH.out.mono ?_; rintro e w' ⟨rfl, rfl⟩) | (go_at_call 24; refine HF.out.mono ?_; rintro e w' ⟨rfl, rfl⟩) | ((first | with_reducible refine park_at (.load 64 _) ?_ | with_reducible refine park_at (.load 66 _) ?_ | with_reducible refine park_at (.store 64 _ _) ?_ | with_reducible refine park_at (.store 66 _ _) ?_ | with_reducible refine park_at (.alloc 64) ?_ | with_reducible refine park_at (.alloc 66) ?_ | with_reducible refine park_at (.box 64 _) ?_ | with_reducible refine park_at (.build 64 _) ?_ | with_reducible refine park_at (.build 66 _) ?_ | with_reducible refine park_at (.binOp _ 64 _ _ _) ?_ | with_reducible refine park_at (.lookup _ _ _ _) ?_ | with_reducible refine park_at (.mapUpdate _ _ _ _) ?_ | with_reducible refine park_at (.makeMap _ _) ?_ | with_reducible refine park_at (.range _ _) ?_ | with_reducible refine park_at (.next _ _) ?_ | with_reducible refine park_append ?_ | with_reducible refine park_copy ?_ | with_reducible refine park_delete ?_); intro q hq))
  refine hq.out ?_
  clear hq
  refine wpList_build71 rfl _ rfl i rfl ?_
  obtain ⟨sv, hsv⟩ : ∃ sv, entV (i, zsec) = sv := ⟨_, rfl⟩
  have HS := Lib.hid hsv
  rw [HS.out]
  clear hsv
  go_wp2_with ((first | with_reducible refine park_at (.load 64 _) ?_ | with_reducible refine park_at (.load 66 _) ?_ | with_reducible refine park_at (.store 64 _ _) ?_ | with_reducible refine park_at (.store 66 _ _) ?_ | with_reducible refine park_at (.alloc 64) ?_ | with_reducible refine park_at (.alloc 66) ?_ | with_reducible refine park_at (.box 64 _) ?_ | with_reducible refine park_at (.build 64 _) ?_ | with_reducible refine park_at (.build 66 _) ?_ | with_reducible refine park_at (.binOp _ 64 _ _ _) ?_ | with_reducible refine park_at (.lookup _ _ _ _) ?_ | with_reducible refine park_at (.mapUpdate _ _ _ _) ?_ | with_reducible refine park_at (.makeMap _ _) ?_ | with_reducible refine park_at (.range _ _) ?_ | with_reducible refine park_at (.next _ _) ?_ | with_reducible refine park_append ?_ | with_reducible refine park_copy ?_ | with_reducible refine park_delete ?_); intro q hq)
  refine hq.out ?_
  clear hq
  refine wpList_alloc71 rfl rfl ?_
  have HR : Hid ((w.alloc (.cells (entL (0, zsec)).toArray 66)).heap[w.heap.size]? = some (.cells (entL (0, zsec)).toArray 66 (0, 0))) := heap_alloc_new w _
  have HB : Hid (Below w.heap.size w (w.alloc (.cells (entL (0, zsec)).toArray 66))) := (Below.refl _ _).alloc (Nat.le_refl _) _
  generalize (w.alloc (.cells (entL (0, zsec)).toArray 66)) = w1 at HR HB ⊢
  obtain ⟨r, hr⟩ : ∃ r, w.heap.size = r := ⟨_, rfl⟩
  have hr := Lib.hid hr
  rw [hr.out] at HB HR ⊢
  go_wp2_with ((first | with_reducible refine park_at (.load 64 _) ?_ | with_reducible refine park_at (.load 66 _) ?_ | with_reducible refine park_at (.store 64 _ _) ?_ | with_reducible refine park_at (.store 66 _ _) ?_ | with_reducible refine park_at (.alloc 64) ?_ | with_reducible refine park_at (.alloc 66) ?_ | with_reducible refine park_at (.box 64 _) ?_ | with_reducible refine park_at (.build 64 _) ?_ | with_reducible refine park_at (.build 66 _) ?_ | with_reducible refine park_at (.binOp _ 64 _ _ _) ?_ | with_reducible refine park_at (.lookup _ _ _ _) ?_ | with_reducible refine park_at (.mapUpdate _ _ _ _) ?_ | with_reducible refine park_at (.makeMap _ _) ?_ | with_reducible refine park_at (.range _ _) ?_ | with_reducible refine park_at (.next _ _) ?_ | with_reducible refine park_append ?_ | with_reducible refine park_copy ?_ | with_reducible refine park_delete ?_); intro q hq)
  refine hq.out ?_
  clear hq
  refine wpList_store71 rfl _ _ rfl r rfl (i, zsec) (0, zsec) HS.out.symm zsec_length zsec_length HR.out ?_
  intro w2 hr2 hk2
  have HB2 : Hid (Below r w w2) := HB.out.trans (hk2.below (by rw [← hr.out]; exact HB.out.size) (fun k hk e => by have := hr.out; have := HB.out.size; omega))
  clear hk2
  go_wp2_with ((first | with_reducible refine park_at (.load 64 _) ?_ | with_reducible refine park_at (.load 66 _) ?_ | with_reducible refine park_at (.store 64 _ _) ?_ | with_reducible refine park_at (.store 66 _ _) ?_ | with_reducible refine park_at (.alloc 64) ?_ | with_reducible refine park_at (.alloc 66) ?_ | with_reducible refine park_at (.box 64 _) ?_ | with_reducible refine park_at (.build 64 _) ?_ | with_reducible refine park_at (.build 66 _) ?_ | with_reducible refine park_at (.binOp _ 64 _ _ _) ?_ | with_reducible refine park_at (.lookup _ _ _ _) ?_ | with_reducible refine park_at (.mapUpdate _ _ _ _) ?_ | with_reducible refine park_at (.makeMap _ _) ?_ | with_reducible refine park_at (.range _ _) ?_ | with_reducible refine park_at (.next _ _) ?_ | with_reducible refine park_append ?_ | with_reducible refine park_copy ?_ | with_reducible refine park_delete ?_); intro q hq)
  refine hq.out ?_
  clear hq
  refine wpList_copy_splice rfl _ _ 36 36 rfl 5 Try.underlying36 (by kernel_rfl) (some ⟨r, 1, none⟩) A 256 256 256 c rfl rfl r 1 (entL (i, zsec)) 66 hr2.out (cells8 l) (by rw [cells8_length, HL.out]; rfl) ?_ ?_ (cells8_one l) r w HB2.out (Nat.le_refl _) ?_
  · intro _
    refine ⟨rfl, ?_⟩
    have HY2 : Bytes w2 A l := by have := HY.out.below (w' := w2) (by rw [hr.out]; exact HB2.out); exact this
    obtain ⟨ad, hA, _⟩ := HY2 0 (by rw [HL.out]; decide)
    refine ⟨ad, hA, fun j v hj => ?_⟩
    have hlt : j < l.length := by have := (List.getElem?_eq_some_iff.1 hj).1; rwa [cells8_length] at this
    obtain ⟨ad', hA', hc⟩ := HY2 j hlt
    rw [hA] at hA'; cases hA'
    rw [cells8_get l j hlt] at hj
    rw [hc, hj]
  · rw [cells8_length, HL.out, entL_length _ zsec_length]; decide
  intro w3 hr3 hb3
  rw [splice_ent i zsec l zsec_length HL.out] at hr3
  have HB3 := Lib.hid hb3
  clear hb3 hr2 HB2 HB HR
  have HA : Hid (DiskAt w3 base a m wv d) := H.out.below (by rw [hr.out]; exact HB3.out)
  have he2 : (i, l).2.length = 256 := HL.out
  obtain ⟨v', w4, hap, hown, hgr, _, hat⟩ := run_append_own_at (P := Try.prog) (w3.drew.alloc (.cells (entL (i, l)).toArray 66)) base 51 51 66 (info_parts info71b).choose (entV (0, zsec)) 257 264 (by kernel_rfl) (info_parts info71b).choose_spec.1 (info_parts info71b).choose_spec.2.1 (info_parts info71b).choose_spec.2.2.1 (info_parts info71b).choose_spec.2.2.2
    (by show (entL (0, zsec)).toArray.size = 257; rw [List.size_toArray, entL_length _ zsec_length]) (by decide) wv d.wait.length (entCells d.wait)
    (row_kept (S := fun _ => False) HA.out.row (Kept.of_below ((Below.refl w3.heap.size w3).drew.alloc (Nat.le_refl _) _)) (fun _ _ x => x))
    ⟨w3.heap.size, 0, none⟩ 1 1 (entL (i, l)) (by rw [entL_length _ he2]) (fun j u hj => by
      rw [Addr.add_lit, Nat.zero_add]
      exact (cell_of_row _ _ _ _ _ _ (heap_alloc_new w3.drew (.cells (entL (i, l)).toArray 66))).trans (by simpa using hj)) (entL_one _) (by unfold maxLen; omega) (by omega) (by have := HBase.out; have := hr.out; have := HB3.out.size; simp; omega)
  obtain ⟨fz, hfz⟩ : ∃ fz, (.cells (entL (i, l)).toArray 66 : Obj) = fz := ⟨_, rfl⟩
  have hbs := run_buildSlice71 w3.drew (i, l) he2
  rw [hfz] at hbs hap hgr hat
  have hbs : (Instr.buildSlice 51 1 #[(0, .agg (entL (i, l)).toArray)]).run Try.prog w3.drew = .ok (.slice (some ⟨w3.heap.size, 0, none⟩) 1 1) (w3.drew.alloc fz) := hbs
  have hk1 : Kept (fun k => wv.ownBlock = some k) w3 (w3.drew.alloc fz) := ((Kept.refl _ w3).drew).alloc fz
  have hk4 : Kept (fun k => wv.ownBlock = some k) w3 w4 := hk1.trans (Kept.of_grown hgr (fun k hk => hk))
  have hoa : ¬ wv.ownBlock = some a := fun e => H.out.ag a e rfl
  have hom : ¬ wv.ownBlock = some m := fun e => H.out.mg m e rfl
  have hor : ¬ wv.ownBlock = some r := fun e => by have := (H.out.foot r (.inr (.inr e))).2; have := hr.out; omega
  have hD0 := HA.out.c2
  have hcA : w3.drew.cell? ⟨a, 2, none⟩ = some wv := hD0
  have hcB : (w3.drew.alloc fz).cell? ⟨a, 2, none⟩ = some wv := hk1.cell hD0 hoa
  have hcC : w4.cell? ⟨a, 2, none⟩ = some wv := hk4.cell hD0 hoa
  have haa : w4.heap[a]? = some (.cells #[.int .i64 d.size, .map (some m), wv, .int .i64 d.steps, .bool d.cut, .int .i64 d.left] 53 (0, 0)) := by
    rw [hk4.block a (Array.getElem?_eq_some_iff.1 HA.out.blk).1 hoa]; exact HA.out.blk
  have hfr : w4.frozen? ⟨a, 2, none⟩ = false := frozen_of_row _ _ _ _ _ haa
  have hra : w3.rangeAt r 0 (entL (i, l)) := by
    have := World.rangeAt_of_block hr3.out 0 257; rw [Nat.zero_add, ← entL_length (i, l) he2] at this; simpa using this
  have hs0 : w3.drew.rangeAt r 0 (entL (i, l)) := hra
  have hs1 : (w3.drew.alloc fz).rangeAt r 0 (entL (i, l)) := fun j v hv => hk1.cell (hra j v hv) hor
  have hs2 : w4.rangeAt r 0 (entL (i, l)) := fun j v hv => hk4.cell (hra j v hv) hor
  have har : a ≠ r := by have := (H.out.foot a (.inl rfl)).2; have := hr.out; omega
  have hs3 : (w4.setCell ⟨a, 2, none⟩ v').rangeAt r 0 (entL (i, l)) := fun j v hv => (Kept.set1 w4 a 2 v').cell (hs2 j v hv) (fun e => har e.symm)
  have hk5 : Kept (Foot a m wv) w (w4.setCell ⟨a, 2, none⟩ v') :=
    (((Kept.of_below (by rw [hr.out]; exact HB3.out)).trans (hk4.mono (fun k _ hk => .inr (.inr hk)))).trans ((Kept.set1 w4 a 2 v').mono (fun k _ hk => .inl hk)))
  have hva : ∀ k, v'.ownBlock = some k → wv.ownBlock = some k ∨ w3.heap.size ≤ k := fun k hk => by
    rcases hat with e | e
    · exact .inl (by rw [← e]; exact hk)
    · rw [e] at hk; cases hk; right; simp
  have hsz3 := HB3.out.size
  have hD : DiskAt (w4.setCell ⟨a, 2, none⟩ v') base a m v' (d.put i l) := by
    obtain ⟨n, D, hM, hn⟩ := HA.out.map
    have ok := H.out.ok
    refine ⟨by rw [blk_put haa]; rfl, ⟨n, D, (hM.kept hk4 hom).kept (Kept.set1 w4 a 2 v') H.out.am, by simp only [DiskM.put, List.length_append, List.length_singleton]; omega⟩, ?_, H.out.lo, ⟨ok.hlen, ?_, ok.size, by have := HBd.out; simp only [DiskM.put]; omega, ok.steps, ok.left⟩⟩
    · refine row_kept (S := (· = a)) ?_ (Kept.set1 w4 a 2 v') (fun k hk e => ?_)
      · simp only [DiskM.put, List.length_append, List.length_singleton, entCells_snoc]; exact hown
      · subst e
        rcases hva k hk with e | e
        · exact hoa e
        · have := (H.out.foot k (.inl rfl)).2; have := hr.out; omega
    · intro e he
      rcases List.mem_append.1 he with he | he
      · exact ok.wlen e he
      · obtain rfl : e = (i, l) := by simpa using he
        exact ⟨HL.out, hi.1, hi.2⟩
  have HD := Lib.hid hD
  have HK5 := Lib.hid hk5
  have HFin : Hid (v'.ownBlock = wv.ownBlock ∨ ∃ k, v'.ownBlock = some k ∧ w.heap.size ≤ k) := by
    rcases hat with e | e
    · exact .inl e
    · refine .inr ⟨_, e, ?_⟩
      have := hr.out
      have h1 : (w3.drew.alloc fz).heap.size = w3.heap.size + 1 := by simp
      omega
  have hcA' := load61 hcA
  have hcB' := load61 hcB
  have hvs : ∃ p n c, v' = .slice p n c := by
    rcases hown.2 with h | ⟨g, cap, cur, h, _⟩
    · exact ⟨_, _, _, h.1⟩
    · exact ⟨_, _, _, h⟩
  have hst := store61 hvs hcC hfr
  have hcut : (d.put i l).cut = true → 1 ≤ (d.put i l).left := fun h => by
    have h1 := HO.out
    have h2 := H.out.ok.left
    simp only [DiskM.isOff, DiskM.put] at h1 h ⊢
    rw [h] at h1
    simp at h1
    omega
  have hu := under71
  have hsz : (Try.prog.info? 66).map (·.size) = some (entL (i, l)).length := by rw [entL_length _ he2]; exact size71
  clear hown hgr hat hk1 hk4 hoa hom hor hD0 haa hra har hk5 hva hD he2 hfz hsz3
  go_wp2_with (fail)
  have hld : (Instr.loadAt 66 (.pointer (some ⟨r, 0, none⟩))).run Try.prog w3.drew = .ok (.agg (entL (i, l)).toArray) w3.drew := run_loadAt_mid _ _ _ _ _ _ hs0 hu rfl hsz
  refine wp_region_any (by kernel_rfl) ?_
  change wpAny _ _ _ _ _ _ _ (World.drew _)
  refine wpAny_takeTo (i := 0) (v := .pointer (some ⟨a, 0, none⟩)) (some 31) rfl rfl (by kernel_rfl) (by kernel_rfl) (by kernel_rfl) (fun _ _ _ h => h) (Or.inl ⟨by rfl, fun w => by go_simp⟩) ?_
  simp only [Act.put, List.setIfInBounds_toArray, List.set_cons_zero, List.set_cons_succ]
  refine wpAny_takeTo (i := 1) (v := .pointer (some ⟨a, 0, none⟩)) (some 32) rfl rfl (by kernel_rfl) (by kernel_rfl) (by kernel_rfl) (fun _ _ _ h => h) (Or.inl ⟨by rfl, fun w => by go_simp⟩) ?_
  simp only [Act.put, List.setIfInBounds_toArray, List.set_cons_zero, List.set_cons_succ]
  refine wpAny_takeTo (i := 2) (v := .pointer (some ⟨a, 0, none⟩)) (some 33) rfl rfl (by kernel_rfl) (by kernel_rfl) (by kernel_rfl) (fun _ _ _ h => h) (Or.inl ⟨by rfl, fun w => by go_simp⟩) ?_
  simp only [Act.put, List.setIfInBounds_toArray, List.set_cons_zero, List.set_cons_succ]
  refine wpAny_takeTo (i := 3) (v := .pointer (some ⟨a, 2, none⟩)) (some 34) rfl rfl (by kernel_rfl) (by kernel_rfl) (by kernel_rfl) (fun _ _ _ h => h) (Or.inl ⟨by rfl, fun w => by go_simp⟩) ?_
  simp only [Act.put, List.setIfInBounds_toArray, List.set_cons_zero, List.set_cons_succ]
  refine wpAny_ready (rs := [4, 5]) (by kernel_rfl) (by simp) ?_
  refine AllReady.cons rfl (fun K hK => ?_) (AllReady.cons rfl (fun K hK => ?_) AllReady.nil)
  · refine step_load (some 35) (by rfl) rfl 51 (.tmp 34) rfl (.pointer (some ⟨a, 2, none⟩)) wv rfl hcA' ?_
    refine hK _ _ ?_
    clear hK K
    try simp only [Act.put, List.setIfInBounds_toArray, List.set_cons_zero, List.set_cons_succ]
    refine wpAny_ready (rs := [5]) (by kernel_rfl) (by simp) ?_
    refine AllReady.cons rfl (fun K hK => ?_) AllReady.nil
    refine step_load (some 36) (by rfl) rfl 66 (.tmp 7) rfl (.pointer (some ⟨r, 0, none⟩)) (.agg (entL (i, l)).toArray) rfl hld ?_
    refine hK _ _ ?_
    clear hK K
    try simp only [Act.put, List.setIfInBounds_toArray, List.set_cons_zero, List.set_cons_succ]
    refine wpAny_ready (rs := [6]) (by kernel_rfl) (by simp) ?_
    refine AllReady.cons rfl (fun K hK => ?_) AllReady.nil
    refine step_build (some 37) (by rfl) rfl 51 (.tmp 36) rfl (.agg (entL (i, l)).toArray) (.slice (some ⟨w3.heap.size, 0, none⟩) 1 1) (w3.drew.alloc fz) rfl hbs ?_
    refine hK _ _ ?_
    clear hK K
    try simp only [Act.put, List.setIfInBounds_toArray, List.set_cons_zero, List.set_cons_succ]
    refine wpAny_ready (rs := [7]) (by kernel_rfl) (by simp) ?_
    refine AllReady.cons rfl (fun K hK => ?_) AllReady.nil
    refine step_append (some 38) (by rfl) rfl 51 51 (.tmp 35) (.tmp 37) rfl rfl wv (.slice (some ⟨w3.heap.size, 0, none⟩) 1 1) v' w4 rfl rfl hap ?_
    refine hK _ _ ?_
    clear hK K
    try simp only [Act.put, List.setIfInBounds_toArray, List.set_cons_zero, List.set_cons_succ]
    refine wpAny_takeTo (i := 8) (v := .pointer (some ⟨a, 0, none⟩)) (some 39) rfl rfl (by kernel_rfl) (by kernel_rfl) (by kernel_rfl) (fun _ _ _ h => h) (Or.inl ⟨by rfl, fun w => by go_simp⟩) ?_
    simp only [Act.put, List.setIfInBounds_toArray, List.set_cons_zero, List.set_cons_succ]
    refine wpAny_takeTo (i := 9) (v := .pointer (some ⟨a, 2, none⟩)) (some 40) rfl rfl (by kernel_rfl) (by kernel_rfl) (by kernel_rfl) (fun _ _ _ h => h) (Or.inl ⟨by rfl, fun w => by go_simp⟩) ?_
    simp only [Act.put, List.setIfInBounds_toArray, List.set_cons_zero, List.set_cons_succ]
    refine wpAny_ready (rs := [10]) (by kernel_rfl) (by simp) ?_
    refine AllReady.cons rfl (fun K hK => ?_) AllReady.nil
    refine step_store (by rfl) rfl 51 (.tmp 40) (.tmp 38) rfl (.pointer (some ⟨a, 2, none⟩)) v' (w4.setCell ⟨a, 2, none⟩ v') rfl rfl hst ?_
    refine hK _ _ ?_
    clear hK K
    try simp only [Act.put, List.setIfInBounds_toArray, List.set_cons_zero, List.set_cons_succ]
    refine wpAny_done (by kernel_rfl) ?_ _
    clear hcA hcB hcC hfr hs0 hs1 hs2 hs3 hcA' hcB' hst hu hsz hld hap hbs
    go_wp2_with (go_at_call 25; refine (step_calls HD.out (by have := HSt.out; simp only [DiskM.put]; omega) hcut).mono ?_; rintro e w5 ⟨rfl, hD5, hk5⟩)
    go_ret
    exact ⟨rfl, v', hD5, HK5.out.trans (hk5.mono (fun k _ hk => .inl hk)), HFin.out⟩
  · refine step_load (some 36) (by rfl) rfl 66 (.tmp 7) rfl (.pointer (some ⟨r, 0, none⟩)) (.agg (entL (i, l)).toArray) rfl hld ?_
    refine hK _ _ ?_
    clear hK K
    try simp only [Act.put, List.setIfInBounds_toArray, List.set_cons_zero, List.set_cons_succ]
    refine wpAny_ready (rs := [4, 6]) (by kernel_rfl) (by simp) ?_
    refine AllReady.cons rfl (fun K hK => ?_) (AllReady.cons rfl (fun K hK => ?_) AllReady.nil)
    · refine step_load (some 35) (by rfl) rfl 51 (.tmp 34) rfl (.pointer (some ⟨a, 2, none⟩)) wv rfl hcA' ?_
      refine hK _ _ ?_
      clear hK K
      try simp only [Act.put, List.setIfInBounds_toArray, List.set_cons_zero, List.set_cons_succ]
      refine wpAny_ready (rs := [6]) (by kernel_rfl) (by simp) ?_
      refine AllReady.cons rfl (fun K hK => ?_) AllReady.nil
      refine step_build (some 37) (by rfl) rfl 51 (.tmp 36) rfl (.agg (entL (i, l)).toArray) (.slice (some ⟨w3.heap.size, 0, none⟩) 1 1) (w3.drew.alloc fz) rfl hbs ?_
      refine hK _ _ ?_
      clear hK K
      try simp only [Act.put, List.setIfInBounds_toArray, List.set_cons_zero, List.set_cons_succ]
      refine wpAny_ready (rs := [7]) (by kernel_rfl) (by simp) ?_
      refine AllReady.cons rfl (fun K hK => ?_) AllReady.nil
      refine step_append (some 38) (by rfl) rfl 51 51 (.tmp 35) (.tmp 37) rfl rfl wv (.slice (some ⟨w3.heap.size, 0, none⟩) 1 1) v' w4 rfl rfl hap ?_
      refine hK _ _ ?_
      clear hK K
      try simp only [Act.put, List.setIfInBounds_toArray, List.set_cons_zero, List.set_cons_succ]
      refine wpAny_takeTo (i := 8) (v := .pointer (some ⟨a, 0, none⟩)) (some 39) rfl rfl (by kernel_rfl) (by kernel_rfl) (by kernel_rfl) (fun _ _ _ h => h) (Or.inl ⟨by rfl, fun w => by go_simp⟩) ?_
      simp only [Act.put, List.setIfInBounds_toArray, List.set_cons_zero, List.set_cons_succ]
      refine wpAny_takeTo (i := 9) (v := .pointer (some ⟨a, 2, none⟩)) (some 40) rfl rfl (by kernel_rfl) (by kernel_rfl) (by kernel_rfl) (fun _ _ _ h => h) (Or.inl ⟨by rfl, fun w => by go_simp⟩) ?_
      simp only [Act.put, List.setIfInBounds_toArray, List.set_cons_zero, List.set_cons_succ]
      refine wpAny_ready (rs := [10]) (by kernel_rfl) (by simp) ?_
      refine AllReady.cons rfl (fun K hK => ?_) AllReady.nil
      refine step_store (by rfl) rfl 51 (.tmp 40) (.tmp 38) rfl (.pointer (some ⟨a, 2, none⟩)) v' (w4.setCell ⟨a, 2, none⟩ v') rfl rfl hst ?_
      refine hK _ _ ?_
      clear hK K
      try simp only [Act.put, List.setIfInBounds_toArray, List.set_cons_zero, List.set_cons_succ]
      refine wpAny_done (by kernel_rfl) ?_ _
      clear hcA hcB hcC hfr hs0 hs1 hs2 hs3 hcA' hcB' hst hu hsz hld hap hbs
      go_wp2_with (go_at_call 25; refine (step_calls HD.out (by have := HSt.out; simp only [DiskM.put]; omega) hcut).mono ?_; rintro e w5 ⟨rfl, hD5, hk5⟩)
      go_ret
      exact ⟨rfl, v', hD5, HK5.out.trans (hk5.mono (fun k _ hk => .inl hk)), HFin.out⟩
    · refine step_build (some 37) (by rfl) rfl 51 (.tmp 36) rfl (.agg (entL (i, l)).toArray) (.slice (some ⟨w3.heap.size, 0, none⟩) 1 1) (w3.drew.alloc fz) rfl hbs ?_
      refine hK _ _ ?_
      clear hK K
      try simp only [Act.put, List.setIfInBounds_toArray, List.set_cons_zero, List.set_cons_succ]
      refine wpAny_ready (rs := [4]) (by kernel_rfl) (by simp) ?_
      refine AllReady.cons rfl (fun K hK => ?_) AllReady.nil
      refine step_load (some 35) (by rfl) rfl 51 (.tmp 34) rfl (.pointer (some ⟨a, 2, none⟩)) wv rfl hcB' ?_
      refine hK _ _ ?_
      clear hK K
      try simp only [Act.put, List.setIfInBounds_toArray, List.set_cons_zero, List.set_cons_succ]
      refine wpAny_ready (rs := [7]) (by kernel_rfl) (by simp) ?_
      refine AllReady.cons rfl (fun K hK => ?_) AllReady.nil
      refine step_append (some 38) (by rfl) rfl 51 51 (.tmp 35) (.tmp 37) rfl rfl wv (.slice (some ⟨w3.heap.size, 0, none⟩) 1 1) v' w4 rfl rfl hap ?_
      refine hK _ _ ?_
      clear hK K
      try simp only [Act.put, List.setIfInBounds_toArray, List.set_cons_zero, List.set_cons_succ]
      refine wpAny_takeTo (i := 8) (v := .pointer (some ⟨a, 0, none⟩)) (some 39) rfl rfl (by kernel_rfl) (by kernel_rfl) (by kernel_rfl) (fun _ _ _ h => h) (Or.inl ⟨by rfl, fun w => by go_simp⟩) ?_
      simp only [Act.put, List.setIfInBounds_toArray, List.set_cons_zero, List.set_cons_succ]
      refine wpAny_takeTo (i := 9) (v := .pointer (some ⟨a, 2, none⟩)) (some 40) rfl rfl (by kernel_rfl) (by kernel_rfl) (by kernel_rfl) (fun _ _ _ h => h) (Or.inl ⟨by rfl, fun w => by go_simp⟩) ?_
      simp only [Act.put, List.setIfInBounds_toArray, List.set_cons_zero, List.set_cons_succ]
      refine wpAny_ready (rs := [10]) (by kernel_rfl) (by simp) ?_
      refine AllReady.cons rfl (fun K hK => ?_) AllReady.nil
      refine step_store (by rfl) rfl 51 (.tmp 40) (.tmp 38) rfl (.pointer (some ⟨a, 2, none⟩)) v' (w4.setCell ⟨a, 2, none⟩ v') rfl rfl hst ?_
      refine hK _ _ ?_
      clear hK K
      try simp only [Act.put, List.setIfInBounds_toArray, List.set_cons_zero, List.set_cons_succ]
      refine wpAny_done (by kernel_rfl) ?_ _
      clear hcA hcB hcC hfr hs0 hs1 hs2 hs3 hcA' hcB' hst hu hsz hld hap hbs
      go_wp2_with (go_at_call 25; refine (step_calls HD.out (by have := HSt.out; simp only [DiskM.put]; omega) hcut).mono ?_; rintro e w5 ⟨rfl, hD5, hk5⟩)
      go_ret
      exact ⟨rfl, v', hD5, HK5.out.trans (hk5.mono (fun k _ hk => .inl hk)), HFin.out⟩
end Go.Proofs.Ytehigfpdeoebdaa.Dsk
