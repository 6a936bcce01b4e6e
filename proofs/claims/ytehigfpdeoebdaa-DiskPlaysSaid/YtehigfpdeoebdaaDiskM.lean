/- The disk's data: sectors and writes as lists of bytes; laws of the whole-row operations. -/
import Derived.Test.YtehigfpdeoebdaaMem
import Derived.Deep.MidRow
import Derived.Deep.WholeRow
import Derived.Maps.RangeWalk
import Derived.Maps.OwnOps
import Derived.Maps.OwnSet
import Derived.Maps.Ext
import Derived.Great.Walk
import Derived.Great.Ranges
import Derived.Laws.StructEq
set_option linter.unusedSimpArgs false
set_option linter.unusedVariables false
namespace Go.Proofs.Ytehigfpdeoebdaa.Dsk
open Go.RowKit

def secV (l : List UInt8) : Value := .agg (cells8 l).toArray
def entL (e : Int × List UInt8) : List Value := .int .i64 e.1 :: cells8 e.2
def entV (e : Int × List UInt8) : Value := .agg (entL e).toArray
def entCells (l : List (Int × List UInt8)) : List Value := l.flatMap entL
theorem under69 : Try.prog.underlying 64 = some (.array 256 5) := by kernel_rfl
theorem info69 : (Try.prog.info? 64).map (fun i => (i.zero, i.size)) = some (some (secV zsec), 256) := by kernel_rfl
theorem info71 : (Try.prog.info? 66).map (fun i => (i.zero, i.size)) = some (some (entV (0, zsec)), 257) := by kernel_rfl
theorem zero69 (w : World) : (zeroValue 64).run Try.prog w = .ok (secV zsec) w := (zero_of_info info69).1 w
theorem zero71 (w : World) : (zeroValue 66).run Try.prog w = .ok (entV (0, zsec)) w := (zero_of_info info71).1 w
theorem size69 : (Try.prog.info? 64).map (·.size) = some 256 := (zero_of_info info69).2
theorem size71 : (Try.prog.info? 66).map (·.size) = some 257 := (zero_of_info info71).2
theorem guard69 : Try.prog.eqGuardType Try.prog.depth 64 = false := by kernel_rfl
theorem entL_length (e : Int × List UInt8) (h : e.2.length = 256) : (entL e).length = 257 := by simp [entL, cells8_length, h]
theorem entL_one (e : Int × List UInt8) : ∀ u ∈ entL e, u.oneCell' = true := by
  intro u hu
  rcases List.mem_cons.1 hu with rfl | hu
  · rfl
  · exact cells8_one _ u hu
theorem entCells_length : ∀ (l : List (Int × List UInt8)), (∀ e ∈ l, e.2.length = 256) → (entCells l).length = l.length * 257
  | [], _ => rfl
  | e :: l, h => by
    have := entCells_length l (fun x hx => h x (.tail _ hx))
    simp only [entCells, List.flatMap_cons, List.length_append] at *
    rw [this, entL_length e (h e (.head _)), List.length_cons]
    omega

/-! equality of sectors -/
theorem eq_rows (n : Nat) (t e : TypeId) (d : Nat) (b : Nat → Bool) (X Y : Nat → Value) (xs ys : Array Value) (w : World) (hu : Try.prog.underlying t = some (.array n e))
    (hs : (sizeOf e).run Try.prog w = .ok 1 w)
    (hx : ∀ i, i < n → (part e xs (i * 1)).run Try.prog w = .ok (X i) w) (hy : ∀ i, i < n → (part e ys (i * 1)).run Try.prog w = .ok (Y i) w)
    (he : ∀ i, i < n → (Op.equalIn d e (X i) (Y i)).run Try.prog w = .ok (b i) w) :
    (Op.equalIn (d + 1) t (.agg xs) (.agg ys)).run Try.prog w = .ok ((List.range n).all b) w := by
  simp only [Op.equalIn, Sem.run_bind, run_underlying hu, hs, Result.andThen_ok]
  rw [Std.Legacy.Range.forIn_eq_forIn_range']
  simp only [Std.Legacy.Range.size, Nat.sub_zero, Nat.add_sub_cancel, Nat.div_one, List.range_eq_range']
  have key : ∀ (l : List Nat), (∀ i ∈ l, i < n) → ((forIn l ((none, ()) : Option Bool × Unit) fun i __s => do
            let __do_lift ← part e xs (i * 1)
            let __do_lift_1 ← part e ys (i * 1)
            let __do_lift ← Op.equalIn d e __do_lift __do_lift_1
            if (!__do_lift) = true then pure (ForInStep.done (some false, ())) else pure (ForInStep.yield (none, ()))).run Try.prog w)
      = .ok (if l.all b then none else some false, ()) w := by
    intro l
    induction l with
    | nil => intro _; simp
    | cons i l ih =>
      intro hl
      have hi := hl i (.head _)
      have := ih (fun j hj => hl j (.tail _ hj))
      simp only [List.forIn_cons, Sem.run_bind, hx i hi, hy i hi, he i hi, Result.andThen_ok, List.all_cons]
      by_cases hb : b i = true
      · simp [hb]
        simpa using this
      · simp [hb]
  rw [key _ (by intro i hi; simpa using hi)]
  simp only [Result.andThen_ok]
  cases (List.range' 0 n).all b <;> simp

theorem eq69 (l m : List UInt8) (hl : l.length = 256) (hm : m.length = 256) (w : World) : (binOp .eql 64 (secV l) (secV m)).run Try.prog w = .ok (.bool (l == m)) w := by
  have h := eq_rows 256 64 5 9999 (fun i => ((at8 l i).toNat : Int) == ((at8 m i).toNat : Int)) (fun i => .int .u8 ((at8 l i).toNat : Int)) (fun i => .int .u8 ((at8 m i).toNat : Int)) (cells8 l).toArray (cells8 m).toArray w under69
    (Try.sizeOf5 w)
    (fun i hi => by
      have h5 := Try.isAgg5 (w := w)
      simp only [part, Sem.run_bind, h5, Result.andThen_ok, Bool.false_eq_true, if_false, Nat.mul_one, List.getElem?_toArray, cells8_get l i (by omega), Sem.run_pure])
    (fun i hi => by
      have h5 := Try.isAgg5 (w := w)
      simp only [part, Sem.run_bind, h5, Result.andThen_ok, Bool.false_eq_true, if_false, Nat.mul_one, List.getElem?_toArray, cells8_get m i (by omega), Sem.run_pure])
    (fun i hi => run_equalIn_int w 9998 5 .u8 .u8 _ _ Try.underlying5)
  have e : (List.range 256).all (fun i => ((at8 l i).toNat : Int) == ((at8 m i).toNat : Int)) = (l == m) := by
    rw [Bool.eq_iff_iff]
    simp only [List.all_eq_true, List.mem_range, beq_iff_eq]
    constructor
    · intro h
      apply List.ext_getElem (by omega)
      intro i h1 h2
      have := h i (by omega)
      rw [at8_eq l i h1, at8_eq m i h2] at this
      exact UInt8.toNat_inj.1 (by omega)
    · rintro rfl i _; rfl
  rw [e] at h
  unfold secV
  rw [run_eql_struct, h]
  rfl
/-! operations on whole rows, at the operation -/
section
variable {ops : Array Oper} {rest : List Oper} {o : Oper} {a : Act} {Q : Exit → Act → World → Prop} {w : World}
theorem wpList_eq69 (hg : o.guard = none) (x y : Operand) (s : TypeId) (ho : o.op = .binOp .eql 64 x y s) (l m : List UInt8) (hx : a.eval x = secV l) (hy : a.eval y = secV m) (hl : l.length = 256) (hm : m.length = 256)
    (h : wpList Try.prog ops Q rest (a.put o.dst (.bool (l == m))) w) : wpList Try.prog ops Q (o :: rest) a w := by
  refine Great.wpList_runTo hg _ rfl _ w ?_ h
  unfold execOp
  simp only [ho, Sem.run_bind, hx, hy, eq69 l m hl hm]
  unfold secV
  rw [run_eqGuard_agg _ _ _ _ _ _ _ guard69]
  rfl
theorem wpList_alloc69 (hg : o.guard = none) (ho : o.op = .alloc 64) (h : wpList Try.prog ops Q rest (a.put o.dst (.pointer (some ⟨w.heap.size, 0, none⟩))) (w.alloc (.cells (cells8 zsec).toArray 64))) : wpList Try.prog ops Q (o :: rest) a w := by
  refine Great.wpList_runTo hg _ rfl _ _ ?_ h
  unfold execOp
  simp only [ho, Instr.alloc, Sem.run_bind, zero69, Result.andThen_ok, newVar, newRow, run_newObj_alloc, Sem.run_pure]
  rfl
theorem wpList_alloc71 (hg : o.guard = none) (ho : o.op = .alloc 66) (h : wpList Try.prog ops Q rest (a.put o.dst (.pointer (some ⟨w.heap.size, 0, none⟩))) (w.alloc (.cells (entL (0, zsec)).toArray 66))) : wpList Try.prog ops Q (o :: rest) a w := by
  refine Great.wpList_runTo hg _ rfl _ _ ?_ h
  unfold execOp
  simp only [ho, Instr.alloc, Sem.run_bind, zero71, Result.andThen_ok, newVar, newRow, run_newObj_alloc, Sem.run_pure]
  rfl
theorem wpList_box69 (hg : o.guard = none) (x : Operand) (ho : o.op = .box 64 x) (l : List UInt8) (hx : a.eval x = secV l) (h : wpList Try.prog ops Q rest (a.put o.dst (.pointer (some ⟨w.heap.size, 0, none⟩))) (w.alloc (.cells (cells8 l).toArray 64))) : wpList Try.prog ops Q (o :: rest) a w :=
  Great.wpList_boxTo hg 64 x ho _ rfl _ rfl _ (by rw [hx]; rfl) h
theorem wpList_build69 (hg : o.guard = none) (ho : o.op = .build 64 #[]) (h : wpList Try.prog ops Q rest (a.put o.dst (secV zsec)) w) : wpList Try.prog ops Q (o :: rest) a w := by
  refine Great.wpList_runTo hg _ rfl _ _ ?_ h
  unfold execOp
  have h5 : (sizeOf 5).run Try.prog w = .ok 1 w := Try.sizeOf5 w
  simp only [ho, Instr.build, Sem.run_bind, zero69, Result.andThen_ok, run_underlying under69, h5, List.map_toArray, List.map_nil, Instr.fill, Sem.run_pure]
  rfl
theorem under71 : Try.prog.underlying 66 = some (.struct (Try.prog.fieldsOf 66)) := by kernel_rfl
theorem built71 (i : Int) : Try.prog.built 66 [(0, .int .i64 i)] = some (entL (i, zsec)).toArray := by kernel_rfl
theorem wpList_build71 (hg : o.guard = none) (x : Operand) (ho : o.op = .build 66 #[(0, x)]) (i : Int) (hx : a.eval x = .int .i64 i) (h : wpList Try.prog ops Q rest (a.put o.dst (entV (i, zsec))) w) : wpList Try.prog ops Q (o :: rest) a w := by
  refine Great.wpList_runTo hg _ rfl _ _ ?_ h
  unfold execOp
  simp only [ho, Sem.run_bind, List.map_toArray, List.map_cons, List.map_nil, hx, run_build w 66 _ _ (built71 i), Result.andThen_ok, Sem.run_pure]
  rfl
theorem wpList_load69 (hg : o.guard = none) (x : Operand) (ho : o.op = .load 64 x) (b k : Nat) (hx : a.eval x = .pointer (some ⟨b, k, none⟩)) (l : List UInt8) (hl : l.length = 256) (hc : w.rangeAt b k (cells8 l))
    (h : wpList Try.prog ops Q rest (a.put o.dst (secV l)) w) : wpList Try.prog ops Q (o :: rest) a w :=
  wpList_load_mid hg 64 x ho b k hx (cells8 l) _ hc under69 rfl (by rw [cells8_length, hl]; exact size69) h
theorem wpList_load71 (hg : o.guard = none) (x : Operand) (ho : o.op = .load 66 x) (b k : Nat) (hx : a.eval x = .pointer (some ⟨b, k, none⟩)) (e : Int × List UInt8) (hl : e.2.length = 256) (hc : w.rangeAt b k (entL e))
    (h : wpList Try.prog ops Q rest (a.put o.dst (entV e)) w) : wpList Try.prog ops Q (o :: rest) a w :=
  wpList_load_mid hg 66 x ho b k hx (entL e) _ hc under71 rfl (by rw [entL_length e hl]; exact size71) h
/-- A whole variable is written. -/
theorem wpList_storeRow (hg : o.guard = none) (t : TypeId) (x y : Operand) (ho : o.op = .store t x y) (r : Nat) (hx : a.eval x = .pointer (some ⟨r, 0, none⟩)) (cs old : List Value) (hy : a.eval y = .agg cs.toArray)
    (hs : (Try.prog.info? t).map (·.size) = some cs.length) (hl : old.length = cs.length) (h1 : ∀ v ∈ cs, v.oneCell' = true) (hb : w.heap[r]? = some (.cells old.toArray t (0, 0)))
    (h : ∀ w', Hid (w'.heap[r]? = some (.cells cs.toArray t (0, 0))) → Kept (· = r) w w' → wpList Try.prog ops Q rest (a.put o.dst undef) w') : wpList Try.prog ops Q (o :: rest) a w := by
  refine wpList_plain hg fun K hK => ?_
  have hr := run_storeVar_row (P := Try.prog) w r t t old.toArray cs.toArray hb (by simpa using hs) (by simpa using hl) (all_oneCell_toArray h1)
  unfold Oper.wp execOp
  simp only [ho, hx, hy, Instr.storeAt, Instr.sureAddr, Sem.run_bind, Sem.run_pure, Result.andThen_ok, hr]
  exact hK _ _ (h _ (setRow_heap w r _ _ t (0, 0) hb) (Kept.setRow w _))
theorem wpList_store69 (hg : o.guard = none) (x y : Operand) (ho : o.op = .store 64 x y) (r : Nat) (hx : a.eval x = .pointer (some ⟨r, 0, none⟩)) (l old : List UInt8) (hy : a.eval y = secV l)
    (hl : l.length = 256) (hl' : old.length = 256) (hb : w.heap[r]? = some (.cells (cells8 old).toArray 64 (0, 0)))
    (h : ∀ w', Hid (w'.heap[r]? = some (.cells (cells8 l).toArray 64 (0, 0))) → Kept (· = r) w w' → wpList Try.prog ops Q rest (a.put o.dst undef) w') : wpList Try.prog ops Q (o :: rest) a w :=
  wpList_storeRow hg 64 x y ho r hx (cells8 l) (cells8 old) hy (by rw [cells8_length, hl]; exact size69) (by simp [cells8_length, hl, hl']) (cells8_one l) hb h
theorem wpList_store71 (hg : o.guard = none) (x y : Operand) (ho : o.op = .store 66 x y) (r : Nat) (hx : a.eval x = .pointer (some ⟨r, 0, none⟩)) (e old : Int × List UInt8) (hy : a.eval y = entV e)
    (hl : e.2.length = 256) (hl' : old.2.length = 256) (hb : w.heap[r]? = some (.cells (entL old).toArray 66 (0, 0)))
    (h : ∀ w', Hid (w'.heap[r]? = some (.cells (entL e).toArray 66 (0, 0))) → Kept (· = r) w w' → wpList Try.prog ops Q rest (a.put o.dst undef) w') : wpList Try.prog ops Q (o :: rest) a w :=
  wpList_storeRow hg 66 x y ho r hx (entL e) (entL old) hy (by rw [entL_length e hl]; exact size71) (by rw [entL_length e hl, entL_length old hl']) (entL_one e) hb h
/-! the map -/
def RH (v : Value) : Option (DataW Value × List MemPlace) := some (.held v, [])
def MAt (w : World) (m n : Nat) (D : DataW Value) (f : Int → List UInt8) : Prop :=
  w.ownsMap Try.prog 3 RH m n D ∧ ∀ i : Int, -9223372036854775808 ≤ i → i ≤ 9223372036854775807 → D.atKey (.int .i64 i) (.held (secV zsec)) = .held (secV (f i))
theorem under60 : Try.prog.underlying 50 = some (.map 3 64) := by kernel_rfl
theorem K3 : Maps.Keyed Try.prog 3 := Maps.int_keyed Try.underlying3
theorem key3 (i : Int) (h0 : -9223372036854775808 ≤ i) (h1 : i ≤ 9223372036854775807) : keyOf Try.prog 3 (.int .i64 i) = some (.int .i64 i) :=
  Maps.keyOf_int_mk Try.underlying3 (by simp [Lit.wf, IntKind.min, IntKind.max, IntKind.bits, IntKind.signed]; omega)
theorem held_inj {v u : Value} (h : (DataW.held v : DataW Value) = .held u) : v = u := by cases h; rfl
theorem MAt.lookup {m n : Nat} {D : DataW Value} {f : Int → List UInt8} (h : MAt w m n D f) (i : Int) (h0 : -9223372036854775808 ≤ i) (h1 : i ≤ 9223372036854775807) :
    (Instr.lookup 50 (.map (some m)) (.int .i64 i) false).run Try.prog w = .ok (secV (f i)) w := by
  obtain ⟨v, ps, hr, hv⟩ := h.1.lookup K3 under60 (zero69 w) (zd := .held (secV zsec)) (zp := []) rfl (key3 i h0 h1)
  rw [h.2 i h0 h1] at hv
  unfold RH at hv
  simp only [Option.some.injEq, Prod.mk.injEq] at hv
  rw [hr, held_inj hv.1]
theorem MAt.new (w : World) : MAt (w.alloc (.map #[] 0)) w.heap.size 0 (.map []) (fun _ => zsec) :=
  ⟨World.ownsMap_made w _ _ _, fun i _ _ => rfl⟩
def upd (f : Int → List UInt8) (i : Int) (l : List UInt8) : Int → List UInt8 := fun j => if j = i then l else f j
theorem MAt.put {m n : Nat} {D : DataW Value} {f : Int → List UInt8} (h : ∀ i : Int, -9223372036854775808 ≤ i → i ≤ 9223372036854775807 → D.atKey (.int .i64 i) (.held (secV zsec)) = .held (secV (f i))) (hD : Maps.IsMap D) (j : Int) (l : List UInt8) :
    ∀ i : Int, -9223372036854775808 ≤ i → i ≤ 9223372036854775807 → (D.put (.int .i64 j) (.held (secV l))).atKey (.int .i64 i) (.held (secV zsec)) = .held (secV (upd f j l i)) := by
  intro i h0 h1
  unfold upd
  split
  · next e => subst e; exact Maps.atKey_put_same hD (by trivial) _ _
  · next e => rw [Maps.atKey_put_other (by intro c; cases c; exact e rfl)]; exact h i h0 h1
theorem MAt.del {D : DataW Value} {f : Int → List UInt8} (h : ∀ i : Int, -9223372036854775808 ≤ i → i ≤ 9223372036854775807 → D.atKey (.int .i64 i) (.held (secV zsec)) = .held (secV (f i))) (j : Int) :
    ∀ i : Int, -9223372036854775808 ≤ i → i ≤ 9223372036854775807 → (D.del (.int .i64 j)).atKey (.int .i64 i) (.held (secV zsec)) = .held (secV (upd f j zsec i)) := by
  intro i h0 h1
  unfold upd
  split
  · next e => subst e; exact Maps.atKey_del_same _
  · next e => rw [Maps.atKey_del_other (by intro c; cases c; exact e rfl)]; exact h i h0 h1
theorem MAt.kept {S : Nat → Prop} {w w' : World} {m n : Nat} {D : DataW Value} {f : Int → List UInt8} (h : MAt w m n D f) (hk : Kept S w w') (hs : ¬ S m) : MAt w' m n D f := by
  obtain ⟨⟨es, clock, hb, r⟩, h2⟩ := h
  exact ⟨⟨es, clock, by rw [hk.block m (Array.getElem?_eq_some_iff.1 hb).1 hs]; exact hb, r⟩, h2⟩
theorem wpList_look60 (hg : o.guard = none) (mo x : Operand) (ho : o.op = .lookup 50 mo x false) (m n : Nat) (D : DataW Value) (f : Int → List UInt8) (hm : a.eval mo = .map (some m)) (h : MAt w m n D f)
    (i : Int) (h0 : -9223372036854775808 ≤ i) (h1 : i ≤ 9223372036854775807) (hx : a.eval x = .int .i64 i)
    (hK : wpList Try.prog ops Q rest (a.put o.dst (secV (f i))) w) : wpList Try.prog ops Q (o :: rest) a w := by
  refine Great.wpList_runTo hg _ rfl _ w ?_ hK
  unfold execOp
  simp only [ho, Sem.run_bind, hm, hx, h.lookup i h0 h1, Result.andThen_ok, Sem.run_pure]
theorem MAt.update_run {m n : Nat} {D : DataW Value} {f : Int → List UInt8} (h : MAt w m n D f) (hn : n < maxLen) (i : Int) (h0 : -9223372036854775808 ≤ i) (h1 : i ≤ 9223372036854775807) (l : List UInt8) :
    ∃ w', (Instr.mapUpdate 50 (.map (some m)) (.int .i64 i) (secV l)).run Try.prog w = .ok () w' ∧ MAt w' m (n + 1) (D.put (.int .i64 i) (.held (secV l))) (upd f i l) ∧ Kept (· = m) w w' := by
  obtain ⟨w', hr, r1, r2⟩ := h.1.update K3 under60 hn (key3 i h0 h1) (val := secV l) (d := .held (secV l)) (ps := []) rfl
  exact ⟨w', hr, ⟨r1, MAt.put (n := n) (m := m) h.2 h.1.isMap i l⟩, Kept.of_grown r2 (by rintro k hk; cases hk; rfl)⟩
theorem wpList_put60 (hg : o.guard = none) (mo x v : Operand) (ho : o.op = .mapUpdate 50 mo x v) (m n : Nat) (D : DataW Value) (f : Int → List UInt8) (hm : a.eval mo = .map (some m)) (h : MAt w m n D f) (hn : n < maxLen)
    (i : Int) (h0 : -9223372036854775808 ≤ i) (h1 : i ≤ 9223372036854775807) (hx : a.eval x = .int .i64 i) (l : List UInt8) (hv : a.eval v = secV l)
    (hK : ∀ w', Hid (MAt w' m (n + 1) (D.put (.int .i64 i) (.held (secV l))) (upd f i l)) → Kept (· = m) w w' → wpList Try.prog ops Q rest (a.put o.dst undef) w') : wpList Try.prog ops Q (o :: rest) a w :=
  wpList_mapUpdate_own w hg mo x v 50 ho 3 64 K3 under60 RH m n D hm h.1 hn _ _ (.int .i64 i) hx hv (key3 i h0 h1) (.held (secV l)) [] rfl
    fun w' r1 r2 => hK w' ⟨r1, MAt.put (n := n) (m := m) h.2 h.1.isMap i l⟩ (Kept.of_grown r2 (by rintro k hk; cases hk; rfl))
theorem wpList_del60 (hg : o.guard = none) (mo x : Operand) (ho : o.op = .call { callee := .builtin .delete, args := #[mo, x], argTypes := #[50, 3] }) (m n : Nat) (D : DataW Value) (f : Int → List UInt8) (hm : a.eval mo = .map (some m)) (h : MAt w m n D f)
    (i : Int) (h0 : -9223372036854775808 ≤ i) (h1 : i ≤ 9223372036854775807) (hx : a.eval x = .int .i64 i)
    (hK : ∀ w', Hid (MAt w' m n (D.del (.int .i64 i)) (upd f i zsec)) → Kept (· = m) w w' → wpList Try.prog ops Q rest (a.put o.dst (.tuple #[])) w') : wpList Try.prog ops Q (o :: rest) a w :=
  wpList_delete_own w hg mo x 50 3 ho 64 K3 under60 RH m n D hm h.1 _ (.int .i64 i) hx (key3 i h0 h1)
    fun w' r1 r2 => hK w' ⟨r1, MAt.del h.2 i⟩ (Kept.of_grown r2.grown (by rintro k hk; cases hk; rfl))
end
end Go.Proofs.Ytehigfpdeoebdaa.Dsk
