/- Small words of our own: numbers of fixed width as the model spells them; bytes in memory; append and make of bytes as the walk takes them. -/
import Derived.Test.YtibmlgkakeakcaaDoorProg
import Derived.WalkKit
import Derived.WalkSpells
import Derived.WalkLawsBesides
import Derived.KernelRfl
import Derived.Lib.Hide
import Derived.Deep.LoopGhost
import Derived.Deep.DeepCutAuto
import Derived.Laws.CopyOwn
import Derived.Deep.AppendSrc
import Derived.Lib.ConvBytes
import Derived.Deep.MidRow
import Derived.Deep.WholeRow
import Derived.Great.Walk
import Derived.Maps.AppendAt
import Derived.Deep.RegionHeld3
import Derived.Deep.QuietTactic
import Derived.BigQuiet
import Derived.Deep.OwnRows
import Derived.StillTailTactics
import Derived.WalkMore
import Derived.Lib.AppendStr
namespace Go.Proofs.YtibmlgkakeakcaaDoor
open Go.RowKit

theorem ret_bool {a b : Bool} (h : a = b) : Ending.returned (.bool a) = .returned (.bool b) := by rw [h]

theorem ltu8 (a : UInt8) : (0 : Int) ≤ (a.toNat : Int) ∧ (a.toNat : Int) ≤ 255 := by have := a.toNat_lt; omega


/-- A byte of a list; a plain definition: the walk's simp does not look behind it. -/
def at8 (l : List UInt8) (i : Nat) : UInt8 := l.getD i 0
theorem at8_eq (l : List UInt8) (i : Nat) (h : i < l.length) : at8 l i = l[i] := by
  unfold at8; rw [List.getD_eq_getElem?_getD, List.getElem?_eq_getElem h]; rfl
theorem take_snoc8 (l : List UInt8) (k : Nat) (h : k < l.length) : l.take (k + 1) = l.take k ++ [at8 l k] := by
  rw [List.take_succ_eq_append_getElem h, at8_eq _ _ h]


/-! ### Stops: the walk is left at an operation of a given kind, and taken up again by 'refine hq.out ?_; clear hq'. -/
theorem park {p : Prop} (h : ∀ q : Prop, Hid (p → q) → q) : p := h p (fun x => x)
section
variable {P : Program} {ops : Array Oper} {Q : Exit → Act → World → Prop} {rest : List Oper} {a : Act} {w : World} {d : Option Tmp} {ty : TypeId} {pos : String} {after : Array Edge} {gd : Option (Nat × Bool)}
theorem park_append {xs : Array Operand} {ts : Array TypeId} (hq : ∀ q : Prop, Hid (wpList P ops Q ({ dst := d, op := .call { callee := .builtin .append, args := xs, argTypes := ts }, type := ty, pos := pos, after := after, guard := gd } :: rest) a w → q) → q) : wpList P ops Q ({ dst := d, op := .call { callee := .builtin .append, args := xs, argTypes := ts }, type := ty, pos := pos, after := after, guard := gd } :: rest) a w := park hq
theorem park_copy {xs : Array Operand} {ts : Array TypeId} (hq : ∀ q : Prop, Hid (wpList P ops Q ({ dst := d, op := .call { callee := .builtin .copy, args := xs, argTypes := ts }, type := ty, pos := pos, after := after, guard := gd } :: rest) a w → q) → q) : wpList P ops Q ({ dst := d, op := .call { callee := .builtin .copy, args := xs, argTypes := ts }, type := ty, pos := pos, after := after, guard := gd } :: rest) a w := park hq
theorem park_make {t : TypeId} {l c : Operand} (hq : ∀ q : Prop, Hid (wpList P ops Q ({ dst := d, op := .makeSlice t l c, type := ty, pos := pos, after := after, guard := gd } :: rest) a w → q) → q) : wpList P ops Q ({ dst := d, op := .makeSlice t l c, type := ty, pos := pos, after := after, guard := gd } :: rest) a w := park hq
end

/-- Bytes that lie in memory, from an address on: what a slice of them reads. -/
def Bytes (w : World) (A : Option Addr) (l : List UInt8) : Prop := ∀ i : Nat, i < l.length → ∃ ad, A = some ad ∧ w.cell? (ad.add i) = some (.int .u8 ((at8 l i).toNat : Int))

theorem Bytes.nil (w : World) (A : Option Addr) : Bytes w A [] := fun i h => absurd h (by simp)
theorem at8_take (l : List UInt8) (n i : Nat) (h : i < n) : at8 (l.take n) i = at8 l i := by
  unfold at8; rw [List.getD_eq_getElem?_getD, List.getElem?_take, if_pos h, ← List.getD_eq_getElem?_getD]
theorem at8_drop (l : List UInt8) (n i : Nat) : at8 (l.drop n) i = at8 l (n + i) := by
  unfold at8; rw [List.getD_eq_getElem?_getD, List.getElem?_drop, ← List.getD_eq_getElem?_getD]
theorem Bytes.take {w : World} {A : Option Addr} {l : List UInt8} (h : Bytes w A l) (n : Nat) : Bytes w A (l.take n) := by
  intro i hi
  have hn : i < n := by rw [List.length_take] at hi; omega
  have hl : i < l.length := by rw [List.length_take] at hi; omega
  rw [at8_take l n i hn]
  exact h i hl
theorem Bytes.spot {w : World} {A : Option Addr} {l : List UInt8} (h : Bytes w A l) (hl : 0 < l.length) : ∃ b o, A = some ⟨b, o, none⟩ := by
  obtain ⟨ad, hA, hx⟩ := h 0 hl
  obtain ⟨b, o, s⟩ := ad
  refine ⟨b, o, ?_⟩
  rw [hA]
  cases s with
  | none => rfl
  | some s => simp [World.cell?, Addr.add] at hx; split at hx <;> simp at hx
theorem Bytes.drop {w : World} {b o : Nat} {l : List UInt8} (h : Bytes w (some ⟨b, o, none⟩) l) (n : Nat) : Bytes w (some ⟨b, o + n, none⟩) (l.drop n) := by
  intro i hi
  rw [List.length_drop] at hi
  obtain ⟨ad, hA, hx⟩ := h (n + i) (by omega)
  cases hA
  refine ⟨_, rfl, ?_⟩
  rw [at8_drop, ← hx, Addr.add_lit, Addr.add_lit, Nat.add_assoc]
theorem Bytes.dropMap {w : World} {A : Option Addr} {l : List UInt8} (h : Bytes w A l) (n : Nat) : Bytes w (Option.map (fun x => x.add n) A) (l.drop n) := by
  intro i hi
  rw [List.length_drop] at hi
  obtain ⟨b, o, rfl⟩ := h.spot (by omega)
  have e : Option.map (fun x => Addr.add x n) (some (⟨b, o, none⟩ : Addr)) = some ⟨b, o + n, none⟩ := by rw [Option.map_some, Addr.add_lit]
  rw [e]
  exact (h.drop n) i (by rw [List.length_drop]; exact hi)
theorem Bytes.none {w : World} {l : List UInt8} (h : Bytes w none l) : l = [] := by
  cases l with
  | nil => rfl
  | cons x r => obtain ⟨ad, hA, _⟩ := h 0 (by simp); cases hA
theorem add_block (ad : Addr) (i : Nat) : (ad.add i).block = ad.block := by
  unfold Addr.add; split <;> rfl
theorem Bytes.below {w w' : World} {A : Option Addr} {l : List UInt8} (h : Bytes w A l) (hb : Below w.heap.size w w') : Bytes w' A l := by
  intro i hi
  obtain ⟨ad, hA, hx⟩ := h i hi
  exact ⟨ad, hA, (hb.cell (World.block_lt_of_cell? w _ hx)).trans hx⟩
theorem Bytes.drew {w : World} {A : Option Addr} {l : List UInt8} (h : Bytes w A l) : Bytes w.drew A l := h
theorem Bytes.alloc {w : World} {A : Option Addr} {l : List UInt8} (h : Bytes w A l) (o : Obj) : Bytes (w.alloc o) A l := h.below ((Below.refl _ _).alloc (Nat.le_refl _) _)

/-- Bytes as the model's cells. -/
def cells8 (l : List UInt8) : List Value := l.map fun c => .int .u8 (c.toNat : Int)
theorem cells8_length (l : List UInt8) : (cells8 l).length = l.length := by simp [cells8]
theorem cells8_append (l m : List UInt8) : cells8 (l ++ m) = cells8 l ++ cells8 m := by simp [cells8]
theorem cells8_get (l : List UInt8) (i : Nat) (h : i < l.length) : (cells8 l)[i]? = some (.int .u8 ((at8 l i).toNat : Int)) := by
  simp [cells8, at8_eq _ _ h, List.getElem?_eq_getElem h]
theorem cells8_one (l : List UInt8) : ∀ u ∈ cells8 l, u.oneCell' = true := by
  intro u hu
  simp only [cells8, List.mem_map] at hu
  obtain ⟨c, _, rfl⟩ := hu
  rfl
theorem cells8_set (l : List UInt8) (i : Nat) (c : UInt8) : (cells8 l).set i (.int .u8 (c.toNat : Int)) = cells8 (l.set i c) := by
  simp [cells8, List.map_set]
theorem cells8_take (l : List UInt8) (n : Nat) : (cells8 l).take n = cells8 (l.take n) := by simp [cells8, List.map_take]
theorem cells8_drop (l : List UInt8) (n : Nat) : (cells8 l).drop n = cells8 (l.drop n) := by simp [cells8, List.map_drop]

/-- A string of bytes; a plain definition. -/
def bstr (l : List UInt8) : ByteArray := ⟨l.toArray⟩
theorem bstr_toList (l : List UInt8) : (bstr l).toList = l := by unfold bstr; rw [ByteArray.toList_mk]
theorem bstr_size (l : List UInt8) : (bstr l).size = l.length := by simp [bstr, ByteArray.size]

/-- 'string(b)'. -/
theorem run_str {w : World} {A : Option Addr} {m c : Nat} {l : List UInt8} (hm : m = l.length) (hb : Bytes w A l) :
    (convert 30 9 (.slice A m c)).run Tryd.prog w = .ok (.string (bstr l)) w := by
  subst hm
  cases l with
  | nil =>
    cases A with
    | none => exact run_convert_bytes_nil w _ _ Tryd.underlying30 Tryd.underlying5 0 c _ Tryd.underlying9
    | some ad =>
      simp only [List.length_nil]
      rw [run_convert_bytes_string w _ _ _ _ _ c Tryd.underlying30 Tryd.underlying5 Tryd.underlying9, run_bytesToString w ad 0 c [] (by simp [loadCells, loadCellsFrom])]
      rfl
  | cons x r =>
    obtain ⟨b, o, rfl⟩ := hb.spot (by simp)
    have h := run_convert_bytes_arg (P := Tryd.prog) w 30 5 Tryd.underlying30 Tryd.underlying5 b o (x :: r).length c ((x :: r).map fun u => (u.toNat : Int)) (by simp) (fun i hi => by
      obtain ⟨ad, hA, hc⟩ := hb i hi
      cases hA
      rw [Addr.add_lit] at hc
      rw [hc, at8_eq _ _ hi, List.getD_eq_getElem?_getD, List.getElem?_map, List.getElem?_eq_getElem hi]
      rfl) _ Tryd.underlying9
    have key : strOfNums ((x :: r).map fun u => (u.toNat : Int)) = bstr (x :: r) := by
      have e : ∀ l : List UInt8, (l.map fun u => (u.toNat : Int)).map (fun n => UInt8.ofNat n.toNat) = l := by
        intro l
        induction l with
        | nil => rfl
        | cons y l ih => rw [List.map_cons, List.map_cons, ih]; simp
      exact congrArg (fun y : List UInt8 => (⟨y.toArray⟩ : ByteArray)) (e (x :: r))
    rw [key] at h
    exact h

/-- A slice value that owns bytes in a block of its own, from block number base on. -/
def OwnB (w : World) (base : Nat) (v : Value) (l : List UInt8) : Prop := w.ownsRow base 5 1 v l.length (cells8 l)

theorem OwnB.form {w : World} {base : Nat} {v : Value} {l : List UInt8} (h : OwnB w base v l) :
    (v = .slice none 0 0 ∧ l = []) ∨ ∃ g c, v = .slice (some ⟨g, 0, none⟩) l.length c ∧ base ≤ g ∧ g < w.heap.size ∧ l.length ≤ c := by
  rcases h.2 with ⟨h1, h2⟩ | ⟨g, cap, cur, h1, h2, h3, h4, _⟩
  · exact .inl ⟨h1, List.eq_nil_of_length_eq_zero h2⟩
  · refine .inr ⟨g, cap, h1, h2, ?_, h4⟩
    exact (Array.getElem?_eq_some_iff.1 h3).1
theorem OwnB.cells {w : World} {base g n c : Nat} {l : List UInt8} (h : OwnB w base (.slice (some ⟨g, 0, none⟩) n c) l) (i : Nat) (hi : i < l.length) :
    w.cell? ⟨g, i, none⟩ = some (.int .u8 ((at8 l i).toNat : Int)) ∧ w.frozen? ⟨g, i, none⟩ = false := by
  have hn : n = l.length := by
    rcases h.form with ⟨h1, _⟩ | ⟨g', c', h1, _⟩
    · simp at h1
    · simp at h1; exact h1.2.1
  subst hn
  refine ⟨?_, World.ownsRow.frozenAt h i⟩
  rw [World.ownsRow.cellAt h i (by omega), cells8_get l i hi]
theorem OwnB.bytes {w : World} {base n c : Nat} {A : Option Addr} {l : List UInt8} (h : OwnB w base (.slice A n c) l) : Bytes w A l := by
  intro i hi
  rcases h.form with ⟨_, h2⟩ | ⟨g, c', h1, _⟩
  · subst h2; simp at hi
  · obtain ⟨rfl, rfl, rfl⟩ : A = some ⟨g, 0, none⟩ ∧ n = l.length ∧ c = c' := by simpa using h1
    refine ⟨_, rfl, ?_⟩
    rw [Addr.add_lit, Nat.zero_add]
    exact (h.cells i hi).1
theorem OwnB.len {w : World} {base n c : Nat} {A : Option Addr} {l : List UInt8} (h : OwnB w base (.slice A n c) l) : n = l.length := by
  rcases h.form with ⟨h1, h2⟩ | ⟨g, c', h1, _⟩
  · subst h2; simp at h1; exact h1.2.1
  · simp at h1; exact h1.2.1
theorem OwnB.nilcap {w : World} {base n c : Nat} {l : List UInt8} (h : OwnB w base (.slice none n c) l) : n = 0 ∧ c = 0 ∧ l = [] := by
  rcases h.form with ⟨h1, h2⟩ | ⟨g, c', h1, _⟩
  · simp at h1; exact ⟨h1.1, h1.2, h2⟩
  · simp at h1
theorem OwnB.lt {w : World} {base : Nat} {v : Value} {l : List UInt8} (h : OwnB w base v l) : ∀ k, v.ownBlock = some k → base ≤ k ∧ k < w.heap.size := World.ownsRow.lt h
theorem OwnB.below {w w' : World} {base : Nat} {v : Value} {l : List UInt8} (h : OwnB w base v l) (hb : Below w.heap.size w w') : OwnB w' base v l := by
  refine ⟨h.1, ?_⟩
  rcases h.2 with h2 | ⟨g, cap, cur, h1, h2, h3, r⟩
  · exact .inl h2
  · exact .inr ⟨g, cap, cur, h1, h2, by rw [hb.block g ((Array.getElem?_eq_some_iff.1 h3).1)]; exact h3, r⟩
theorem OwnB.base {w : World} {base base' : Nat} {v : Value} {l : List UInt8} (h : OwnB w base v l) (hb : base' ≤ base) : OwnB w base' v l := by
  refine ⟨h.1, ?_⟩
  rcases h.2 with h2 | ⟨g, cap, cur, h1, h2, r⟩
  · exact .inl h2
  · exact .inr ⟨g, cap, cur, h1, by omega, r⟩
theorem OwnB.alloc {w : World} {base : Nat} {v : Value} {l : List UInt8} (h : OwnB w base v l) (o : Obj) : OwnB (w.alloc o) base v l := h.below ((Below.refl _ _).alloc (Nat.le_refl _) _)
theorem OwnB.grown {w w' : World} {base : Nat} {v : Value} {l : List UInt8} {row : Option Nat} (h : OwnB w base v l) (hg : w.grownBy w' row) (hne : v.ownBlock = none ∨ v.ownBlock ≠ row) : OwnB w' base v l :=
  World.ownsRow.kept h hg hne
theorem OwnB.set {w : World} {base g n c : Nat} {l : List UInt8} (h : OwnB w base (.slice (some ⟨g, 0, none⟩) n c) l) (i : Nat) (x : UInt8) :
    OwnB (w.setCell ⟨g, i, none⟩ (.int .u8 (x.toNat : Int))) base (.slice (some ⟨g, 0, none⟩) n c) (l.set i x) := by
  have hn := h.len
  subst hn
  have := (World.ownsRow.stored h i (.int .u8 (x.toNat : Int))).1
  unfold OwnB
  rw [List.length_set, ← cells8_set]
  exact this

theorem OwnB.lit (w : World) (base : Nat) (hb : base ≤ w.heap.size) (cs : List Value) (l : List UInt8) (h : cs = cells8 l) (n : Nat) (hn : n = l.length) (hm : n ≤ maxLen) :
    OwnB (w.alloc (.cells cs.toArray 5)) base (.slice (some ⟨w.heap.size, 0, none⟩) n n) l := by
  subst hn
  subst h
  have := World.ownsRow_lit (base := base) (e := 5) (size := 1) w (cells8 l).toArray l.length hb hm (by simp [cells8_length])
  simpa [OwnB] using this

theorem info8 : (Tryd.prog.info? 5).map (fun i => (i.zero, i.size, i.bytes)) = some (some (.int .u8 0), 1, 1) := by kernel_rfl

/-- append of any bytes onto bytes of one's own. -/
theorem wpList_append_bytes {w : World} {ops : Array Oper} {rest : List Oper} {o : Oper} {a : Act} {Q : Exit → Act → World → Prop} (hgd : o.guard = none) (s x : Operand)
    (ho : o.op = .call { callee := .builtin .append, args := #[s, x], argTypes := #[30, 30] })
    (base : Nat) (v : Value) (l : List UInt8) (hs : a.eval s = v) (hown : OwnB w base v l)
    (A : Option Addr) (m c : Nat) (l' : List UInt8) (hx : a.eval x = .slice A m c) (hm : m = l'.length) (hnil : A = none → c = 0) (hb : Bytes w A l')
    (hbytes : l.length + l'.length ≤ 140737488355328) (hbase : base ≤ w.heap.size)
    (h : ∀ v' w', OwnB w' base v' (l ++ l') → w.grownBy w' v.ownBlock → (v' = .slice none 0 0 ↔ v = .slice none 0 0 ∧ m = 0) → wpList Tryd.prog ops Q rest (a.put o.dst v') w') : wpList Tryd.prog ops Q (o :: rest) a w := by
  obtain ⟨i, hi, hz0, hz1, hz2⟩ := info_parts info8
  subst hm
  cases A with
  | some ad =>
    refine wpList_append_own w hgd s x _ ho base 5 i (.int .u8 0) 1 1 Tryd.underlying30 hi hz0 hz1 hz2 rfl (by decide) v l.length (cells8 l) hs hown ad l'.length c (cells8 l') hx (by rw [cells8_length, Nat.mul_one]) ?_ (cells8_one l') (by unfold maxLen; omega) (by omega) hbase ?_
    · intro j u hj
      have hlt : j < l'.length := by have := (List.getElem?_eq_some_iff.1 hj).1; rwa [cells8_length] at this
      obtain ⟨ad', hA, hc⟩ := hb j hlt
      cases hA
      rw [cells8_get l' j hlt] at hj
      rw [hc, hj]
    · intro v' w' hown' hg hnn
      refine h v' w' ?_ hg hnn
      unfold OwnB
      rw [List.length_append, cells8_append]
      exact hown'
  | none =>
    have hl : l' = [] := by
      cases l' with
      | nil => rfl
      | cons y r => obtain ⟨ad, hA, _⟩ := hb 0 (by simp); cases hA
    subst hl
    have hc := hnil rfl
    subst hc
    refine wpList_plain hgd fun K hK => ?_
    have hr := run_append_owned_none (P := Tryd.prog) w base 30 o.type 5 i 1 Tryd.underlying30 hi v l.length (cells8 l) hown
    unfold Oper.wp execOp
    simp only [ho, resolve, invoke, builtin, Sem.run_bind, Sem.run_pure, Result.andThen_ok, List.map_toArray, List.map_cons, List.map_nil, hs, hx]
    simp only [List.length_nil, hr, Result.andThen_ok]
    refine hK _ _ (h v w (by simpa using hown) (World.grownBy.refl _ _) (by simp))

/-- All is as it was but for the blocks in S (and what is new). -/
structure Kept (S : Nat → Prop) (w w' : World) : Prop where
  os : w'.os = w.os
  tape : w'.tape = w.tape
  output : w'.output = w.output
  size : w.heap.size ≤ w'.heap.size
  block : ∀ k, k < w.heap.size → ¬ S k → w'.heap[k]? = w.heap[k]?
theorem Kept.refl (S : Nat → Prop) (w : World) : Kept S w w := ⟨rfl, rfl, rfl, Nat.le_refl _, fun _ _ _ => rfl⟩
theorem Kept.trans {S : Nat → Prop} {a b c : World} (h : Kept S a b) (k : Kept S b c) : Kept S a c :=
  ⟨k.os.trans h.os, k.tape.trans h.tape, k.output.trans h.output, Nat.le_trans h.size k.size, fun i hi hs => (k.block i (Nat.lt_of_lt_of_le hi h.size) hs).trans (h.block i hi hs)⟩
theorem Kept.of_below {S : Nat → Prop} {w w' : World} (h : Below w.heap.size w w') : Kept S w w' := ⟨h.os, h.tape, h.output, h.size, fun k hk _ => h.block k hk⟩
theorem Kept.of_grown {w w' : World} {row : Option Nat} {S : Nat → Prop} (h : w.grownBy w' row) (hs : ∀ k, row = some k → S k) : Kept S w w' :=
  ⟨h.os, h.tape, h.output, h.size, fun k hk hn => h.block k hk (fun e => hn (hs k e.symm))⟩
theorem Kept.below {S : Nat → Prop} {B : Nat} {w w' : World} (h : Kept S w w') (hB : B ≤ w.heap.size) (hs : ∀ k, k < B → ¬ S k) : Below B w w' :=
  ⟨h.os, h.tape, h.output, h.size, fun k hk => h.block k (by omega) (hs k hk)⟩
theorem Kept.drew {S : Nat → Prop} {a w : World} (h : Kept S a w) : Kept S a w.drew := ⟨h.os, h.tape, h.output, h.size, h.block⟩
theorem Kept.setCell {S : Nat → Prop} {a w : World} (h : Kept S a w) {p : Addr} (hp : S p.block ∨ a.heap.size ≤ p.block) (u : Value) : Kept S a (w.setCell p u) :=
  ⟨h.os, h.tape, h.output, by simpa [World.setCell] using h.size, fun k hk hs => by
    rw [Below.heap_setCell _ _ _ _ (by rintro rfl; rcases hp with hp | hp; exact hs hp; omega)]; exact h.block k hk hs⟩
theorem Kept.cell {S : Nat → Prop} {w w' : World} (h : Kept S w w') {p : Addr} {v : Value} (hc : w.cell? p = some v) (hs : ¬ S p.block) : w'.cell? p = some v :=
  (World.cell?_of_block (h.block p.block (World.block_lt_of_cell? w p hc) hs)).trans hc
theorem OwnB.kept {S : Nat → Prop} {w w' : World} {base : Nat} {v : Value} {l : List UInt8} (h : OwnB w base v l) (hk : Kept S w w') (hs : ∀ k, v.ownBlock = some k → ¬ S k) : OwnB w' base v l := by
  refine ⟨h.1, ?_⟩
  rcases h.2 with h2 | ⟨g, cap, cur, h1, h2, h3, r⟩
  · exact .inl h2
  · exact .inr ⟨g, cap, cur, h1, h2, by rw [hk.block g ((Array.getElem?_eq_some_iff.1 h3).1) (hs g (by rw [h1]; rfl))]; exact h3, r⟩
theorem Bytes.kept {S : Nat → Prop} {w w' : World} {A : Option Addr} {l : List UInt8} (h : Bytes w A l) (hk : Kept S w w') (hs : ∀ ad, A = some ad → ¬ S ad.block) : Bytes w' A l := by
  intro i hi
  obtain ⟨ad, hA, hx⟩ := h i hi
  exact ⟨ad, hA, hk.cell hx (by rw [add_block]; exact hs ad hA)⟩

/-! ### more stops, and what stays -/
theorem park_at (O : Op) {P : Program} {ops : Array Oper} {Q : Exit → Act → World → Prop} {rest : List Oper} {a : Act} {w : World} {d : Option Tmp} {ty : TypeId} {pos : String} {after : Array Edge} {gd : Option (Nat × Bool)}
    (hq : ∀ q : Prop, Hid (wpList P ops Q ({ dst := d, op := O, type := ty, pos := pos, after := after, guard := gd } :: rest) a w → q) → q) : wpList P ops Q ({ dst := d, op := O, type := ty, pos := pos, after := after, guard := gd } :: rest) a w := park hq
theorem Kept.setRow {r : Nat} (w : World) (cs : Array Value) : Kept (· = r) w (w.setRow r cs) :=
  ⟨rfl, rfl, rfl, by simp [World.setRow], fun k _ hk => setRow_other w r k cs hk⟩
theorem Kept.set1 (w : World) (a i : Nat) (u : Value) : Kept (· = a) w (w.setCell ⟨a, i, none⟩ u) :=
  (Kept.refl (· = a) w).setCell (p := ⟨a, i, none⟩) (Or.inl (rfl : a = a)) u
def zsec : List UInt8 := List.replicate 256 0
theorem zsec_length : zsec.length = 256 := List.length_replicate
end Go.Proofs.YtibmlgkakeakcaaDoor
/- The plain mathematics of the sums (CRC-32, bit by bit): the step down, its powers, the product of two polynomials, bursts. No program is in sight. -/
namespace Go.Proofs.YtibmlgkakeakcaaDoor.Crc

/-! ### the table of sixteen -/
/-! ### linear -/
/-! ### the product -/
end Go.Proofs.YtibmlgkakeakcaaDoor.Crc
/- What functions hand back: bytes of one's own. -/
namespace Go.Proofs.YtibmlgkakeakcaaDoor.Crc
open Go.RowKit Go.Proofs.YtibmlgkakeakcaaDoor
set_option linter.unusedSimpArgs false
set_option linter.unusedVariables false
/-- What is handed back: bytes in memory of its own; nothing else has turned. -/
def RetB (w0 : World) (l : List UInt8) (e : Ending) (w' : World) : Prop :=
  ∃ A c, e = .returned (.slice A l.length c) ∧ OwnB w' w0.heap.size (.slice A l.length c) l ∧ Below w0.heap.size w0 w'
theorem RetB.mk {w0 w' : World} {l : List UInt8} {v : Value} (h : OwnB w' w0.heap.size v l) (hb : Below w0.heap.size w0 w') : RetB w0 l (.returned v) w' := by
  rcases h.form with ⟨rfl, rfl⟩ | ⟨g, c, rfl, _⟩
  · exact ⟨none, 0, rfl, h, hb⟩
  · exact ⟨_, c, rfl, h, hb⟩

theorem bytes_of_block {w : World} {b : Nat} {cs : List Value} {T : TypeId} {fr : Nat × Nat} {l : List UInt8} (h : w.heap[b]? = some (.cells cs.toArray T fr)) (hc : cs = cells8 l) : Bytes w (some ⟨b, 0, none⟩) l := by
  intro i hi
  refine ⟨_, rfl, ?_⟩
  rw [Addr.add_lit, Nat.zero_add]
  unfold World.cell?
  simp only [h]
  subst hc
  simpa using cells8_get l i hi

/-- What is handed back: bytes in memory of its own and a number. -/
def RetBN (w0 : World) (l : List UInt8) (n : Int) (e : Ending) (w' : World) : Prop :=
  ∃ A c, e = .returned (.tuple #[.slice A l.length c, .int .i64 n]) ∧ OwnB w' w0.heap.size (.slice A l.length c) l ∧ Below w0.heap.size w0 w'
theorem RetBN.mk {w0 w' : World} {l : List UInt8} {v : Value} {n : Int} (h : OwnB w' w0.heap.size v l) (hb : Below w0.heap.size w0 w') : RetBN w0 l n (.returned (.tuple #[v, .int .i64 n])) w' := by
  rcases h.form with ⟨rfl, rfl⟩ | ⟨g, c, rfl, _⟩
  · exact ⟨none, 0, rfl, h, hb⟩
  · exact ⟨_, c, rfl, h, hb⟩

end Go.Proofs.YtibmlgkakeakcaaDoor.Crc
/- The walks of codec: PutFixed, Read, Fixed; the document's Fixed. -/
set_option linter.unusedSimpArgs false
set_option linter.unusedVariables false
namespace Go.Proofs.YtibmlgkakeakcaaDoor
open Go.RowKit Go.Proofs.YtibmlgkakeakcaaDoor.Crc
/-- A number in so many bytes, the highest ahead. -/
def byteAt (n s : Nat) : UInt8 := UInt8.ofNat (n / 256 ^ s)
def fixB (n : Nat) : Nat → List UInt8
  | 0 => []
  | s + 1 => byteAt n s :: fixB n s
theorem fixB_length (n : Nat) : ∀ s, (fixB n s).length = s
  | 0 => rfl
  | s + 1 => by rw [fixB, List.length_cons, fixB_length n s]
theorem byteAt_val (n s : Nat) : (((byteAt n s).toNat : Nat) : Int) = ((n / 256 ^ s : Nat) : Int) % 256 := by
  unfold byteAt; simp
set_option maxRecDepth 10000 in
theorem byteAt_shr (n k : Nat) : (n : Int) / 2 ^ (8 * k) % 256 = ((byteAt n k).toNat : Int) := by
  rw [byteAt_val]
  have e : (2 : Int) ^ (8 * k) = ((256 ^ k : Nat) : Int) := by rw [Int.pow_mul]; push_cast; rfl
  rw [e]; push_cast; rfl
set_option maxHeartbeats 1000000 in
theorem PutFixed_calls (n : Nat) (hn : (n : Int) ≤ 18446744073709551615) (s : Nat) (hs : s ≤ 8) (w : World) :
    Calls Tryd.prog 63 #[.slice none 0 0, .int .u64 (n : Int), .int .i64 (s : Int)] w (RetB w (fixB n s)) := by
  have m1 : max (s : Int) 0 = s := by omega
  have m2 : min (s : Int) 8 = s := by omega
  go_enter Tryd.func63, Tryd.ntmps63
  go_wp2_with fail
  go_loopw [0, 7] (fun v i wr => ∃ (k : Nat) (acc : List UInt8), k ≤ s ∧ i = .int .i64 ((k : Int) - 1) ∧ Hid (acc ++ fixB n k = fixB n s ∧ OwnB wr w.heap.size v acc ∧ Below w.heap.size w wr)) (fun _ i _ => (intOf i + 1).toNat)
  case atStart => exact ⟨s, [], Nat.le_refl _, rfl, rfl, World.ownsRow_nil _ _ _ _, Below.refl _ _⟩
  case round =>
    obtain ⟨k, acc, hk, rfl, HR⟩ := hrel
    by_cases h0 : k = 0
    · subst h0
      go_wp2_with fail
      go_ret
      have h1 := HR.out.1
      rw [fixB, List.append_nil] at h1
      rw [← h1]
      exact RetB.mk HR.out.2.1 HR.out.2.2
    · obtain ⟨k, rfl⟩ : ∃ j, k = j + 1 := ⟨k - 1, by omega⟩
      have HBv := Lib.hid (byteAt_shr n k)
      go_wp2_with (with_reducible refine park_append ?_; intro q hq)
      refine hq.out ?_
      clear hq
      rw [HBv.out]
      have hlen := congrArg List.length HR.out.1
      rw [List.length_append, fixB_length, fixB_length] at hlen
      refine wpList_append_bytes rfl _ _ rfl w.heap.size u0 acc rfl (HR.out.2.1.alloc _) (some ⟨wr.heap.size, 0, none⟩) 1 1 [byteAt n k] rfl rfl (fun h => by cases h) (bytes_of_block (heap_alloc_new wr _) rfl) (by simp; omega) (by have := HR.out.2.2.size; simp; omega) ?_
      intro v2 w2 hown2 hg2 _
      have HN : Hid ((acc ++ [byteAt n k]) ++ fixB n k = fixB n s ∧ OwnB w2 w.heap.size v2 (acc ++ [byteAt n k]) ∧ Below w.heap.size w w2) :=
        ⟨by rw [← HR.out.1, fixB, List.append_assoc]; rfl, hown2, (HR.out.2.2.alloc HR.out.2.2.size _).grown hg2 (by have := HR.out.2.2.size; simp; omega) (fun j hj => (HR.out.2.1.lt j hj).1)⟩
      clear hown2 hg2 HR hlen
      go_wp2
      go_roundw
      case rel => exact ⟨k, _, by omega, by go_num, HN⟩
      case measure => simp [intOf]
/-! ### the reader -/
/-- The number that bytes are, the highest ahead. -/
def natB (l : List UInt8) : Nat := l.foldl (fun n c => n * 256 + c.toNat) 0
theorem natB_snoc (l : List UInt8) (c : UInt8) : natB (l ++ [c]) = natB l * 256 + c.toNat := by simp [natB]
theorem natB_lt (l : List UInt8) : natB l < 256 ^ l.length := by
  suffices h : ∀ l : List UInt8, natB l.reverse < 256 ^ l.length by
    have := h l.reverse
    simpa using this
  intro l
  induction l with
  | nil => simp [natB]
  | cons c l ih =>
    rw [List.reverse_cons, natB_snoc, List.length_cons, Nat.pow_succ]
    have := c.toNat_lt
    omega
def RdAt (w : World) (r : Nat) (A : Option Addr) (n c : Nat) : Prop := w.heap[r]? = some (.cells #[.bool true, .slice A n c, .int .i64 0] 108 (0, 0))
theorem RdAt.cells {w : World} {r n c : Nat} {A : Option Addr} (h : RdAt w r A n c) : w.cell? ⟨r, 0, none⟩ = some (.bool true) ∧ w.cell? ⟨r, 1, none⟩ = some (.slice A n c) ∧ w.cell? ⟨r, 2, none⟩ = some (.int .i64 0) ∧ w.frozen? ⟨r, 1, none⟩ = false :=
  ⟨by rw [cell_of_row _ _ _ _ _ _ h]; rfl, by rw [cell_of_row _ _ _ _ _ _ h]; rfl, by rw [cell_of_row _ _ _ _ _ _ h]; rfl, frozen_of_row _ _ _ _ _ h⟩
/-- A reader that has these bytes to read yet. -/
def RdLB (D : Nat → Prop) (w : World) (r : Nat) (l : List UInt8) : Prop := ∃ A c, RdAt w r A l.length c ∧ Bytes w A l ∧ l.length ≤ c ∧ c ≤ 9223372036854775807 ∧ ∀ ad, A = some ad → ad.block < r ∧ D ad.block
set_option maxHeartbeats 400000 in
theorem Read_callsB (D : Nat → Prop) (A : Option Addr) (n c : Nat) (l : List UInt8) (w : World) (hn : n = l.length) (hb : Bytes w A l) (hA : ∀ ad, A = some ad → ad.block < w.heap.size ∧ D ad.block) (hc : n ≤ c) (hm : c ≤ 9223372036854775807) :
    Calls Tryd.prog 44 #[.slice A n c] w fun e w' => e = .returned (.pointer (some ⟨w.heap.size, 0, none⟩)) ∧ RdLB D w' w.heap.size l ∧ Below w.heap.size w w' := by
  subst hn
  have HB := Lib.hid hb
  have HA := Lib.hid hA
  clear hb hA
  go_enter Tryd.func44, Tryd.ntmps44
  go_wp2
  go_ret
  exact ⟨rfl, ⟨A, c, heap_alloc_new w _, HB.out.alloc _, hc, hm, fun ad h => HA.out ad h⟩, (Below.refl _ _).alloc (Nat.le_refl _) _⟩
set_option maxHeartbeats 400000 in
theorem ready_calls {w : World} {r n c : Nat} {A : Option Addr} (h : RdAt w r A n c) : Calls Tryd.prog 77 #[.pointer (some ⟨r, 0, none⟩)] w fun e w' => e = .returned (.bool true) ∧ w = w' := by
  obtain ⟨h0, h1, h2, h3⟩ := h.cells
  have H := Lib.hid h
  clear h
  go_enter Tryd.func77, Tryd.ntmps77
  go_wp2
  go_ret
  exact ⟨rfl, rfl⟩
theorem RdAt.put {w : World} {r n c : Nat} {A : Option Addr} (h : RdAt w r A n c) (A' : Option Addr) (n' c' : Nat) : RdAt (w.setCell ⟨r, 1, none⟩ (.slice A' n' c')) r A' n' c' := by
  have h' : w.heap[r]? = some (.cells #[.bool true, .slice A n c, .int .i64 0] 108 (0, 0)) := h
  show (w.setCell ⟨r, 1, none⟩ (.slice A' n' c')).heap[r]? = _
  simp [World.setCell, Array.getElem?_modify, h']
set_option maxHeartbeats 400000 in
theorem take_calls {D : Nat → Prop} {w : World} {r : Nat} {l : List UInt8} (h : RdLB D w r l) (s : Nat) (hs : s ≤ l.length) : Calls Tryd.prog 78 #[.pointer (some ⟨r, 0, none⟩), .int .i64 (s : Int)] w fun e w' => ∃ A c, e = .returned (.tuple #[.slice A s c, .bool true]) ∧ Bytes w' A (l.take s) ∧ RdLB D w' r (l.drop s) ∧ Kept (· = r) w w' := by
  obtain ⟨A, c, hr, hb, hc, hm, hd⟩ := h
  obtain ⟨h0, h1, h2, h3⟩ := hr.cells
  have HR := Lib.hid hr
  have HB := Lib.hid hb
  have HD := Lib.hid hd
  obtain ⟨n, hn⟩ : ∃ n, l.length = n := ⟨_, rfl⟩
  have HN := Lib.hid hn
  rw [hn] at hs hc h1
  clear hr hb hd hn
  have d1 : decide ((s : Int) > (n : Int)) = false := by simp; omega
  by_cases hcs : c = s
  · obtain rfl : s = n := by omega
    subst hcs
    go_enter Tryd.func78, Tryd.ntmps78
    go_wp2_with fail
    go_ret2
    have hk := Kept.set1 w r 1 (.slice A 0 0)
    refine ⟨A, c, rfl, (HB.out.kept hk (fun ad h => Nat.ne_of_lt (HD.out ad h).1)).take _, ⟨A, 0, ?_, ?_, by rw [← HN.out]; simp, by omega, HD.out⟩, hk⟩
    · rw [← HN.out, List.drop_length]; exact HR.out.put A 0 0
    · rw [← HN.out, List.drop_length]; exact Bytes.nil _ _
  · go_enter Tryd.func78, Tryd.ntmps78
    go_wp2_with fail
    go_ret2
    have hk := Kept.set1 w r 1 (.slice (Option.map (fun x => x.add s) A) (n - s) (c - s))
    have hl : (l.drop s).length = n - s := by rw [List.length_drop, HN.out]
    refine ⟨A, c, rfl, (HB.out.kept hk (fun ad h => Nat.ne_of_lt (HD.out ad h).1)).take _, ⟨Option.map (fun x => x.add s) A, c - s, ?_, (HB.out.kept hk (fun ad h => Nat.ne_of_lt (HD.out ad h).1)).dropMap s, by rw [hl]; omega, by omega, ?_⟩, hk⟩
    · rw [hl]; exact HR.out.put _ _ _
    · intro ad had
      obtain ⟨a0, rfl, rfl⟩ := Option.map_eq_some_iff.1 had
      rw [add_block]; exact HD.out a0 rfl
theorem or_add (x : Nat) (c : UInt8) (h : x < 72057594037927936) : bits .or .u64 (IntKind.u64.wrap ((x : Int) * 256)) (c.toNat : Int) = ((x * 256 + c.toNat : Nat) : Int) := by
  have hc := c.toNat_lt
  have e : IntKind.u64.wrap ((x : Int) * 256) = ((x * 256 : Nat) : Int) := by
    simp only [IntKind.wrap, IntKind.bits, IntKind.signed]; simp; omega
  rw [e, u64_or_nat _ _ (by omega) (by omega)]
  have := Nat.two_pow_add_eq_or_of_lt (i := 8) (b := c.toNat) (by omega) x
  rw [show (2 : Nat) ^ 8 = 256 from rfl, Nat.mul_comm 256 x] at this
  rw [this]
theorem natB_take (l : List UInt8) (k : Nat) (h : k < l.length) : natB (l.take (k + 1)) = natB (l.take k) * 256 + (at8 l k).toNat := by
  rw [take_snoc8 l k h, natB_snoc]
theorem natB_lt7 (l : List UInt8) (h : l.length < 8) : natB l < 72057594037927936 := by
  have := natB_lt l
  have h2 : 256 ^ l.length ≤ 256 ^ 7 := Nat.pow_le_pow_right (by decide) (by omega)
  have h3 : (256 : Nat) ^ 7 = 72057594037927936 := by decide
  omega
set_option maxHeartbeats 1000000 in
theorem Fixed_calls {D : Nat → Prop} {w : World} {r : Nat} {l : List UInt8} (h : RdLB D w r l) (s : Nat) (hs : s ≤ l.length) (h8 : s ≤ 8) : Calls Tryd.prog 46 #[.pointer (some ⟨r, 0, none⟩), .int .i64 (s : Int)] w fun e w' => e = .returned (.int .u64 (natB (l.take s) : Int)) ∧ RdLB D w' r (l.drop s) ∧ Kept (· = r) w w' := by
  have m1 : max (s : Int) 0 = s := by omega
  have m2 : min (s : Int) 8 = s := by omega
  have h' := h
  obtain ⟨A, c, hr, _⟩ := h'
  have HR := Lib.hid (ready_calls hr)
  have HT := Lib.hid (take_calls h s hs)
  have HL : Hid ((l.take s).length = s) := by show _ = _; rw [List.length_take]; omega
  clear h hr hs
  go_enter Tryd.func46, Tryd.ntmps46
  go_wp2_with (first | (go_at_call 77; refine HR.out.mono ?_; rintro e w' ⟨rfl, rfl⟩) | (go_at_call 78; refine HT.out.mono ?_; rintro e w2 ⟨A2, c2, rfl, hb2, hr2, hk2⟩; refine park ?_; intro q hq))
  have HB2 := Lib.hid hb2
  have HR2 := Lib.hid hr2
  have HK2 := Lib.hid hk2
  clear hb2 hr2 hk2 HR HT
  refine hq.out ?_
  clear hq
  obtain ⟨p, hp⟩ : ∃ p, l.take s = p := ⟨_, rfl⟩
  have HP := Lib.hid hp
  rw [hp] at HL HB2
  clear hp
  go_wp2_with fail
  go_loop [7, 23] (fun v i => ∃ k : Nat, k ≤ s ∧ i = .int .i64 k ∧ v = .int .u64 (natB (p.take k) : Int)) (fun _ i => s - (intOf i).toNat)
  case atStart => exact ⟨0, Nat.zero_le _, rfl, rfl⟩
  case round =>
    obtain ⟨k, hk, rfl, rfl⟩ := hrel
    by_cases hlt : k < s
    · have hkp : k < p.length := by rw [HL.out]; exact hlt
      obtain ⟨ad, hA, hx⟩ := HB2.out k hkp
      cases hA
      have HO := Lib.hid (or_add (natB (p.take k)) (at8 p k) (natB_lt7 _ (by rw [List.length_take]; omega)))
      have HN := Lib.hid (natB_take p k hkp)
      obtain ⟨b1, b2⟩ := ltu8 (at8 p k)
      clear hkp
      have e1 := HO.out
      rw [← HN.out] at e1
      go_wp2
      go_round
      case rel => exact ⟨k + 1, by omega, by go_num, rfl⟩
      case measure => simp [intOf]; omega
    · obtain rfl : k = s := by omega
      go_wp2
      go_ret
      refine ⟨?_, HR2.out, HK2.out⟩
      have e : p.take k = p := List.take_of_length_le (by rw [HL.out]; exact Nat.le_refl _)
      rw [HP.out]
      first | rfl | (rw [e]; rfl) | (rw [← e]; rfl)
end Go.Proofs.YtibmlgkakeakcaaDoor
/- The walks of bytes.TrimLeft (one byte), bytes.Equal. -/
set_option linter.unusedSimpArgs false
set_option linter.unusedVariables false
namespace Go.Proofs.YtibmlgkakeakcaaDoor
open Go.RowKit Go.Proofs.YtibmlgkakeakcaaDoor.Crc
def sliceLen_ : Value → Nat
  | .slice _ n _ => n
  | _ => 0
def zeroB (l : List UInt8) : Bool := l.all (· == 0)
theorem dropWhile_zero (l : List UInt8) : ((l.dropWhile (· == 0)).length = 0) ↔ zeroB l = true := by
  unfold zeroB
  induction l with
  | nil => simp
  | cons x l ih =>
    rw [List.dropWhile_cons, List.all_cons]
    cases h : (x == (0 : UInt8))
    · simp
    · simpa using ih
set_option maxHeartbeats 1000000 in
theorem trimByte_calls (A : Option Addr) (n c : Nat) (l : List UInt8) (w : World) (hn : n = l.length) (hb : Bytes w A l) (hc : n ≤ c) (hm : c ≤ 9223372036854775807) :
    Calls Tryd.prog 98 #[.slice A n c, .int .u8 0] w fun e w' => (∃ A' c', e = .returned (.slice A' (l.dropWhile (· == 0)).length c')) ∧ w = w' := by
  subst hn
  have HB := Lib.hid hb
  clear hb
  go_enter Tryd.func98, Tryd.ntmps98
  go_wp2_with fail
  go_loop [0] (fun v => ∃ (A' : Option Addr) (m c' : Nat) (r : List UInt8), v = .slice A' m c' ∧ m ≤ c' ∧ c' ≤ 9223372036854775807 ∧ Hid (m = r.length ∧ Bytes w A' r ∧ r.dropWhile (· == 0) = l.dropWhile (· == 0))) (fun v => sliceLen_ v)
  case atStart => exact ⟨A, l.length, c, l, rfl, hc, hm, rfl, HB.out, rfl⟩
  case round =>
    obtain ⟨A', m, c', r, rfl, hmc, hcm, HR⟩ := hrel
    cases r with
    | nil =>
      obtain rfl : m = 0 := HR.out.1
      go_wp2_with fail
      go_ret
      have e := HR.out.2.2
      refine ⟨⟨none, 0, ?_⟩, rfl⟩
      rw [← e]; rfl
    | cons x r =>
      obtain ⟨b, o, rfl⟩ := HR.out.2.1.spot (by simp)
      have hm0 : 0 < m := by rw [HR.out.1]; simp
      obtain ⟨ad, hA, hx⟩ := HR.out.2.1 0 (by simp)
      cases hA
      rw [Addr.add_lit, Nat.add_zero] at hx
      replace hx : w.cell? ⟨b, o, none⟩ = some (.int .u8 (x.toNat : Int)) := hx
      cases hx0 : (x == (0 : UInt8))
      · have h1 : ((x.toNat : Int) == 0) = false := by
          simp at hx0 ⊢
          intro h
          exact hx0 (UInt8.toNat_inj.1 (by simpa using h))
        have h2 : ((m : Int) == 0) = false := by simp; omega
        have HX := Lib.hid hx0
        clear hx0
        go_wp2_with fail
        go_ret
        have e := HR.out.2.2
        rw [List.dropWhile_cons, HX.out] at e
        refine ⟨⟨some ⟨b, o, none⟩, c', ?_⟩, rfl⟩
        · rw [← e, if_neg (by simp), ← HR.out.1]; rfl
      · obtain rfl : x = 0 := by simpa using hx0
        have hN : Hid (m - 1 = r.length ∧ Bytes w (some ⟨b, o + 1, none⟩) r ∧ r.dropWhile (· == 0) = l.dropWhile (· == 0)) :=
          ⟨by rw [HR.out.1]; simp, by simpa using HR.out.2.1.drop 1, by have := HR.out.2.2; rw [List.dropWhile_cons] at this; simpa using this⟩
        by_cases hc1 : c' = 1
        · obtain rfl : m = 1 := by omega
          have hr : r = [] := by have := HR.out.1; simpa using this
          subst hr
          subst hc1
          have hN2 : Hid (0 = ([] : List UInt8).length ∧ Bytes w (some ⟨b, o, none⟩) [] ∧ ([] : List UInt8).dropWhile (· == 0) = l.dropWhile (· == 0)) := ⟨rfl, Bytes.nil _ _, hN.out.2.2⟩
          clear HR hx0 hN
          go_wp2_with fail
          go_round
          case rel => exact ⟨_, 0, 0, [], rfl, by omega, by omega, hN2⟩
          case measure => simp [sliceLen_]
        · clear HR hx0
          go_wp2_with fail
          go_round
          case rel => exact ⟨_, m - 1, c' - 1, r, rfl, by omega, by omega, hN⟩
          case measure => simp [sliceLen_]; omega
set_option maxHeartbeats 400000 in
set_option maxRecDepth 100000 in
theorem trimLeft_calls (A : Option Addr) (n c : Nat) (l : List UInt8) (w : World) (hn : n = l.length) (hb : Bytes w A l) (hc : n ≤ c) (hm : c ≤ 9223372036854775807) :
    Calls Tryd.prog 95 #[.slice A n c, .string ⟨#[0]⟩] w fun e w' => (∃ A' c', e = .returned (.slice A' (l.dropWhile (· == 0)).length c')) ∧ w = w' := by
  have HC := Lib.hid (trimByte_calls A n c l w hn hb hc hm)
  by_cases h0 : n = 0
  · have hl : l = [] := by rw [h0] at hn; exact List.eq_nil_of_length_eq_zero hn.symm
    subst hl
    subst h0
    clear hb hn
    go_enter Tryd.func95, Tryd.ntmps95
    go_wp2_with fail
    go_ret
    exact ⟨⟨none, 0, rfl⟩, rfl⟩
  · have h2 : ((n : Int) == 0) = false := by simp; omega
    clear hb hn
    go_enter Tryd.func95, Tryd.ntmps95
    go_wp2_with (go_at_call 98; refine HC.out.mono ?_; rintro e w' ⟨⟨A', c', rfl⟩, rfl⟩)
    go_ret
    exact ⟨⟨A', c', rfl⟩, rfl⟩
end Go.Proofs.YtibmlgkakeakcaaDoor
/- Arrays of 256 bytes; copies into bytes. -/
set_option linter.unusedSimpArgs false
set_option linter.unusedVariables false
namespace Go.Proofs.YtibmlgkakeakcaaDoor
open Go.RowKit Go.Proofs.YtibmlgkakeakcaaDoor.Crc
/-- A block that is bytes, whole. -/
def BlkB (w : World) (g : Nat) (t : TypeId) (l : List UInt8) : Prop := w.heap[g]? = some (.cells (cells8 l).toArray t (0, 0))
theorem BlkB.kept {S : Nat → Prop} {w w' : World} {g : Nat} {t : TypeId} {l : List UInt8} (h : BlkB w g t l) (hk : Kept S w w') (hs : ¬ S g) : BlkB w' g t l := by
  unfold BlkB at h ⊢
  rw [hk.block g (Array.getElem?_eq_some_iff.1 h).1 hs]; exact h
theorem BlkB.below {w w' : World} {g : Nat} {t : TypeId} {l : List UInt8} (h : BlkB w g t l) (hk : Below w.heap.size w w') : BlkB w' g t l := h.kept (S := fun _ => False) (Kept.of_below hk) (fun x => x)
theorem BlkB.cell {w : World} {g : Nat} {t : TypeId} {l : List UInt8} (h : BlkB w g t l) (i : Nat) (hi : i < l.length) : w.cell? ⟨g, i, none⟩ = some (.int .u8 ((at8 l i).toNat : Int)) ∧ w.frozen? ⟨g, i, none⟩ = false := by
  refine ⟨?_, frozen_of_row _ _ _ _ _ h⟩
  rw [cell_of_row _ _ _ _ _ _ h]
  simpa using cells8_get l i hi
theorem BlkB.set {w : World} {g : Nat} {t : TypeId} {l : List UInt8} (h : BlkB w g t l) (i : Nat) (x : UInt8) : BlkB (w.setCell ⟨g, i, none⟩ (.int .u8 (x.toNat : Int))) g t (l.set i x) := by
  unfold BlkB at h ⊢
  simp [World.setCell, Array.getElem?_modify, h, ← cells8_set]
theorem BlkB.bytes {w : World} {g : Nat} {t : TypeId} {l : List UInt8} (h : BlkB w g t l) : Bytes w (some ⟨g, 0, none⟩) l := bytes_of_block h rfl
theorem cells8_splice (l m : List UInt8) (off : Nat) : splice (cells8 l) off (cells8 m) = cells8 (splice l off m) := by
  unfold splice
  rw [cells8_length, cells8_take, cells8_drop, cells8_append, cells8_append]
section
variable {ops : Array Oper} {rest : List Oper} {o : Oper} {a : Act} {Q : Exit → Act → World → Prop} {w : World}
/-- copy of bytes into a block that is bytes. -/
theorem wpList_copyB (hg : o.guard = none) (d s : Operand) (ho : o.op = .call { callee := .builtin .copy, args := #[d, s], argTypes := #[30, 30] })
    (g off dLen dCap : Nat) (sp : Option Addr) (sLen sCap : Nat) (hd : a.eval d = .slice (some ⟨g, off, none⟩) dLen dCap) (hs : a.eval s = .slice sp sLen sCap)
    (t : TypeId) (cur l : List UInt8) (hb : BlkB w g t cur) (hl : sLen = l.length) (hsrc : Bytes w sp l) (hfit : off + Nat.min dLen l.length ≤ cur.length)
    (h : ∀ w', BlkB w' g t (splice cur off (l.take dLen)) → Kept (· = g) w w' → wpList Tryd.prog ops Q rest (a.put o.dst (goInt (l.take dLen).length)) w') : wpList Tryd.prog ops Q (o :: rest) a w := by
  subst hl
  have hlen : (cells8 (l.take dLen)).length = Nat.min l.length dLen := by rw [cells8_length, List.length_take, Nat.min_comm]
  have hlen2 : (l.take dLen).length = (cells8 (l.take dLen)).length := by rw [cells8_length]
  by_cases h0 : (l.take dLen).length = 0
  · refine wpList_copy_nothing hg d s _ _ ho 5 Tryd.underlying30 (by kernel_rfl) _ _ dLen dCap l.length sCap hd hs (by rw [← hlen, cells8_length]; exact h0) ?_
    have e : l.take dLen = [] := List.eq_nil_of_length_eq_zero h0
    have := h w (by rw [e]; simpa [splice] using hb) (Kept.refl _ _)
    rw [h0] at this
    exact this
  · obtain ⟨ad, rfl, _⟩ := hsrc 0 (by rw [List.length_take] at h0; omega)
    rw [hlen2] at h
    refine wpList_copy_own hg d s _ _ ho 5 Tryd.underlying30 (by kernel_rfl) g off dLen dCap ad l.length sCap hd hs (cells8 cur).toArray t hb (cells8 (l.take dLen)) hlen ?_ ?_ (cells8_one _) ?_
    · intro j v hj
      have hlt : j < (l.take dLen).length := by have := (List.getElem?_eq_some_iff.1 hj).1; rwa [cells8_length] at this
      obtain ⟨ad', hA, hc⟩ := hsrc.take dLen j hlt
      cases hA
      rw [cells8_get _ j hlt] at hj
      rw [hc, hj]
    · rw [hlen, show Nat.min l.length dLen = Nat.min dLen l.length from Nat.min_comm _ _]
      simpa [cells8_length] using hfit
    · refine h _ ?_ (Kept.setRow w _)
      have := setRow_heap w g (cells8 cur).toArray (splice (cells8 cur) off (cells8 (l.take dLen))).toArray t (0, 0) hb
      unfold BlkB
      rw [← cells8_splice]
      simpa [splice] using this
end
end Go.Proofs.YtibmlgkakeakcaaDoor
/- A copy of bytes as one step of a region. -/
set_option linter.unusedSimpArgs false
set_option linter.unusedVariables false
namespace Go.Proofs.YtibmlgkakeakcaaDoor
open Go.RowKit Go.Proofs.YtibmlgkakeakcaaDoor.Crc
theorem step_copyB {ops : Array Oper} {o : Oper} {a : Act} {w : World} {K : Act → World → Prop} {Q : Exit → Act → World → Prop} {E : Prop} (hgd : o.guard = none) (d s : Operand)
    (ho : o.op = .call { callee := .builtin .copy, args := #[d, s], argTypes := #[30, 30] })
    (g off dLen dCap : Nat) (sp : Option Addr) (sLen sCap : Nat) (hd : a.eval d = .slice (some ⟨g, off, none⟩) dLen dCap) (hs : a.eval s = .slice sp sLen sCap)
    (t : TypeId) (cur l : List UInt8) (hb : BlkB w g t cur) (hl : sLen = l.length) (hsrc : Bytes w sp l) (hfit : off + Nat.min dLen l.length ≤ cur.length)
    (h : ∀ w', Hid (BlkB w' g t (splice cur off (l.take dLen)) ∧ Kept (· = g) w w') → K (a.put o.dst (goInt (l.take dLen).length)) w') : if Region.wanted o (yielded ops a.tmps) = true then Oper.wp Tryd.prog o a w K Q else E := by
  subst hl
  have hw : Region.wanted o (yielded ops a.tmps) = true := by simp [Region.wanted, hgd]
  rw [if_pos hw]
  have hlen : (cells8 (l.take dLen)).length = Nat.min l.length dLen := by rw [cells8_length, List.length_take, Nat.min_comm]
  have hlen2 : (l.take dLen).length = (cells8 (l.take dLen)).length := by rw [cells8_length]
  by_cases h0 : (l.take dLen).length = 0
  · have hrun := run_copy_none (P := Tryd.prog) w 30 30 o.type 5 (some ⟨g, off, none⟩) sp dLen dCap l.length sCap Tryd.underlying30 (by kernel_rfl) (by rw [← hlen, cells8_length]; exact h0)
    have e : l.take dLen = [] := List.eq_nil_of_length_eq_zero h0
    have := h w ⟨by rw [e]; simpa [splice] using hb, Kept.refl _ _⟩
    rw [h0] at this
    unfold Oper.wp
    simp [execOp, ho, resolve, invoke, builtin, hd, hs, hrun, Result.andThen]
    exact this
  · obtain ⟨ad, rfl, _⟩ := hsrc 0 (by rw [List.length_take] at h0; omega)
    rw [hlen2] at h
    have hrun := run_copy_row (P := Tryd.prog) w 30 30 o.type 5 g off dLen dCap ad l.length sCap (cells8 cur).toArray t (cells8 (l.take dLen)) Tryd.underlying30 (by kernel_rfl) hb hlen (by
      intro j v hj
      have hlt : j < (l.take dLen).length := by have := (List.getElem?_eq_some_iff.1 hj).1; rwa [cells8_length] at this
      obtain ⟨ad', hA, hc⟩ := hsrc.take dLen j hlt
      cases hA
      rw [cells8_get _ j hlt] at hj
      rw [hc, hj]) (by
      rw [hlen, show Nat.min l.length dLen = Nat.min dLen l.length from Nat.min_comm _ _]
      simpa [cells8_length] using hfit) (cells8_one _)
    have hh : ∀ w', w' = w.setRow g ((cells8 cur).take off ++ (cells8 (l.take dLen) ++ (cells8 cur).drop (off + (cells8 (l.take dLen)).length))).toArray → K (a.put o.dst (goInt (cells8 (l.take dLen)).length)) w' := by
      rintro w' rfl
      refine h _ ⟨?_, Kept.setRow w _⟩
      have := setRow_heap w g (cells8 cur).toArray (splice (cells8 cur) off (cells8 (l.take dLen))).toArray t (0, 0) hb
      unfold BlkB
      rw [← cells8_splice]
      simpa [splice] using this
    unfold Oper.wp
    simp [execOp, ho, resolve, invoke, builtin, hd, hs, hrun, Result.andThen]
    exact hh _ rfl
end Go.Proofs.YtibmlgkakeakcaaDoor
/- Numbers of fixed width as bytes, and back (plain). -/
set_option linter.unusedSimpArgs false
set_option linter.unusedVariables false
namespace Go.Proofs.YtibmlgkakeakcaaDoor
open Go.RowKit Go.Proofs.YtibmlgkakeakcaaDoor.Crc
theorem natB_append (l m : List UInt8) : natB (l ++ m) = natB l * 256 ^ m.length + natB m := by
  suffices h : ∀ m : List UInt8, natB (l ++ m.reverse) = natB l * 256 ^ m.length + natB m.reverse by
    have := h m.reverse
    simpa using this
  intro m
  induction m with
  | nil => simp [natB]
  | cons c m ih =>
    rw [List.reverse_cons, ← List.append_assoc, natB_snoc, natB_snoc, ih, List.length_cons, Nat.pow_succ, Nat.add_mul, Nat.mul_assoc, Nat.add_assoc]
theorem fixB_natB (n : Nat) : ∀ s, natB (fixB n s) = n % 256 ^ s
  | 0 => by simp [fixB, natB, Nat.mod_one]
  | s + 1 => by
    rw [fixB, show byteAt n s :: fixB n s = [byteAt n s] ++ fixB n s from rfl, natB_append, fixB_length, fixB_natB n s]
    have h1 : natB [byteAt n s] = n / 256 ^ s % 256 := by simp [natB, byteAt]
    rw [h1, Nat.pow_succ, Nat.mod_mul]
    rw [Nat.add_comm, Nat.mul_comm (256 ^ s)]
theorem zeroB_replicate (n : Nat) : zeroB (List.replicate n 0) = true := by unfold zeroB; simp
end Go.Proofs.YtibmlgkakeakcaaDoor
/- Pages: words, ends of cells; the walks of page.word, cells, end. -/
set_option linter.unusedSimpArgs false
set_option linter.unusedVariables false
namespace Go.Proofs.YtibmlgkakeakcaaDoor
open Go.RowKit Go.Proofs.YtibmlgkakeakcaaDoor.Crc
/-- A number of two bytes, the higher ahead. -/
def wordB (l : List UInt8) (i : Nat) : Nat := (at8 l i).toNat * 256 + (at8 l (i + 1)).toNat
theorem wordB_le (l : List UInt8) (i : Nat) : wordB l i ≤ 65535 := by
  unfold wordB
  have h1 := (at8 l i).toNat_lt
  have h2 := (at8 l (i + 1)).toNat_lt
  omega
theorem i64_or_nat (a b : Nat) (ha : a < 9223372036854775808) (hb : b < 9223372036854775808) : bits .or .i64 (a : Int) (b : Int) = ((a ||| b : Nat) : Int) := by
  have hx : a ||| b < 2 ^ 63 := Nat.or_lt_two_pow (by omega) (by omega)
  show IntKind.i64.wrap ((BitVec.ofInt 64 (a : Int) ||| BitVec.ofInt 64 (b : Int)).toNat : Int) = _
  rw [BitVec.ofInt_natCast, BitVec.ofInt_natCast, BitVec.toNat_or, BitVec.toNat_ofNat, BitVec.toNat_ofNat, Nat.mod_eq_of_lt (by omega), Nat.mod_eq_of_lt (by omega)]
  exact IntWalk.i64_in _ (by omega)
theorem or_word (x y : UInt8) : bits .or .i64 ((x.toNat : Int) * 256) (y.toNat : Int) = ((x.toNat * 256 + y.toNat : Nat) : Int) := by
  have hx := x.toNat_lt
  have hy := y.toNat_lt
  have h := i64_or_nat (x.toNat * 256) y.toNat (by omega) (by omega)
  rw [Int.natCast_mul] at h
  have h2 := Nat.two_pow_add_eq_or_of_lt (i := 8) (b := y.toNat) (by omega) x.toNat
  rw [show (2 : Nat) ^ 8 = 256 from rfl, Nat.mul_comm 256 x.toNat] at h2
  rw [h2]
  exact h
set_option maxHeartbeats 400000 in
theorem word_calls (A : Option Addr) (n c : Nat) (l : List UInt8) (i : Nat) (w : World) (hn : n = l.length) (hb : Bytes w A l) (hi : i + 1 < n) (hs : n ≤ 140737488355328) :
    Calls Tryd.prog 92 #[.slice A n c, .int .i64 (i : Int)] w fun e w' => e = .returned (.int .i64 (wordB l i : Int)) ∧ ∃ m, w' = w.drewN m := by
  obtain ⟨b, o, rfl⟩ := hb.spot (by omega)
  obtain ⟨ad, h, x1⟩ := hb i (by omega)
  cases h
  obtain ⟨ad, h, x2⟩ := hb (i + 1) (by omega)
  cases h
  rw [Addr.add_lit] at x1 x2
  have HW := Lib.hid (or_word (at8 l i) (at8 l (i + 1)))
  have e1 : IntKind.i64.wrap ((i : Int) + 1) = (i : Int) + 1 := IntWalk.i64_in _ (by omega)
  have e2 : 0 ≤ (i : Int) + 1 := by omega
  have e3 : ((i : Int) + 1).toNat = i + 1 := by omega
  have e4 : (i : Int) + 1 < (n : Int) := by omega
  have e5 : (i : Int) < (n : Int) := by omega
  obtain ⟨u1, u2⟩ := ltu8 (at8 l i)
  obtain ⟨u3, u4⟩ := ltu8 (at8 l (i + 1))
  clear hb hn hi
  unfold wordB
  rw [← HW.out]
  go_enter Tryd.func92, Tryd.ntmps92
  go_wp2_with fail
  go_quiet (fail)
  go_wp2_with fail
  go_ret
  exact ⟨rfl, _, rfl⟩
theorem kept_drewN (w : World) (m : Nat) : Below w.heap.size w (w.drewN m) := below_drewN _ _
set_option maxHeartbeats 400000 in
theorem cellsAt_calls (A : Option Addr) (n c : Nat) (l : List UInt8) (w : World) (hn : n = l.length) (hb : Bytes w A l) (hi : 5 < n) (hs : n ≤ 140737488355328) :
    Calls Tryd.prog 89 #[.slice A n c] w fun e w' => e = .returned (.int .i64 (8 + 2 * ((at8 l 5).toNat : Int))) ∧ w = w' := by
  obtain ⟨b, o, rfl⟩ := hb.spot (by omega)
  obtain ⟨ad, h, x1⟩ := hb 5 (by omega)
  cases h
  rw [Addr.add_lit] at x1
  obtain ⟨u1, u2⟩ := ltu8 (at8 l 5)
  have e4 : (5 : Int) < (n : Int) := by omega
  clear hb hn
  go_enter Tryd.func89, Tryd.ntmps89
  go_wp2_with fail
  go_ret
  exact ⟨rfl, rfl⟩
/-- Where a cell ends. -/
def endB (l : List UInt8) (i : Int) : Nat := if i < 0 then 0 else wordB l (8 + 2 * i.toNat)
theorem endB_le (l : List UInt8) (i : Int) : endB l i ≤ 65535 := by
  unfold endB; split
  · omega
  · exact wordB_le _ _
set_option maxHeartbeats 400000 in
theorem end_calls (A : Option Addr) (n c : Nat) (l : List UInt8) (i : Int) (w : World) (hn : n = l.length) (hb : Bytes w A l) (hi : -1 ≤ i) (hi2 : i < 0 ∨ 9 + 2 * i < n) (hs : n ≤ 140737488355328) :
    Calls Tryd.prog 90 #[.slice A n c, .int .i64 i] w fun e w' => e = .returned (.int .i64 (endB l i : Int)) ∧ ∃ m, w' = w.drewN m := by
  by_cases h0 : i < 0
  · have d1 : decide (i < 0) = true := by simpa using h0
    have e : endB l i = 0 := by unfold endB; rw [if_pos h0]
    rw [e]
    clear hb hn h0 e hi2
    go_enter Tryd.func90, Tryd.ntmps90
    go_wp2_with fail
    go_ret
    exact ⟨rfl, 0, rfl⟩
  · have d1 : decide (i < 0) = false := by simpa using h0
    have e : endB l i = wordB l (8 + 2 * i.toNat) := by unfold endB; rw [if_neg h0]
    rw [e]
    obtain ⟨k, rfl⟩ := Int.eq_ofNat_of_zero_le (Int.not_lt.1 h0)
    rw [Int.toNat_natCast]
    have hw := word_calls A n c l (8 + 2 * k) w hn hb (by omega) hs
    have e2 : (((8 + 2 * k : Nat)) : Int) = 8 + 2 * (k : Int) := by omega
    rw [e2] at hw
    have HW := Lib.hid hw
    clear hw hb hn h0 e e2
    go_enter Tryd.func90, Tryd.ntmps90
    go_wp2_with (go_at_call 92; refine HW.out.mono ?_; rintro e w' ⟨rfl, m, rfl⟩)
    go_ret
    exact ⟨rfl, m, rfl⟩
end Go.Proofs.YtibmlgkakeakcaaDoor
/- Pages: what a page is; the walk of page.sound. -/
set_option linter.unusedSimpArgs false
set_option linter.unusedVariables false
namespace Go.Proofs.YtibmlgkakeakcaaDoor
open Go.RowKit Go.Proofs.YtibmlgkakeakcaaDoor.Crc
def cntB (l : List UInt8) : Nat := (at8 l 5).toNat
def sizB (l : List UInt8) : Nat := wordB l 6
def riseB (l : List UInt8) (k : Nat) : Bool := (List.range k).all fun i => decide (endB l ((i : Int) - 1) ≤ endB l (i : Int))
def soundB (l : List UInt8) : Bool :=
  decide (l.length = 256) && (decide ((at8 l 0).toNat ≤ 127) && (decide (at8 l 4 ≠ 0) && (decide (2 * cntB l + sizB l ≤ 244) && (decide (endB l ((cntB l : Int) - 1) = sizB l) && (riseB l (cntB l) && zeroB ((l.take 252).drop (8 + 2 * cntB l + sizB l)))))))
theorem riseB_succ (l : List UInt8) (k : Nat) : riseB l (k + 1) = (riseB l k && decide (endB l ((k : Int) - 1) ≤ endB l (k : Int))) := by
  unfold riseB; rw [List.range_succ, List.all_append]; simp
theorem riseB_le (l : List UInt8) (k m : Nat) (hm : k ≤ m) (h : riseB l m = true) : riseB l k = true := by
  unfold riseB at h ⊢
  rw [List.all_eq_true] at h ⊢
  intro i hi
  exact h i (by rw [List.mem_range] at hi ⊢; omega)
set_option maxRecDepth 100000 in
set_option maxHeartbeats 600000 in
theorem sound_calls (A : Option Addr) (n c : Nat) (l : List UInt8) (w : World) (hn : n = l.length) (hb : Bytes w A l) (hc : n ≤ c) (hm : c ≤ 9223372036854775807) (hs : n ≤ 140737488355328) :
    Calls Tryd.prog 73 #[.slice A n c] w fun e w' => e = .returned (.bool (soundB l)) ∧ ∃ m, w' = w.drewN m := by
  by_cases h256 : l.length = 256
  · obtain ⟨b, o, rfl⟩ := hb.spot (by omega)
    have hn' : n = 256 := by omega
    subst hn'
    have cellAt : ∀ i, i < 256 → w.cell? ⟨b, o + i, none⟩ = some (.int .u8 ((at8 l i).toNat : Int)) := fun i hi => by
      obtain ⟨ad, h, hx⟩ := hb i (by omega)
      cases h
      rw [Addr.add_lit] at hx
      exact hx
    have x0 := cellAt 0 (by decide)
    rw [Nat.add_zero] at x0
    have x4 := cellAt 4 (by decide)
    have x5 := cellAt 5 (by decide)
    have HB := Lib.hid hb
    have HL := Lib.hid h256
    obtain ⟨u1, u2⟩ := ltu8 (at8 l 0)
    obtain ⟨u3, u4⟩ := ltu8 (at8 l 4)
    obtain ⟨u5, u6⟩ := ltu8 (at8 l 5)
    clear hb cellAt
    by_cases h0 : (at8 l 0).toNat ≤ 127
    · have d0 : decide (((at8 l 0).toNat : Int) > 127) = false := by simp; omega
      by_cases h4 : at8 l 4 = 0
      · have d4 : (((at8 l 4).toNat : Int) == 0) = true := by rw [h4]; rfl
        have e : soundB l = false := by unfold soundB; simp [h256, h0, h4]
        rw [e]
        clear e hn h256 h0 h4
        go_enter Tryd.func73, Tryd.ntmps73
        go_wp2_with fail
        go_ret
        exact ⟨rfl, 0, rfl⟩
      · have d4 : (((at8 l 4).toNat : Int) == 0) = false := by
          rw [beq_eq_false_iff_ne]; intro h; exact h4 (UInt8.toNat_inj.1 (by simpa using h))
        have e : soundB l = (decide (2 * cntB l + sizB l ≤ 244) && (decide (endB l ((cntB l : Int) - 1) = sizB l) && (riseB l (cntB l) && zeroB ((l.take 252).drop (8 + 2 * cntB l + sizB l))))) := by unfold soundB; simp [h256, h0, h4]
        have E := Lib.hid e
        have E0 := Lib.hid e
        rw [e]
        have hwd := word_calls (some ⟨b, o, none⟩) 256 c l 6
        rw [show ((6 : Nat) : Int) = 6 from rfl] at hwd
        have HWd := Lib.hid (fun (w' : World) (h : Bytes w' (some ⟨b, o, none⟩) l) => hwd w' HL.out.symm h (by decide) (by decide))
        clear e hn h256 h0 h4 hwd
        go_enter Tryd.func73, Tryd.ntmps73
        go_wp2_with fail
        go_quiet ((go_at_call 92; exact Calls.quiet_of (HWd.out _ (by exact HB.out))))
        obtain ⟨N, hN⟩ : ∃ N, (at8 l 5).toNat = N := ⟨_, rfl⟩
        obtain ⟨S, hS⟩ : ∃ S, wordB l 6 = S := ⟨_, rfl⟩
        have HNN := Lib.hid hN
        have hE : soundB l = (decide (2 * N + S ≤ 244) && (decide (endB l ((N : Int) - 1) = S) && (riseB l N && zeroB ((l.take 252).drop (8 + 2 * N + S))))) := by
          have := E.out
          unfold cntB sizB at this
          rw [hN, hS] at this
          exact this
        have HE := Lib.hid hE
        have hS2 := wordB_le l 6
        rw [hN] at u5 u6 x5 ⊢
        rw [hS] at hS2 ⊢
        have HEnd := Lib.hid (fun (m : Nat) (i : Int) (h1 : -1 ≤ i) (h2 : i < 0 ∨ 9 + 2 * i < (256 : Nat)) => end_calls (some ⟨b, o, none⟩) 256 c l i (w.drewN m) HL.out.symm (HB.out.below (kept_drewN w m)) h1 h2 (by decide))
        clear hE E HWd hN hS x0 x4 x5 u1 u2 u3 u4 d0 d4
        by_cases h244 : 2 * N + S ≤ 244
        · have d1 : decide (2 * (N : Int) + (S : Int) > 244) = false := by simp; omega
          have d3 : decide (8 + 2 * (N : Int) ≤ 252) = true := by simp; omega
          have hEn := Lib.hid (HEnd.out nq ((N : Int) - 1) (by omega) (by omega))
          go_wp2_with (go_at_call 90; refine hEn.out.mono ?_; rintro e w2 ⟨rfl, m2, rfl⟩; refine park ?_; intro q hq)
          clear hEn
          refine hq.out ?_
          clear hq
          by_cases hes : endB l ((N : Int) - 1) = S
          · rw [hes]
            have d2 : ((S : Int) != (S : Int)) = false := by simp
            have HES : Hid (soundB l = (riseB l N && zeroB ((l.take 252).drop (8 + 2 * N + S)))) := by
              show _ = _
              rw [HE.out]; simp [h244, hes]
            rw [World.drewN_drewN]
            clear hes HE
            generalize nq + m2 = m3
            go_wp2_with fail
            go_loopw [48] (fun i wr => ∃ k : Nat, k ≤ N ∧ i = .int .i64 k ∧ Hid (riseB l k = true ∧ ∃ m, wr = w.drewN m)) (fun i _ => N - (intOf i).toNat)
            case atStart => exact ⟨0, Nat.zero_le _, rfl, rfl, m3, rfl⟩
            case round =>
              obtain ⟨k, hk, rfl, HR⟩ := hrel
              obtain ⟨m, rfl⟩ := HR.out.2
              have HRi := Lib.hid HR.out.1
              clear HR
              by_cases hlt : k < N
              · have hE1 := Lib.hid (HEnd.out m (k : Int) (by omega) (by omega))
                go_wp2_with (go_at_call 90; refine hE1.out.mono ?_; rintro e w2 ⟨rfl, m4, rfl⟩; refine park ?_; intro q hq)
                refine hq.out ?_
                clear hq hE1
                rw [World.drewN_drewN]
                generalize m + m4 = m5
                have hE2 := Lib.hid (HEnd.out m5 ((k : Int) - 1) (by omega) (by omega))
                go_wp2_with (go_at_call 90; refine hE2.out.mono ?_; rintro e w2 ⟨rfl, m6, rfl⟩; refine park ?_; intro q hq)
                refine hq.out ?_
                clear hq hE2
                rw [World.drewN_drewN]
                generalize m5 + m6 = m7
                have hsu := riseB_succ l k
                rw [HRi.out, Bool.true_and] at hsu
                have hq1 := endB_le l (k : Int)
                have hq2 := endB_le l ((k : Int) - 1)
                by_cases hle : endB l ((k : Int) - 1) ≤ endB l (k : Int)
                · have d5 : decide (endB l (k : Int) < endB l ((k : Int) - 1)) = false := by simp; omega
                  have HN : Hid (riseB l (k + 1) = true ∧ ∃ m, w.drewN m7 = w.drewN m) := ⟨by rw [hsu]; simpa using hle, m7, rfl⟩
                  clear hsu hle HRi
                  go_wp2_with fail
                  go_roundw
                  case rel => exact ⟨k + 1, by omega, by go_num, HN⟩
                  case measure => simp [intOf]; omega
                · have d5 : decide (endB l (k : Int) < endB l ((k : Int) - 1)) = true := by simp; omega
                  have HF : Hid (soundB l = false) := by
                    show _ = _
                    rw [HES.out]
                    have : riseB l N = false := by
                      cases hr : riseB l N
                      · rfl
                      · have h3 := riseB_le l (k + 1) N (by omega) hr
                        rw [hsu] at h3
                        exact absurd (by simpa using h3) hle
                    rw [this]; rfl
                  clear hsu hle HRi
                  go_wp2_with fail
                  go_ret
                  exact ⟨by rw [← E0.out, HF.out]; rfl, m7, rfl⟩
              · obtain rfl : k = N := by omega
                have hCe := cellsAt_calls (some ⟨b, o, none⟩) 256 c l (w.drewN m) HL.out.symm (HB.out.below (kept_drewN w m)) (by decide) (by decide)
                rw [HNN.out] at hCe
                have HCe := Lib.hid hCe
                clear hCe
                have hzl : ((l.take 252).drop (8 + 2 * k + S)).length = 252 - (8 + 2 * k + S) := by
                  have h6 : l.length = 256 := HL.out
                  rw [List.length_drop, List.length_take, h6]; omega
                have hbt := ((HB.out.below (kept_drewN w m)).take 252).drop (8 + 2 * k + S)
                have hT := trimLeft_calls (some ⟨b, o + (8 + 2 * k + S), none⟩) (252 - (8 + 2 * k + S)) (c - (8 + 2 * k + S)) ((l.take 252).drop (8 + 2 * k + S)) (w.drewN m) hzl.symm hbt (by omega) (by omega)
                obtain ⟨dl, hdl⟩ : ∃ d, (((l.take 252).drop (8 + 2 * k + S)).dropWhile (· == 0)).length = d := ⟨_, rfl⟩
                have ez : ((dl : Int) == 0) = zeroB ((l.take 252).drop (8 + 2 * k + S)) := by
                  rw [Bool.eq_iff_iff, ← dropWhile_zero, hdl]; simp
                rw [hdl] at hT
                have HT := Lib.hid hT
                have EZ := Lib.hid ez
                have hne : ¬ c = 8 + 2 * k + S := by omega
                have f1 : (8 + 2 * (k : Int) + (S : Int)).toNat = 8 + 2 * k + S := by omega
                have f2 : 8 + 2 * (k : Int) + (S : Int) ≤ 252 := by omega
                have f3 : IntKind.i64.wrap (8 + 2 * (k : Int) + (S : Int)) = 8 + 2 * (k : Int) + (S : Int) := IntWalk.i64_in _ (by omega)
                clear hT ez hdl hbt hzl
                go_wp2_with (go_at_call 89; refine HCe.out.mono ?_; rintro e w' ⟨rfl, rfl⟩)
                go_at_call 95
                refine HT.out.mono ?_
                rintro e w' ⟨⟨A', c', rfl⟩, rfl⟩
                go_wp2_with fail
                go_ret
                refine ⟨?_, m, rfl⟩
                rw [← E0.out, HES.out, HRi.out, Bool.true_and, ← EZ.out]
                rfl
          · have d2 : (((endB l ((N : Int) - 1) : Nat) : Int) != (S : Int)) = true := by simp; omega
            have e : soundB l = false := by rw [HE.out]; simp [hes]
            have HF := Lib.hid e
            clear e hes
            go_wp2_with fail
            go_ret
            exact ⟨by rw [← E0.out, HF.out]; rfl, nq + m2, rfl⟩
        · have d1 : decide (2 * (N : Int) + (S : Int) > 244) = true := by simp; omega
          have e : soundB l = false := by rw [HE.out]; simp [h244]
          have HF := Lib.hid e
          clear e h244
          go_wp2_with fail
          go_ret
          exact ⟨by rw [← E0.out, HF.out]; rfl, nq, rfl⟩
    · have d0 : decide (((at8 l 0).toNat : Int) > 127) = true := by simp; omega
      have e : soundB l = false := by unfold soundB; simp [h256, h0]
      rw [e]
      clear e hn h256 h0
      go_enter Tryd.func73, Tryd.ntmps73
      go_wp2_with fail
      go_ret
      exact ⟨rfl, 0, rfl⟩
  · have e : soundB l = false := by unfold soundB; simp [h256]
    rw [e]
    have h2 : ((n : Int) != 256) = true := by simp; omega
    clear e hb hn h256
    go_enter Tryd.func73, Tryd.ntmps73
    go_wp2_with fail
    go_ret
    exact ⟨rfl, 0, rfl⟩
end Go.Proofs.YtibmlgkakeakcaaDoor
/- Pages: the walks of page.own, Kind, Count. -/
set_option linter.unusedSimpArgs false
set_option linter.unusedVariables false
namespace Go.Proofs.YtibmlgkakeakcaaDoor
open Go.RowKit Go.Proofs.YtibmlgkakeakcaaDoor.Crc
theorem below_keep2 {r : Nat} {w a b : World} (hr : w.heap.size = r) (h : Below r w a) (k : Kept (· = r) a b) : Below r w b := h.trans (k.below (by have := h.size; omega) (fun k hk e => by omega))
section
variable {ops : Array Oper} {rest : List Oper} {o : Oper} {a : Act} {Q : Exit → Act → World → Prop} {w : World}
/-- make of 256 bytes. -/
theorem wpList_make256 (hg : o.guard = none) (l c : Operand) (ho : o.op = Op.makeSlice 30 l c) (hl : a.eval l = .int .i64 256) (hc : a.eval c = .int .i64 256)
    (h : ∀ w', BlkB w' w.heap.size 5 zsec → Below w.heap.size w w' → wpList Tryd.prog ops Q rest (a.put o.dst (.slice (some ⟨w.heap.size, 0, none⟩) 256 256)) w') : wpList Tryd.prog ops Q (o :: rest) a w := by
  obtain ⟨i, hi, hz0, hz1, hz2⟩ := info_parts info8
  refine wpList_make_row w hg l c _ ho 5 i (.int .u8 0) Tryd.underlying30 hi hz0 hz1 rfl .i64 .i64 256 hl hc (by rw [hz2]; decide) (by decide) ?_
  refine h _ ?_ ((Below.refl _ _).alloc (Nat.le_refl _) _)
  have e : madeCells #[Value.int .u8 0] 256 = (cells8 zsec).toArray := by kernel_rfl
  rw [e]
  exact heap_alloc_new w _
end
def ownP (l : List UInt8) : List UInt8 := l.take 252 ++ [0, 0, 0, 0]
theorem ownP_len (l : List UInt8) (h : 252 ≤ l.length) : (ownP l).length = 256 := by
  unfold ownP; rw [List.length_append, List.length_take, Nat.min_eq_left h]; rfl
theorem splice_own (l : List UInt8) (h : 252 ≤ l.length) : splice zsec 0 ((l.take 252).take 256) = ownP l := by
  unfold splice ownP
  have h1 : (l.take 252).length = 252 := by rw [List.length_take, Nat.min_eq_left h]
  have h2 : ((l.take 252).take 256) = l.take 252 := List.take_of_length_le (by omega)
  rw [h2, h1]
  rfl
set_option maxRecDepth 100000 in
set_option maxHeartbeats 400000 in
theorem own_calls (A : Option Addr) (n c : Nat) (l : List UInt8) (w : World) (hn : n = l.length) (hb : Bytes w A l) (h252 : 252 ≤ n) (hc : n ≤ c) (hm : c ≤ 9223372036854775807) :
    Calls Tryd.prog 88 #[.slice A n c] w fun e w' => ∃ r, e = .returned (.slice (some ⟨r, 0, none⟩) 256 256) ∧ w.heap.size ≤ r ∧ BlkB w' r 5 (ownP l) ∧ Below w.heap.size w w' := by
  have HB := Lib.hid hb
  obtain ⟨b, o, rfl⟩ := hb.spot (by omega)
  have HL : Hid (252 ≤ l.length) := by show 252 ≤ _; omega
  have f1 : 252 ≤ c := by omega
  clear hb hn
  go_enter Tryd.func88, Tryd.ntmps88
  go_wp2_with (with_reducible refine park_make ?_; intro q hq)
  refine hq.out ?_
  clear hq
  refine wpList_make256 rfl _ _ rfl rfl rfl ?_
  intro w1 hA1 hk1
  have HA1 := Lib.hid hA1
  have HK1 := Lib.hid hk1
  have HB1 := Lib.hid (HB.out.below hk1)
  clear hA1 hk1
  obtain ⟨r, hr⟩ : ∃ r, w.heap.size = r := ⟨_, rfl⟩
  have HR := Lib.hid hr
  rw [hr] at HA1 ⊢
  clear hr
  go_wp2_with (with_reducible refine park_copy ?_; intro q hq)
  refine hq.out ?_
  clear hq
  have hl2 : (l.take 252).length = 252 := by rw [List.length_take, Nat.min_eq_left HL.out]
  refine wpList_copyB rfl _ _ rfl r 0 256 256 (some ⟨b, o, none⟩) 252 c rfl rfl _ zsec (l.take 252) HA1.out hl2.symm (HB1.out.take 252) (by rw [hl2]; decide) ?_
  intro w2 hA2 hk2
  rw [splice_own l HL.out] at hA2
  have HA2 := Lib.hid hA2
  have HK2 := Lib.hid hk2
  rw [List.length_take, hl2]
  clear hA2 hk2 hl2
  go_wp2_with fail
  go_ret
  exact ⟨r, rfl, Nat.le_of_eq HR.out, HA2.out, below_keep2 rfl HK1.out (by rw [HR.out]; exact HK2.out)⟩
end Go.Proofs.YtibmlgkakeakcaaDoor
/- Pages: the walks of Count, left, Free. -/
set_option linter.unusedSimpArgs false
set_option linter.unusedVariables false
namespace Go.Proofs.YtibmlgkakeakcaaDoor
open Go.RowKit Go.Proofs.YtibmlgkakeakcaaDoor.Crc
theorem soundB_len (l : List UInt8) (h : soundB l = true) : l.length = 256 := by
  unfold soundB at h
  simp only [Bool.and_eq_true, decide_eq_true_eq] at h
  exact h.1
theorem soundB_room (l : List UInt8) (h : soundB l = true) : 2 * cntB l + sizB l ≤ 244 := by
  unfold soundB at h
  simp only [Bool.and_eq_true, decide_eq_true_eq] at h
  exact h.2.2.2.1
def countP (l : List UInt8) : Nat := if soundB l = true then cntB l else 0
set_option maxHeartbeats 400000 in
theorem Count_calls (A : Option Addr) (n c : Nat) (l : List UInt8) (w : World) (hn : n = l.length) (hb : Bytes w A l) (hc : n ≤ c) (hm : c ≤ 9223372036854775807) (hs : n ≤ 140737488355328) :
    Calls Tryd.prog 74 #[.slice A n c] w fun e w' => e = .returned (.int .i64 (countP l : Int)) ∧ ∃ m, w' = w.drewN m := by
  have HS := Lib.hid (sound_calls A n c l w hn hb hc hm hs)
  by_cases hS : soundB l = true
  · rw [hS] at HS
    have h256 := soundB_len l hS
    obtain ⟨b, o, rfl⟩ := hb.spot (by omega)
    have x4 : ∀ m, (w.drewN m).cell? ⟨b, o + 5, none⟩ = some (.int .u8 ((at8 l 5).toNat : Int)) := fun m => by
      obtain ⟨ad, h, hx⟩ := (hb.below (kept_drewN w m)) 5 (by omega)
      cases h
      rw [Addr.add_lit] at hx
      exact hx
    obtain ⟨u1, u2⟩ := ltu8 (at8 l 5)
    have e : countP l = (at8 l 5).toNat := by unfold countP cntB; rw [if_pos hS]
    rw [e]
    have h4 : (5 : Int) < (n : Int) := by omega
    have HX := Lib.hid x4
    clear hb hn e hS h256 x4
    go_enter Tryd.func74, Tryd.ntmps74
    go_wp2_with (go_at_call 73; refine HS.out.mono ?_; rintro e w2 ⟨rfl, m2, rfl⟩; refine park ?_; intro q hq)
    have x4 := HX.out m2
    refine hq.out ?_
    clear hq
    go_wp2_with fail
    go_ret
    exact ⟨rfl, m2, rfl⟩
  · have hS' : soundB l = false := by simpa using hS
    rw [hS'] at HS
    have e : countP l = 0 := by unfold countP; rw [if_neg hS]
    rw [e]
    clear hb hn e hS hS'
    go_enter Tryd.func74, Tryd.ntmps74
    go_wp2_with (go_at_call 73; refine HS.out.mono ?_; rintro e w2 ⟨rfl, m2, rfl⟩)
    go_ret
    exact ⟨rfl, _, rfl⟩
end Go.Proofs.YtibmlgkakeakcaaDoor
/- Pages: the walks of page.left, Free. -/
set_option linter.unusedSimpArgs false
set_option linter.unusedVariables false
namespace Go.Proofs.YtibmlgkakeakcaaDoor
open Go.RowKit Go.Proofs.YtibmlgkakeakcaaDoor.Crc
/-- How many bytes of a sound page's room are left. -/
def leftP (l : List UInt8) : Nat := 244 - (2 * cntB l + sizB l)
set_option maxHeartbeats 400000 in
theorem left_calls (A : Option Addr) (n c : Nat) (l : List UInt8) (w : World) (hn : n = l.length) (hb : Bytes w A l) (hS : soundB l = true) :
    Calls Tryd.prog 87 #[.slice A n c] w fun e w' => e = .returned (.int .i64 (leftP l : Int)) ∧ ∃ m, w' = w.drewN m := by
  have h256 := soundB_len l hS
  have hroom := soundB_room l hS
  obtain ⟨b, o, rfl⟩ := hb.spot (by omega)
  obtain ⟨ad, h, x5⟩ := hb 5 (by omega)
  cases h
  rw [Addr.add_lit] at x5
  obtain ⟨u1, u2⟩ := ltu8 (at8 l 5)
  have hwd := word_calls (some ⟨b, o, none⟩) n c l 6
  rw [show ((6 : Nat) : Int) = 6 from rfl] at hwd
  obtain ⟨S, hS6⟩ : ∃ S, wordB l 6 = S := ⟨_, rfl⟩
  rw [hS6] at hwd
  have HWd := Lib.hid (fun (w' : World) (h : Bytes w' (some ⟨b, o, none⟩) l) => hwd w' hn h (by omega) (by omega))
  have HB := Lib.hid hb
  obtain ⟨N, hN⟩ : ∃ N, (at8 l 5).toNat = N := ⟨_, rfl⟩
  have hlp : (leftP l : Int) = 244 - 2 * (N : Int) - (S : Int) := by
    have h1 : 2 * (at8 l 5).toNat + wordB l 6 ≤ 244 := hroom
    show ((244 - (2 * (at8 l 5).toNat + wordB l 6) : Nat) : Int) = _
    rw [hN, hS6] at h1 ⊢
    omega
  have HLP := Lib.hid hlp
  have hroom2 : 2 * N + S ≤ 244 := by unfold cntB sizB at hroom; rw [hN, hS6] at hroom; exact hroom
  rw [hN] at x5 u1 u2
  have h4 : (5 : Int) < (n : Int) := by omega
  rw [HLP.out]
  clear hb hn hwd h256 hroom hS hN hS6 hlp
  go_enter Tryd.func87, Tryd.ntmps87
  go_wp2_with fail
  go_quiet ((go_at_call 92; exact Calls.quiet_of (HWd.out _ (by exact HB.out))))
  go_wp2_with fail
  go_ret
  exact ⟨rfl, _, rfl⟩
end Go.Proofs.YtibmlgkakeakcaaDoor
/- Pages: the walks of page.setWord, New. -/
set_option linter.unusedSimpArgs false
set_option linter.unusedVariables false
namespace Go.Proofs.YtibmlgkakeakcaaDoor
open Go.RowKit Go.Proofs.YtibmlgkakeakcaaDoor.Crc
/-- A number of two bytes set. -/
def setW (l : List UInt8) (i n : Nat) : List UInt8 := (l.set i (UInt8.ofNat (n / 256))).set (i + 1) (UInt8.ofNat n)
set_option maxHeartbeats 400000 in
theorem setWord_calls (g : Nat) (l : List UInt8) (i n : Nat) (w : World) (hb : BlkB w g 5 l) (hl : l.length = 256) (hi : i + 1 < 256) (hn : n < 65536) :
    Calls Tryd.prog 91 #[.slice (some ⟨g, 0, none⟩) 256 256, .int .i64 (i : Int), .int .i64 (n : Int)] w fun e w' => e = .returned (.tuple #[]) ∧ BlkB w' g 5 (setW l i n) ∧ Kept (· = g) w w' := by
  have e1 : IntKind.i64.wrap ((i : Int) + 1) = (i : Int) + 1 := IntWalk.i64_in _ (by omega)
  have e2 : 0 ≤ (i : Int) + 1 := by omega
  have e3 : ((i : Int) + 1).toNat = i + 1 := by omega
  have e4 : (i : Int) + 1 < 256 := by omega
  have e5 : (i : Int) < 256 := by omega
  have e6 : IntKind.u8.wrap ((n : Int) / 256) = ((UInt8.ofNat (n / 256)).toNat : Int) := by
    simp only [IntKind.wrap, IntKind.bits, IntKind.signed]; simp
  have e7 : IntKind.u8.wrap (n : Int) = ((UInt8.ofNat n).toNat : Int) := by
    simp only [IntKind.wrap, IntKind.bits, IntKind.signed]; simp
  have HA := Lib.hid (((hb.set i (UInt8.ofNat (n / 256))).set (i + 1) (UInt8.ofNat n)))
  have HK : Hid (Kept (· = g) w ((w.setCell ⟨g, i, none⟩ (.int .u8 ((UInt8.ofNat (n / 256)).toNat : Int))).setCell ⟨g, i + 1, none⟩ (.int .u8 ((UInt8.ofNat n).toNat : Int)))) := (Kept.set1 w g i _).trans (Kept.set1 _ g (i + 1) _)
  obtain ⟨x1, x2⟩ := hb.cell i (by omega)
  obtain ⟨x3, x4⟩ := (hb.set i (UInt8.ofNat (n / 256))).cell (i + 1) (by rw [List.length_set]; omega)
  generalize hA : (UInt8.ofNat (n / 256)).toNat = a at *
  generalize hB : (UInt8.ofNat n).toNat = b at *
  unfold setW
  clear hb hA hB
  go_enter Tryd.func91, Tryd.ntmps91
  go_wp2_with fail
  go_end0
  exact ⟨rfl, HA.out, HK.out⟩
def newB (no : Nat) (k : UInt8) : List UInt8 := fixB no 4 ++ k :: List.replicate 251 0
theorem splice_new (no : Nat) (k : UInt8) : (splice zsec 0 ((fixB no 4).take 256)).set 4 k = newB no k := by
  have h1 : (fixB no 4).length = 4 := fixB_length no 4
  have h2 : (fixB no 4).take 256 = fixB no 4 := List.take_of_length_le (by omega)
  unfold splice newB
  rw [h2, h1]
  show ([] ++ (fixB no 4 ++ List.drop (0 + 4) zsec)).set 4 k = _
  rw [List.nil_append, List.set_append_right _ _ (by omega), h1]
  rfl
set_option maxRecDepth 100000 in
set_option maxHeartbeats 400000 in
theorem New_calls (no : Nat) (k : UInt8) (w : World) (h1 : no ≤ 2147483647) (h2 : ¬ k = 0) :
    Calls Tryd.prog 64 #[.int .i64 (no : Int), .int .u8 (k.toNat : Int)] w fun e w' => ∃ r, e = .returned (.tuple #[.slice (some ⟨r, 0, none⟩) 256 256, .int .i64 0]) ∧ w.heap.size ≤ r ∧ BlkB w' r 5 (newB no k) ∧ Below w.heap.size w w' := by
  have d1 : decide ((no : Int) < 0) = false := by simp
  have d2 : decide ((no : Int) > 2147483647) = false := by simp; omega
  have d3 : ((k.toNat : Int) == 0) = false := by
    rw [beq_eq_false_iff_ne]; intro h; exact h2 (UInt8.toNat_inj.1 (by simpa using h))
  have d4 : IntKind.u64.wrap (no : Int) = (no : Int) := by simp only [IntKind.wrap, IntKind.bits, IntKind.signed]; simp; omega
  obtain ⟨u1, u2⟩ := ltu8 k
  have HP := Lib.hid (fun w => PutFixed_calls no (by omega) 4 (by decide) w)
  rw [show ((4 : Nat) : Int) = 4 from rfl] at HP
  clear h1 h2
  go_enter Tryd.func64, Tryd.ntmps64
  go_wp2_with (with_reducible refine park_make ?_; intro q hq)
  refine hq.out ?_
  clear hq
  refine wpList_make256 rfl _ _ rfl rfl rfl ?_
  intro w1 hA1 hk1
  have HA1 := Lib.hid hA1
  have HK1 := Lib.hid hk1
  clear hA1 hk1
  obtain ⟨r, hr⟩ : ∃ r, w.heap.size = r := ⟨_, rfl⟩
  have HR := Lib.hid hr
  rw [hr] at HA1 ⊢
  clear hr
  go_wp2_with (go_at_call 63; refine (HP.out _).mono ?_; rintro e w2 ⟨Am, cm, rfl, hOm, hb2⟩; refine park ?_; intro q hq)
  have HA2 := Lib.hid (HA1.out.below hb2)
  have HB2 : Hid (Below w.heap.size w w2) := HK1.out.trans (hb2.mono HK1.out.size)
  have HM2 := Lib.hid hOm.bytes
  clear hOm hb2
  refine hq.out ?_
  clear hq
  go_wp2_with (with_reducible refine park_copy ?_; intro q hq)
  refine hq.out ?_
  clear hq
  refine wpList_copyB rfl _ _ rfl r 0 256 256 Am (fixB no 4).length cm rfl rfl _ zsec (fixB no 4) HA2.out rfl HM2.out (by rw [fixB_length]; decide) ?_
  intro w3 hA3 hk3
  have hl3 : (splice zsec 0 ((fixB no 4).take 256)).length = 256 := by unfold splice; simp [fixB_length, zsec_length]
  obtain ⟨x1, x2⟩ := hA3.cell 4 (by rw [hl3]; decide)
  have hA4 := hA3.set 4 k
  rw [splice_new] at hA4
  have HA4 := Lib.hid hA4
  have HK4 : Hid (Kept (· = r) w2 (w3.setCell ⟨r, 4, none⟩ (.int .u8 (k.toNat : Int)))) := hk3.trans (Kept.set1 w3 r 4 _)
  have hlt : (List.take 256 (fixB no 4)).length = 4 := by simp [fixB_length]
  rw [hlt]
  clear hA3 hk3 hA4 hl3 hlt
  go_wp2_with fail
  go_ret2
  exact ⟨r, rfl, Nat.le_of_eq HR.out, HA4.out, below_keep2 rfl HB2.out (by rw [HR.out]; exact HK4.out)⟩
end Go.Proofs.YtibmlgkakeakcaaDoor
/- Pages: the walk of page.cell. -/
set_option linter.unusedSimpArgs false
set_option linter.unusedVariables false
namespace Go.Proofs.YtibmlgkakeakcaaDoor
open Go.RowKit Go.Proofs.YtibmlgkakeakcaaDoor.Crc
set_option maxRecDepth 100000 in
set_option maxHeartbeats 200000 in
theorem cell_calls (b o n c : Nat) (l : List UInt8) (i : Nat) (w : World) (hn : n = l.length) (hb : Bytes w (some ⟨b, o, none⟩) l) (h256 : l.length = 256) (hc : n ≤ c) (hm : c ≤ 9223372036854775807) (hi : 8 + 2 * i < 255)
    (N E0 E1 : Nat) (hN : (at8 l 5).toNat = N) (hE0 : endB l ((i : Int) - 1) = E0) (hE1 : endB l (i : Int) = E1) (h01 : E0 ≤ E1) (hfit : 8 + 2 * N + E1 ≤ 252) :
    Calls Tryd.prog 75 #[.slice (some ⟨b, o, none⟩) n c, .int .i64 (i : Int)] w fun e w' => e = .returned (.slice (some ⟨b, o + (8 + 2 * N + E0), none⟩) (E1 - E0) (c - (8 + 2 * N + E0))) ∧ ∃ m, w' = w.drewN m := by
  have hCe := cellsAt_calls (some ⟨b, o, none⟩) n c l w hn hb (by omega) (by omega)
  rw [hN] at hCe
  have hCe2 : Calls Tryd.prog 89 #[.slice (some ⟨b, o, none⟩) n c] w fun e w' => e = .returned (.int .i64 ((8 + 2 * N : Nat) : Int)) ∧ w = w' := by
    have e : ((8 + 2 * N : Nat) : Int) = 8 + 2 * (N : Int) := by omega
    rw [e]; exact hCe
  obtain ⟨B, hB⟩ : ∃ B, 8 + 2 * N = B := ⟨_, rfl⟩
  rw [hB] at hCe2 hfit ⊢
  have HCe := Lib.hid hCe2
  have h1 := fun (w' : World) (h : Bytes w' (some ⟨b, o, none⟩) l) => end_calls (some ⟨b, o, none⟩) n c l ((i : Int) - 1) w' hn h (by omega) (by omega) (by omega)
  have h2 := fun (w' : World) (h : Bytes w' (some ⟨b, o, none⟩) l) => end_calls (some ⟨b, o, none⟩) n c l (i : Int) w' hn h (by omega) (by omega) (by omega)
  rw [hE0] at h1
  rw [hE1] at h2
  have H1 := Lib.hid h1
  have H2 := Lib.hid h2
  have HB := Lib.hid hb
  have HBd := Lib.hid (fun m => hb.below (kept_drewN w m))
  have hn2 : n = 256 := by omega
  subst hn2
  clear hCe hCe2 h1 h2 hb hn h256 hN hE0 hE1
  have f1 : E1 - E0 = (B + E1) - (B + E0) := by omega
  rw [f1]
  clear f1
  obtain ⟨F, hF⟩ : ∃ F, B + E0 = F := ⟨_, rfl⟩
  obtain ⟨G, hG⟩ : ∃ G, B + E1 = G := ⟨_, rfl⟩
  rw [hF, hG]
  have g1 : IntKind.i64.wrap ((B : Int) + (E0 : Int)) = (F : Int) := by rw [← hF]; exact IntWalk.i64_in _ (by omega)
  have g2 : IntKind.i64.wrap ((B : Int) + (E1 : Int)) = (G : Int) := by rw [← hG]; exact IntWalk.i64_in _ (by omega)
  have g3 : F ≤ G := by omega
  have g4 : G ≤ 252 := by omega
  go_enter Tryd.func75, Tryd.ntmps75
  go_wp2_with (first | (go_at_call 89; refine HCe.out.mono ?_; rintro e w' ⟨rfl, rfl⟩) | (go_at_call 90; with_reducible refine (H1.out _ HB.out).mono ?_; rintro e w2 ⟨rfl, m2, rfl⟩) | (go_at_call 90; with_reducible refine (H2.out _ (HBd.out _)).mono ?_; rintro e w2 ⟨rfl, m3, rfl⟩; rw [World.drewN_drewN]))
  go_ret
  exact ⟨rfl, _, rfl⟩
end Go.Proofs.YtibmlgkakeakcaaDoor
/- Pages: words that are set, plain. -/
set_option linter.unusedSimpArgs false
set_option linter.unusedVariables false
namespace Go.Proofs.YtibmlgkakeakcaaDoor
open Go.RowKit Go.Proofs.YtibmlgkakeakcaaDoor.Crc
theorem setW_len (l : List UInt8) (i n : Nat) : (setW l i n).length = l.length := by unfold setW; simp
theorem at8_set_ne (l : List UInt8) (i j : Nat) (x : UInt8) (h : i ≠ j) : at8 (l.set i x) j = at8 l j := by
  unfold at8; simp [List.getElem?_set_ne h]
theorem wordB_setW_ne (l : List UInt8) (i j n : Nat) (h : j + 1 < i ∨ i + 1 < j) : wordB (setW l i n) j = wordB l j := by
  unfold wordB setW
  rw [at8_set_ne _ _ _ _ (by omega), at8_set_ne _ _ _ _ (by omega), at8_set_ne _ _ _ _ (by omega), at8_set_ne _ _ _ _ (by omega)]
/-- The ends from i on, m of them, moved by d. -/
def shiftB (l : List UInt8) (i : Nat) (d : Int) : Nat → List UInt8
  | 0 => l
  | m + 1 => setW (shiftB l i d m) (8 + 2 * (i + m)) ((endB l ((i + m : Nat) : Int) : Int) + d).toNat
theorem shiftB_len (l : List UInt8) (i : Nat) (d : Int) (m : Nat) : (shiftB l i d m).length = l.length := by
  induction m with
  | zero => rfl
  | succ m ih => show (setW _ _ _).length = _; rw [setW_len, ih]
theorem shiftB_word (l : List UInt8) (i : Nat) (d : Int) (m j : Nat) (h : j + 1 < 8 + 2 * i ∨ 8 + 2 * (i + m) ≤ j) : wordB (shiftB l i d m) j = wordB l j := by
  induction m with
  | zero => rfl
  | succ m ih => show wordB (setW _ _ _) j = _; rw [wordB_setW_ne _ _ _ _ (by omega), ih (by omega)]
end Go.Proofs.YtibmlgkakeakcaaDoor
/- Pages: the walk of page.shift. -/
set_option linter.unusedSimpArgs false
set_option linter.unusedVariables false
namespace Go.Proofs.YtibmlgkakeakcaaDoor
open Go.RowKit Go.Proofs.YtibmlgkakeakcaaDoor.Crc
theorem shiftB_at (l : List UInt8) (i : Nat) (d : Int) (m j : Nat) (h : j < 8) : at8 (shiftB l i d m) j = at8 l j := by
  induction m with
  | zero => rfl
  | succ m ih =>
    show at8 (setW _ _ _) j = _
    unfold setW
    rw [at8_set_ne _ _ _ _ (by omega), at8_set_ne _ _ _ _ (by omega), ih]
theorem endB_nat (l : List UInt8) (k : Nat) : endB l (k : Int) = wordB l (8 + 2 * k) := by
  unfold endB; rw [if_neg (by omega)]; rfl
set_option maxRecDepth 100000 in
set_option maxHeartbeats 400000 in
theorem shift_calls (g : Nat) (l : List UInt8) (i N : Nat) (d : Int) (w : World) (hb : BlkB w g 5 l) (hl : l.length = 256) (hN : (at8 l 5).toNat = N) (hi : i ≤ N) (hfit : N ≤ 122)
    (he : ∀ k : Nat, i ≤ k → k < N → 0 ≤ (endB l (k : Int) : Int) + d ∧ (endB l (k : Int) : Int) + d < 65536) (h6 : 0 ≤ (wordB l 6 : Int) + d ∧ (wordB l 6 : Int) + d < 65536) :
    Calls Tryd.prog 93 #[.slice (some ⟨g, 0, none⟩) 256 256, .int .i64 (i : Int), .int .i64 d] w fun e w' => e = .returned (.tuple #[]) ∧ BlkB w' g 5 (setW (shiftB l i d (N - i)) 6 ((wordB l 6 : Int) + d).toNat) ∧ Kept (· = g) w w' := by
  have HI : Hid (BlkB w g 5 (shiftB l i d 0) ∧ Kept (· = g) w w) := ⟨hb, Kept.refl _ _⟩
  have HL := Lib.hid hl
  have HN := Lib.hid hN
  have HE := Lib.hid he
  have H6 := Lib.hid h6
  clear hb hl hN he h6
  go_enter Tryd.func93, Tryd.ntmps93
  go_wp2_with fail
  go_loopw [1] (fun v wr => ∃ k : Nat, i + k ≤ N ∧ v = .int .i64 ((i + k : Nat) : Int) ∧ Hid (BlkB wr g 5 (shiftB l i d k) ∧ Kept (· = g) w wr)) (fun v _ => N - (intOf v).toNat)
  case atStart => exact ⟨0, by omega, rfl, HI⟩
  case round =>
    obtain ⟨k, hk, rfl, HR⟩ := hrel
    have x5 := (HR.out.1.cell 5 (by rw [shiftB_len, HL.out]; decide)).1
    rw [shiftB_at _ _ _ _ _ (by decide), HN.out] at x5
    obtain ⟨j, hj⟩ : ∃ j, i + k = j := ⟨_, rfl⟩
    rw [hj] at hk ⊢
    have c1 : IntKind.i64.wrap (N : Int) = (N : Int) := IntWalk.i64_in _ (by omega)
    by_cases hlt : j < N
    · have hw : endB (shiftB l i d k) (j : Int) = endB l (j : Int) := by
        rw [endB_nat, endB_nat, shiftB_word _ _ _ _ _ (by omega)]
      have h1 := end_calls (some ⟨g, 0, none⟩) 256 256 (shiftB l i d k) (j : Int) wr (by rw [shiftB_len, HL.out]) HR.out.1.bytes (by omega) (by omega) (by decide)
      rw [hw] at h1
      have H1 := Lib.hid h1
      obtain ⟨E, hE⟩ : ∃ E : Nat, ((endB l (j : Int) : Int) + d) = (E : Int) := ⟨((endB l (j : Int) : Int) + d).toNat, by have := (HE.out j (by omega) hlt).1; omega⟩
      have hE2 : E < 65536 := by have := (HE.out j (by omega) hlt).2; omega
      have c2 : IntKind.i64.wrap ((endB l (j : Int) : Int) + d) = (E : Int) := by rw [hE]; exact IntWalk.i64_in _ (by omega)
      have HS := Lib.hid (fun m => setWord_calls g (shiftB l i d k) (8 + 2 * j) E (wr.drewN m) (HR.out.1.below (kept_drewN wr m)) (by rw [shiftB_len, HL.out]) (by omega) hE2)
      clear h1 hw
      go_wp2_with (first | (go_at_call 90; with_reducible refine H1.out.mono ?_; rintro e w2 ⟨rfl, m2, rfl⟩) | (go_at_call 91; refine (HS.out _).mono ?_; rintro e w3 ⟨rfl, hA, hk3⟩))
      refine ⟨⟨k + 1, by omega, by rw [show ((i + (k + 1) : Nat) : Int) = (j : Int) + 1 from by omega], ?_⟩, by simp [intOf]; omega⟩
      have e : shiftB l i d (k + 1) = setW (shiftB l i d k) (8 + 2 * j) E := by
        show setW _ _ _ = _
        rw [hj, hE]; rfl
      exact ⟨by rw [e]; exact hA, (HR.out.2.trans (Kept.of_below (kept_drewN wr m2))).trans hk3⟩
    · have hjN : j = N := by omega
      subst hjN
      have hkk : k = j - i := by omega
      subst hkk
      have hw : wordB (shiftB l i d (j - i)) 6 = wordB l 6 := shiftB_word _ _ _ _ _ (by omega)
      have h1 := word_calls (some ⟨g, 0, none⟩) 256 256 (shiftB l i d (j - i)) 6 wr (by rw [shiftB_len, HL.out]) HR.out.1.bytes (by decide) (by decide)
      rw [hw, show ((6 : Nat) : Int) = 6 from rfl] at h1
      have H1 := Lib.hid h1
      obtain ⟨E, hE⟩ : ∃ E : Nat, ((wordB l 6 : Int) + d) = (E : Int) := ⟨((wordB l 6 : Int) + d).toNat, by have := H6.out.1; omega⟩
      have hE2 : E < 65536 := by have := H6.out.2; omega
      have c2 : IntKind.i64.wrap ((wordB l 6 : Int) + d) = (E : Int) := by rw [hE]; exact IntWalk.i64_in _ (by omega)
      have hs := fun m => setWord_calls g (shiftB l i d (j - i)) 6 E (wr.drewN m) (HR.out.1.below (kept_drewN wr m)) (by rw [shiftB_len, HL.out]) (by omega) hE2
      rw [show ((6 : Nat) : Int) = 6 from rfl] at hs
      have HS := Lib.hid hs
      have HE3 := Lib.hid hE
      clear h1 hw hE hs
      go_wp2_with (first | (go_at_call 92; with_reducible refine H1.out.mono ?_; rintro e w2 ⟨rfl, m2, rfl⟩) | (go_at_call 91; refine (HS.out _).mono ?_; rintro e w3 ⟨rfl, hA, hk3⟩))
      go_end0
      refine ⟨rfl, ?_, (HR.out.2.trans (Kept.of_below (kept_drewN wr m2))).trans hk3⟩
      rw [HE3.out]; exact hA
end Go.Proofs.YtibmlgkakeakcaaDoor
/- Pages, plain: a page as its number, its kind and its cells. -/
set_option linter.unusedSimpArgs false
set_option linter.unusedVariables false
namespace Go.Proofs.YtibmlgkakeakcaaDoor
open Go.RowKit Go.Proofs.YtibmlgkakeakcaaDoor.Crc
def sizC (cs : List (List UInt8)) : Nat := (cs.map List.length).sum
theorem sizC_nil : sizC [] = 0 := rfl
theorem sizC_cons (c : List UInt8) (cs : List (List UInt8)) : sizC (c :: cs) = c.length + sizC cs := rfl
theorem sizC_append (a b : List (List UInt8)) : sizC (a ++ b) = sizC a + sizC b := by unfold sizC; rw [List.map_append, List.sum_append]
theorem sizC_flatten (cs : List (List UInt8)) : cs.flatten.length = sizC cs := by unfold sizC; rw [List.length_flatten]
def w2 (n : Nat) : List UInt8 := [UInt8.ofNat (n / 256), UInt8.ofNat n]
theorem w2_length (n : Nat) : (w2 n).length = 2 := rfl
def endsB (t : Nat) : List (List UInt8) → List UInt8
  | [] => []
  | c :: cs => w2 (t + c.length) ++ endsB (t + c.length) cs
theorem endsB_length (t : Nat) (cs : List (List UInt8)) : (endsB t cs).length = 2 * cs.length := by
  induction cs generalizing t with
  | nil => rfl
  | cons c cs ih => rw [endsB, List.length_append, ih, w2_length, List.length_cons]; omega
theorem endsB_append (t : Nat) (a b : List (List UInt8)) : endsB t (a ++ b) = endsB t a ++ endsB (t + sizC a) b := by
  induction a generalizing t with
  | nil => rfl
  | cons c a ih => rw [List.cons_append, endsB, endsB, ih, sizC_cons, List.append_assoc, Nat.add_assoc]
def headPg (no : Nat) (k : UInt8) (n s : Nat) : List UInt8 := fixB no 4 ++ (k :: UInt8.ofNat n :: w2 s)
theorem headPg_length (no : Nat) (k : UInt8) (n s : Nat) : (headPg no k n s).length = 8 := by
  unfold headPg; rw [List.length_append, fixB_length]; rfl
/-- The first 252 bytes of a page, and all of one without a sum. -/
def bodyB (no : Nat) (k : UInt8) (cs : List (List UInt8)) : List UInt8 :=
  headPg no k cs.length (sizC cs) ++ (endsB 0 cs ++ (cs.flatten ++ List.replicate (244 - (2 * cs.length + sizC cs)) 0))
def pageB (no : Nat) (k : UInt8) (cs : List (List UInt8)) : List UInt8 := bodyB no k cs ++ [0, 0, 0, 0]
def fitC (cs : List (List UInt8)) : Prop := 2 * cs.length + sizC cs ≤ 244
theorem bodyB_length (no : Nat) (k : UInt8) (cs : List (List UInt8)) (h : fitC cs) : (bodyB no k cs).length = 252 := by
  unfold fitC at h
  unfold bodyB
  simp only [List.length_append, headPg_length, endsB_length, sizC_flatten, List.length_replicate]
  omega
theorem pageB_length (no : Nat) (k : UInt8) (cs : List (List UInt8)) (h : fitC cs) : (pageB no k cs).length = 256 := by
  unfold pageB; rw [List.length_append, bodyB_length _ _ _ h]; rfl
/-- Bytes that are a page, whatever its last four. -/
def PgL (l : List UInt8) (no : Nat) (k : UInt8) (cs : List (List UInt8)) : Prop := fitC cs ∧ ∃ t : List UInt8, t.length = 4 ∧ l = bodyB no k cs ++ t
theorem PgL.len {l : List UInt8} {no : Nat} {k : UInt8} {cs : List (List UInt8)} (h : PgL l no k cs) : l.length = 256 := by
  obtain ⟨hf, t, ht, rfl⟩ := h
  rw [List.length_append, bodyB_length _ _ _ hf, ht]
theorem PgL.take {l : List UInt8} {no : Nat} {k : UInt8} {cs : List (List UInt8)} (h : PgL l no k cs) : l.take 252 = bodyB no k cs := by
  obtain ⟨hf, t, ht, rfl⟩ := h
  rw [List.take_left' (bodyB_length _ _ _ hf)]
theorem PgL.own {l : List UInt8} {no : Nat} {k : UInt8} {cs : List (List UInt8)} (h : PgL l no k cs) : ownP l = pageB no k cs := by
  unfold ownP pageB; rw [h.take]
theorem pgl_page (no : Nat) (k : UInt8) (cs : List (List UInt8)) (h : fitC cs) : PgL (pageB no k cs) no k cs := ⟨h, _, rfl, rfl⟩
theorem u8_ofNat (n : Nat) : (UInt8.ofNat n).toNat = n % 256 := by simp
theorem at8_append_left (a b : List UInt8) (i : Nat) (h : i < a.length) : at8 (a ++ b) i = at8 a i := by
  unfold at8; simp [List.getElem?_append_left h]
theorem at8_append_right (a b : List UInt8) (i : Nat) : at8 (a ++ b) (a.length + i) = at8 b i := by
  unfold at8; simp [List.getElem?_append_right]
theorem wordB_mid (a b : List UInt8) (n : Nat) (h : n < 65536) (i : Nat) (hi : i = a.length) : wordB (a ++ (w2 n ++ b)) i = n := by
  subst hi
  unfold wordB
  rw [show a.length = a.length + 0 from rfl, Nat.add_assoc, at8_append_right, at8_append_right]
  show (UInt8.ofNat (n / 256)).toNat * 256 + (UInt8.ofNat n).toNat = n
  rw [u8_ofNat, u8_ofNat]; omega
/-- What a page has, told by its bytes. -/
theorem PgL.count {l : List UInt8} {no : Nat} {k : UInt8} {cs : List (List UInt8)} (h : PgL l no k cs) : cntB l = cs.length := by
  obtain ⟨hf, t, ht, rfl⟩ := h
  unfold cntB bodyB headPg
  rw [List.append_assoc, List.append_assoc]
  have := at8_append_right (fixB no 4) ((k :: UInt8.ofNat cs.length :: w2 (sizC cs)) ++ ((endsB 0 cs ++ (cs.flatten ++ List.replicate (244 - (2 * cs.length + sizC cs)) 0)) ++ t)) 1
  rw [fixB_length] at this
  rw [this]
  show (UInt8.ofNat cs.length).toNat = _
  unfold fitC at hf
  rw [u8_ofNat]; omega
theorem PgL.kind {l : List UInt8} {no : Nat} {k : UInt8} {cs : List (List UInt8)} (h : PgL l no k cs) : at8 l 4 = k := by
  obtain ⟨hf, t, ht, rfl⟩ := h
  unfold bodyB headPg
  rw [List.append_assoc, List.append_assoc]
  have := at8_append_right (fixB no 4) ((k :: UInt8.ofNat cs.length :: w2 (sizC cs)) ++ ((endsB 0 cs ++ (cs.flatten ++ List.replicate (244 - (2 * cs.length + sizC cs)) 0)) ++ t)) 0
  rw [fixB_length] at this
  rw [this]; rfl
theorem PgL.size {l : List UInt8} {no : Nat} {k : UInt8} {cs : List (List UInt8)} (h : PgL l no k cs) : sizB l = sizC cs := by
  obtain ⟨hf, t, ht, rfl⟩ := h
  unfold sizB bodyB headPg
  rw [show (fixB no 4 ++ (k :: UInt8.ofNat cs.length :: w2 (sizC cs)) ++ (endsB 0 cs ++ (cs.flatten ++ List.replicate (244 - (2 * cs.length + sizC cs)) 0)) ++ t) = (fixB no 4 ++ [k, UInt8.ofNat cs.length]) ++ (w2 (sizC cs) ++ ((endsB 0 cs ++ (cs.flatten ++ List.replicate (244 - (2 * cs.length + sizC cs)) 0)) ++ t)) by simp]
  exact wordB_mid _ _ _ (by unfold fitC at hf; omega) _ (by rw [List.length_append, fixB_length]; rfl)
/-- Where a cell ends, in a list whose ends begin at 8. -/
theorem end_mid (H : List UInt8) (hH : H.length = 8) (t0 : Nat) (xs : List (List UInt8)) (c : List UInt8) (ys : List (List UInt8)) (R : List UInt8) (hs : t0 + sizC xs + c.length < 65536) :
    endB (H ++ (endsB t0 (xs ++ c :: ys) ++ R)) (xs.length : Int) = t0 + sizC xs + c.length := by
  rw [endB_nat, endsB_append, endsB]
  rw [show H ++ (endsB t0 xs ++ (w2 (t0 + sizC xs + c.length) ++ endsB (t0 + sizC xs + c.length) ys) ++ R) = (H ++ endsB t0 xs) ++ (w2 (t0 + sizC xs + c.length) ++ (endsB (t0 + sizC xs + c.length) ys ++ R)) by simp]
  exact wordB_mid _ _ _ hs _ (by rw [List.length_append, hH, endsB_length])
theorem PgL.endAt {l : List UInt8} {no : Nat} {k : UInt8} {cs : List (List UInt8)} (h : PgL l no k cs) (i : Nat) (hi : i ≤ cs.length) : endB l ((i : Int) - 1) = sizC (cs.take i) := by
  obtain ⟨hf, t, ht, rfl⟩ := h
  cases i with
  | zero => rfl
  | succ i =>
    have e : ((i + 1 : Nat) : Int) - 1 = (i : Int) := by omega
    rw [e]
    have hc : cs = cs.take i ++ cs[i] :: cs.drop (i + 1) := by rw [← List.drop_eq_getElem_cons (by omega), List.take_append_drop]
    have hlt : (cs.take i).length = i := by rw [List.length_take]; omega
    have hs : sizC (cs.take i) + cs[i].length ≤ sizC cs := by
      have := congrArg sizC hc
      rw [sizC_append, sizC_cons] at this
      omega
    unfold fitC at hf
    have := end_mid (headPg no k cs.length (sizC cs)) (headPg_length _ _ _ _) 0 (cs.take i) cs[i] (cs.drop (i + 1)) (cs.flatten ++ List.replicate (244 - (2 * cs.length + sizC cs)) 0 ++ t) (by omega)
    rw [← hc, hlt] at this
    have e2 : cs.take (i + 1) = cs.take i ++ [cs[i]] := by rw [List.take_succ_eq_append_getElem (by omega)]
    rw [e2, sizC_append]
    unfold bodyB
    simp only [List.append_assoc] at this ⊢
    rw [this, sizC_cons, sizC_nil]; omega
theorem sizC_take_le (cs : List (List UInt8)) (i j : Nat) (h : i ≤ j) : sizC (cs.take i) ≤ sizC (cs.take j) := by
  have : cs.take j = cs.take i ++ (cs.take j).drop i := by
    have := List.take_append_drop i (cs.take j)
    rw [List.take_take, Nat.min_eq_left h] at this
    exact this.symm
  rw [this, sizC_append]; omega
theorem PgL.sound {l : List UInt8} {no : Nat} {k : UInt8} {cs : List (List UInt8)} (h : PgL l no k cs) (hno : no ≤ 2147483647) (hk : k ≠ 0) : soundB l = true := by
  have hl := h.len
  have hc := h.count
  have hz := h.size
  have hki := h.kind
  have he := h.endAt
  have ht := h.take
  have h0 : (at8 l 0).toNat ≤ 127 := by
    obtain ⟨hf, t, _, rfl⟩ := h
    show (UInt8.ofNat (no / 256 ^ 3)).toNat ≤ 127
    rw [u8_ofNat]; omega
  have hf : 2 * cs.length + sizC cs ≤ 244 := h.1
  have e1 : endB l ((cntB l : Int) - 1) = sizB l := by rw [hc, hz, he _ (Nat.le_refl _), List.take_length]
  have e2 : riseB l (cntB l) = true := by
    unfold riseB
    rw [List.all_eq_true]
    intro i hi
    rw [List.mem_range, hc] at hi
    rw [decide_eq_true_eq]
    have h1 := he i (by omega)
    have h2 := he (i + 1) (by omega)
    rw [show ((i + 1 : Nat) : Int) - 1 = (i : Int) by omega] at h2
    rw [h1, h2]
    exact sizC_take_le _ _ _ (by omega)
  have e3 : zeroB ((l.take 252).drop (8 + 2 * cntB l + sizB l)) = true := by
    rw [ht, hc, hz]
    unfold bodyB
    rw [← List.append_assoc, ← List.append_assoc, List.drop_left' (by simp only [List.length_append, headPg_length, endsB_length, sizC_flatten])]
    exact zeroB_replicate _
  unfold soundB
  rw [e1, e2, e3]
  have hk' : decide (k ≠ 0) = true := by simpa using hk
  simp only [hl, h0, hki, hk', hc, hz, hf]
  rfl
/-- The bytes of a cell. -/
theorem PgL.cellAt {l : List UInt8} {no : Nat} {k : UInt8} {cs : List (List UInt8)} (h : PgL l no k cs) (i : Nat) (hi : i < cs.length) :
    (l.drop (8 + 2 * cs.length + sizC (cs.take i))).take (sizC (cs.take (i + 1)) - sizC (cs.take i)) = cs[i] := by
  obtain ⟨hf, t, ht, rfl⟩ := h
  have hc : cs = cs.take i ++ cs[i] :: cs.drop (i + 1) := by rw [← List.drop_eq_getElem_cons (by omega), List.take_append_drop]
  have e2 : cs.take (i + 1) = cs.take i ++ [cs[i]] := by rw [List.take_succ_eq_append_getElem (by omega)]
  have e3 : sizC (cs.take (i + 1)) - sizC (cs.take i) = cs[i].length := by rw [e2, sizC_append, sizC_cons, sizC_nil]; omega
  rw [e3]
  have e4 : cs.flatten = (cs.take i).flatten ++ (cs[i] ++ (cs.drop (i + 1)).flatten) := by
    conv => lhs; rw [hc]
    rw [List.flatten_append, List.flatten_cons]
  unfold bodyB
  rw [e4]
  rw [show headPg no k cs.length (sizC cs) ++ (endsB 0 cs ++ ((cs.take i).flatten ++ (cs[i] ++ (cs.drop (i + 1)).flatten) ++ List.replicate (244 - (2 * cs.length + sizC cs)) 0)) ++ t = (headPg no k cs.length (sizC cs) ++ endsB 0 cs ++ (cs.take i).flatten) ++ (cs[i] ++ ((cs.drop (i + 1)).flatten ++ List.replicate (244 - (2 * cs.length + sizC cs)) 0 ++ t)) by simp]
  rw [List.drop_left' (by simp only [List.length_append, headPg_length, endsB_length, sizC_flatten]), List.take_left' rfl]
end Go.Proofs.YtibmlgkakeakcaaDoor
/- The walk of page's Kind. -/
set_option linter.unusedSimpArgs false
set_option linter.unusedVariables false
namespace Go.Proofs.YtibmlgkakeakcaaDoor
open Go.RowKit Go.Proofs.YtibmlgkakeakcaaDoor.Crc
/-- The kind that Kind tells. -/
def kindP (l : List UInt8) : UInt8 := if soundB l then at8 l 4 else 0
theorem PgL.kindP {l : List UInt8} {no : Nat} {k : UInt8} {cs : List (List UInt8)} (h : PgL l no k cs) (hno : no ≤ 2147483647) (hk : k ≠ 0) : kindP l = k := by
  unfold Proofs.YtibmlgkakeakcaaDoor.kindP; rw [if_pos (h.sound hno hk), h.kind]
set_option maxHeartbeats 400000 in
theorem Kind_calls (A : Option Addr) (n c : Nat) (l : List UInt8) (w : World) (hn : n = l.length) (hb : Bytes w A l) (hc : n ≤ c) (hm : c ≤ 9223372036854775807) (hs : n ≤ 140737488355328) :
    Calls Tryd.prog 42 #[.slice A n c] w fun e w' => e = .returned (.int .u8 ((kindP l).toNat : Int)) ∧ ∃ m, w' = w.drewN m := by
  have HS := Lib.hid (sound_calls A n c l w hn hb hc hm hs)
  by_cases hS : soundB l = true
  · rw [hS] at HS
    have h256 := soundB_len l hS
    obtain ⟨b, o, rfl⟩ := hb.spot (by omega)
    have x4 : ∀ m, (w.drewN m).cell? ⟨b, o + 4, none⟩ = some (.int .u8 ((at8 l 4).toNat : Int)) := fun m => by
      obtain ⟨ad, h, hx⟩ := (hb.below (kept_drewN w m)) 4 (by omega)
      cases h
      rw [Addr.add_lit] at hx
      exact hx
    have e : kindP l = at8 l 4 := by unfold kindP; rw [if_pos hS]
    rw [e]
    have h4 : (4 : Int) < (n : Int) := by omega
    have HX := Lib.hid x4
    clear hb hn e hS h256 x4
    go_enter Tryd.func42, Tryd.ntmps42
    go_wp2_with (go_at_call 73; refine HS.out.mono ?_; rintro e w2 ⟨rfl, m2, rfl⟩; refine park ?_; intro q hq)
    have x4 := HX.out m2
    refine hq.out ?_
    clear hq
    go_wp2_with fail
    go_ret
    exact ⟨rfl, m2, rfl⟩
  · have hS' : soundB l = false := by simpa using hS
    rw [hS'] at HS
    have e : kindP l = 0 := by unfold kindP; rw [if_neg hS]
    rw [e]
    clear hb hn e hS hS'
    go_enter Tryd.func42, Tryd.ntmps42
    go_wp2_with (go_at_call 73; refine HS.out.mono ?_; rintro e w2 ⟨rfl, m2, rfl⟩)
    go_ret
    exact ⟨rfl, _, rfl⟩
end Go.Proofs.YtibmlgkakeakcaaDoor
/- Pages, plain: a cell put in. -/
set_option linter.unusedSimpArgs false
set_option linter.unusedVariables false
namespace Go.Proofs.YtibmlgkakeakcaaDoor
open Go.RowKit Go.Proofs.YtibmlgkakeakcaaDoor.Crc
theorem splice_step (p R s : List UInt8) (n q : Nat) (hq : q = p.length) : splice (p ++ R.drop n) q s = (p ++ s) ++ R.drop (n + s.length) := by
  subst hq
  unfold splice
  rw [List.take_left' rfl, ← List.drop_drop, List.drop_left' rfl, List.drop_drop, List.append_assoc]
theorem setW_mid (P Y : List UInt8) (x y : UInt8) (i n : Nat) (hi : i = P.length) : setW (P ++ (x :: y :: Y)) i n = P ++ (w2 n ++ Y) := by
  subst hi
  unfold setW
  rw [List.set_append_right _ _ (by omega), List.set_append_right _ _ (by omega)]
  rw [show P.length - P.length = 0 by omega, show P.length + 1 - P.length = 1 by omega]
  rfl
theorem setW_two (P Y u : List UInt8) (i n : Nat) (hi : i = P.length) (hu : u.length = 2) : setW (P ++ (u ++ Y)) i n = P ++ (w2 n ++ Y) := by
  match u, hu with
  | [x, y], _ => exact setW_mid P Y x y i n hi
theorem shift_mid (P R : List UInt8) (t t' : Nat) (d : Int) (htt : (t' : Int) = t + d) (i : Nat) (hP : P.length = 8 + 2 * i) (ys : List (List UInt8)) (hs : t + sizC ys < 65536) (hs' : t' + sizC ys < 65536) :
    shiftB (P ++ (endsB t ys ++ R)) i d ys.length = P ++ (endsB t' ys ++ R) := by
  have key : ∀ m (xs zs : List (List UInt8)), xs.length = m → xs ++ zs = ys → shiftB (P ++ (endsB t ys ++ R)) i d m = P ++ (endsB t' xs ++ (endsB (t + sizC xs) zs ++ R)) := by
    intro m
    induction m with
    | zero =>
      intro xs zs hx he
      have := List.eq_nil_of_length_eq_zero hx
      subst this
      subst he
      rfl
    | succ m ih =>
      intro xs zs hx he
      have hne : xs ≠ [] := by intro h; rw [h] at hx; simp at hx
      obtain ⟨es, c, rfl⟩ : ∃ es c, xs = es ++ [c] := ⟨xs.dropLast, xs.getLast hne, (List.dropLast_concat_getLast hne).symm⟩
      have hm : es.length = m := by simpa using hx
      have he2 : es ++ (c :: zs) = ys := by rw [← he, List.append_assoc]; rfl
      have hsz : sizC es + (c.length + sizC zs) = sizC ys := by rw [← he2, sizC_append, sizC_cons]
      have hI := ih es (c :: zs) hm he2
      have hend : endB (P ++ (endsB t ys ++ R)) ((i + m : Nat) : Int) = t + sizC es + c.length := by
        rw [endB_nat, ← he2, endsB_append, endsB]
        rw [show P ++ (endsB t es ++ (w2 (t + sizC es + c.length) ++ endsB (t + sizC es + c.length) zs) ++ R) = (P ++ endsB t es) ++ (w2 (t + sizC es + c.length) ++ (endsB (t + sizC es + c.length) zs ++ R)) by simp]
        exact wordB_mid _ _ _ (by omega) _ (by rw [List.length_append, hP, endsB_length, hm]; omega)
      show setW _ _ _ = _
      rw [hI, hend, endsB]
      have e3 : (((t + sizC es + c.length : Nat) : Int) + d).toNat = t' + sizC es + c.length := by omega
      rw [e3]
      rw [show P ++ (endsB t' es ++ (w2 (t + sizC es + c.length) ++ endsB (t + sizC es + c.length) zs ++ R)) = (P ++ endsB t' es) ++ (w2 (t + sizC es + c.length) ++ (endsB (t + sizC es + c.length) zs ++ R)) by simp]
      rw [setW_two _ _ _ _ _ (by rw [List.length_append, hP, endsB_length, hm]; omega) rfl]
      rw [endsB_append, sizC_append, sizC_cons, sizC_nil, Nat.add_zero, endsB, endsB]
      simp [Nat.add_assoc]
  have := key ys.length ys [] rfl (by simp)
  rw [this, endsB, List.nil_append]
/-- The bytes of Insert ahead of the shift, and after it. -/
def insS (l : List UInt8) (i : Nat) (b : List UInt8) : List UInt8 :=
  splice (splice (splice (setW (splice ((ownP l).set 5 (at8 l 5 + 1)) (8 + 2 * i + 2) ((l.drop (8 + 2 * i)).take (8 + 2 * cntB l - (8 + 2 * i)))) (8 + 2 * i) (endB l ((i : Int) - 1)))
    (8 + 2 * cntB l + 2) ((l.drop (8 + 2 * cntB l)).take (endB l ((i : Int) - 1)))) (8 + 2 * cntB l + 2 + endB l ((i : Int) - 1)) b)
    (8 + 2 * cntB l + 2 + endB l ((i : Int) - 1) + b.length) ((l.drop (8 + 2 * cntB l + endB l ((i : Int) - 1))).take (sizB l - endB l ((i : Int) - 1)))
def insB (l : List UInt8) (i : Nat) (b : List UInt8) : List UInt8 :=
  setW (shiftB (insS l i b) i b.length (cntB l + 1 - i)) 6 (sizB l + b.length)
theorem take_drop_mid (a b c : List UInt8) (n m : Nat) (hn : n = a.length) (hm : m = b.length) : ((a ++ (b ++ c)).drop n).take m = b := by
  subst hn; subst hm; rw [List.drop_left' rfl, List.take_left' rfl]
theorem set_head (no : Nat) (k : UInt8) (n s : Nat) (x : UInt8) (R : List UInt8) : (headPg no k n s ++ R).set 5 x = (fixB no 4 ++ (k :: x :: w2 s)) ++ R := by
  unfold headPg
  rw [List.append_assoc, List.set_append_right _ _ (by rw [fixB_length]; decide), fixB_length, List.append_assoc]
  rfl
theorem u8_ofNat_succ (n : Nat) : UInt8.ofNat n + 1 = UInt8.ofNat (n + 1) := by
  apply UInt8.toNat_inj.1; simp
/-- What lies behind the ends, in Insert. -/
def insR (xs ys : List (List UInt8)) (b : List UInt8) : List UInt8 := (xs.flatten ++ (b ++ (ys.flatten ++ List.replicate (248 - (2 * (xs.length + ys.length + 1) + (sizC xs + (b.length + sizC ys)))) 0)))
def insH (no : Nat) (k : UInt8) (xs ys : List (List UInt8)) : List UInt8 := fixB no 4 ++ (k :: UInt8.ofNat (xs.length + ys.length + 1) :: w2 (sizC xs + sizC ys))
theorem insH_length (no : Nat) (k : UInt8) (xs ys : List (List UInt8)) : (insH no k xs ys).length = 8 := by unfold insH; rw [List.length_append, fixB_length]; rfl
theorem ins_mid {l : List UInt8} {no : Nat} {k : UInt8} {xs ys : List (List UInt8)} (h : PgL l no k (xs ++ ys)) (b : List UInt8) (hfit : fitC (xs ++ b :: ys)) :
    insS l xs.length b = (insH no k xs ys ++ endsB 0 xs) ++ (endsB (sizC xs) ([] :: ys) ++ insR xs ys b) := by
  have hN : cntB l = xs.length + ys.length := by rw [h.count, List.length_append]
  have hwas : endB l ((xs.length : Int) - 1) = sizC xs := by rw [h.endAt _ (by simp), List.take_left' rfl]
  have hsz : sizB l = sizC xs + sizC ys := by rw [h.size, sizC_append]
  have hown := h.own
  have h5 : at8 l 5 = UInt8.ofNat (xs.length + ys.length) := by
    apply UInt8.toNat_inj.1
    have : (at8 l 5).toNat = xs.length + ys.length := hN
    rw [this, u8_ofNat]
    have := h.1
    unfold fitC at this
    rw [List.length_append] at this
    omega
  obtain ⟨hf, t, ht, hl⟩ := h
  unfold fitC at hf hfit
  simp only [List.length_append, sizC_append, List.length_cons, sizC_cons] at hf hfit
  obtain ⟨Z, hZ⟩ : ∃ Z, List.replicate (244 - (2 * (xs.length + ys.length) + (sizC xs + sizC ys))) (0 : UInt8) ++ [0, 0, 0, 0] = Z := ⟨_, rfl⟩
  have hZr : Z = List.replicate (248 - (2 * (xs.length + ys.length) + (sizC xs + sizC ys))) 0 := by
    rw [← hZ, show [(0 : UInt8), 0, 0, 0] = List.replicate 4 0 from rfl, List.replicate_append_replicate]
    congr 1; omega
  have hl2 : l = (headPg no k (xs.length + ys.length) (sizC xs + sizC ys) ++ endsB 0 xs) ++ (endsB (sizC xs) ys ++ (xs.flatten ++ (ys.flatten ++ (List.replicate (244 - (2 * (xs.length + ys.length) + (sizC xs + sizC ys))) 0 ++ t)))) := by
    rw [hl]; unfold bodyB; rw [endsB_append, Nat.zero_add, List.length_append, sizC_append, List.flatten_append]; simp only [List.append_assoc]
  unfold insS
  simp only [hN, hwas, hsz, hown, h5, u8_ofNat_succ]
  -- the pieces that are copied
  have c1 : (l.drop (8 + 2 * xs.length)).take (8 + 2 * (xs.length + ys.length) - (8 + 2 * xs.length)) = endsB (sizC xs) ys := by
    rw [hl2]; exact take_drop_mid _ _ _ _ _ (by rw [List.length_append, headPg_length, endsB_length]) (by rw [endsB_length]; omega)
  have c2 : (l.drop (8 + 2 * (xs.length + ys.length))).take (sizC xs) = xs.flatten := by
    rw [hl2, ← List.append_assoc]; exact take_drop_mid _ _ _ _ _ (by simp only [List.length_append, headPg_length, endsB_length]; omega) (by rw [sizC_flatten])
  have c3 : (l.drop (8 + 2 * (xs.length + ys.length) + sizC xs)).take (sizC xs + sizC ys - sizC xs) = ys.flatten := by
    rw [hl2, ← List.append_assoc, ← List.append_assoc]; exact take_drop_mid _ _ _ _ _ (by simp only [List.length_append, headPg_length, endsB_length, sizC_flatten]; omega) (by rw [sizC_flatten]; omega)
  rw [c1, c2, c3]
  clear c1 c2 c3 hl2 hl
  -- the head, and what lies behind it
  have e1 : pageB no k (xs ++ ys) = headPg no k (xs.length + ys.length) (sizC xs + sizC ys) ++ (endsB 0 xs ++ (endsB (sizC xs) ys ++ (xs.flatten ++ (ys.flatten ++ Z)))) := by
    rw [← hZ]; unfold pageB bodyB; rw [endsB_append, Nat.zero_add, List.length_append, sizC_append, List.flatten_append]; simp only [List.append_assoc]
  rw [e1, set_head]
  obtain ⟨R, hR⟩ : ∃ R, endsB (sizC xs) ys ++ (xs.flatten ++ (ys.flatten ++ Z)) = R := ⟨_, rfl⟩
  obtain ⟨H, hH⟩ : ∃ H, fixB no 4 ++ (k :: UInt8.ofNat (xs.length + ys.length + 1) :: w2 (sizC xs + sizC ys)) = H := ⟨_, rfl⟩
  have hHl : H.length = 8 := by rw [← hH, List.length_append, fixB_length]; rfl
  have hRl : R.length = 248 - 2 * xs.length := by
    rw [← hR, hZr]; simp only [List.length_append, endsB_length, sizC_flatten, List.length_replicate]; omega
  rw [hR, hH]
  have e2 : H ++ (endsB 0 xs ++ R) = ((H ++ endsB 0 xs) ++ R.take 2) ++ R.drop 2 := by
    rw [List.append_assoc _ (R.take 2), List.take_append_drop, List.append_assoc]
  have hu : (R.take 2).length = 2 := by rw [List.length_take]; omega
  rw [e2, splice_step _ _ _ _ _ (by simp only [List.length_append, hHl, endsB_length, hu])]
  rw [List.append_assoc (H ++ endsB 0 xs), List.append_assoc (H ++ endsB 0 xs), List.append_assoc (R.take 2), setW_two _ _ _ _ _ (by simp only [List.length_append, hHl, endsB_length]) hu]
  rw [show (H ++ endsB 0 xs) ++ (w2 (sizC xs) ++ (endsB (sizC xs) ys ++ R.drop (2 + (endsB (sizC xs) ys).length))) = (H ++ endsB 0 xs ++ w2 (sizC xs) ++ endsB (sizC xs) ys) ++ R.drop (2 + (endsB (sizC xs) ys).length) by simp]
  rw [splice_step _ _ _ _ _ (by simp only [List.length_append, hHl, endsB_length, w2_length]; omega)]
  rw [splice_step _ _ _ _ _ (by simp only [List.length_append, hHl, endsB_length, w2_length, sizC_flatten]; omega)]
  rw [splice_step _ _ _ _ _ (by simp only [List.length_append, hHl, endsB_length, w2_length, sizC_flatten]; omega)]
  have hrest : R.drop (2 + (endsB (sizC xs) ys).length + xs.flatten.length + b.length + ys.flatten.length) = List.replicate (248 - (2 * (xs.length + ys.length + 1) + (sizC xs + (b.length + sizC ys)))) 0 := by
    rw [← hR, ← List.append_assoc, ← List.append_assoc, hZr]
    rw [List.drop_append, List.drop_of_length_le (by simp only [List.length_append]; omega), List.nil_append, List.drop_replicate]
    congr 1
    simp only [List.length_append, endsB_length, sizC_flatten]; omega
  rw [hrest]
  unfold insR insH
  rw [endsB, hH]; simp only [List.append_assoc, List.length_nil, Nat.add_zero]
theorem ins_page {l : List UInt8} {no : Nat} {k : UInt8} {xs ys : List (List UInt8)} (h : PgL l no k (xs ++ ys)) (b : List UInt8) (hfit : fitC (xs ++ b :: ys)) :
    insB l xs.length b = pageB no k (xs ++ b :: ys) := by
  have hN : cntB l = xs.length + ys.length := by rw [h.count, List.length_append]
  have hwas : endB l ((xs.length : Int) - 1) = sizC xs := by rw [h.endAt _ (by simp), List.take_left' rfl]
  have hsz : sizB l = sizC xs + sizC ys := by rw [h.size, sizC_append]
  have hmid := ins_mid h b hfit
  obtain ⟨hf, _⟩ := h
  unfold fitC at hf hfit
  simp only [List.length_append, sizC_append, List.length_cons, sizC_cons] at hf hfit
  unfold insB
  rw [hmid, hN, hsz, show xs.length + ys.length + 1 - xs.length = ([] :: ys).length by rw [List.length_cons]; omega]
  rw [shift_mid _ _ _ (sizC xs + b.length) _ (by omega) _ (by rw [List.length_append, insH_length, endsB_length]) _ (by rw [sizC_cons, List.length_nil]; omega) (by rw [sizC_cons, List.length_nil]; omega)]
  unfold insH insR
  rw [show fixB no 4 ++ (k :: UInt8.ofNat (xs.length + ys.length + 1) :: w2 (sizC xs + sizC ys)) ++ endsB 0 xs ++ (endsB (sizC xs + b.length) ([] :: ys) ++ (xs.flatten ++ (b ++ (ys.flatten ++ List.replicate (248 - (2 * (xs.length + ys.length + 1) + (sizC xs + (b.length + sizC ys)))) 0)))) = (fixB no 4 ++ [k, UInt8.ofNat (xs.length + ys.length + 1)]) ++ (w2 (sizC xs + sizC ys) ++ (endsB 0 xs ++ (endsB (sizC xs + b.length) ([] :: ys) ++ (xs.flatten ++ (b ++ (ys.flatten ++ List.replicate (248 - (2 * (xs.length + ys.length + 1) + (sizC xs + (b.length + sizC ys)))) 0)))))) by simp]
  rw [setW_two _ _ _ _ _ (by rw [List.length_append, fixB_length]; rfl) (w2_length _)]
  unfold pageB bodyB headPg
  rw [endsB_append, Nat.zero_add, endsB, endsB, List.flatten_append, List.flatten_cons, List.length_append, List.length_cons, sizC_append, sizC_cons, List.length_nil, Nat.add_zero]
  have e5 : List.replicate (248 - (2 * (xs.length + ys.length + 1) + (sizC xs + (b.length + sizC ys)))) (0 : UInt8) = List.replicate (244 - (2 * (xs.length + (ys.length + 1)) + (sizC xs + (b.length + sizC ys)))) 0 ++ [0, 0, 0, 0] := by
    rw [show [(0 : UInt8), 0, 0, 0] = List.replicate 4 0 from rfl, List.replicate_append_replicate]
    congr 1; omega
  rw [e5, show sizC xs + sizC ys + b.length = sizC xs + (b.length + sizC ys) by omega, show xs.length + ys.length + 1 = xs.length + (ys.length + 1) by omega]
  simp
theorem ins_facts {no : Nat} {k : UInt8} {xs ys : List (List UInt8)} (b : List UInt8) (hfit : fitC (xs ++ b :: ys)) (M : List UInt8) (hM : M = (insH no k xs ys ++ endsB 0 xs) ++ (endsB (sizC xs) ([] :: ys) ++ insR xs ys b)) :
    M.length = 256 ∧ (at8 M 5).toNat = xs.length + ys.length + 1 ∧ wordB M 6 = sizC xs + sizC ys ∧ (∀ j : Nat, xs.length ≤ j → j < xs.length + ys.length + 1 → endB M (j : Int) ≤ 244) := by
  unfold fitC at hfit
  simp only [List.length_append, sizC_append, List.length_cons, sizC_cons] at hfit
  refine ⟨?_, ?_, ?_, ?_⟩
  · rw [hM]; unfold insR
    simp only [List.length_append, insH_length, endsB_length, List.length_cons, sizC_flatten, List.length_replicate]
    omega
  · rw [hM]; unfold insH
    have := at8_append_right (fixB no 4) ((k :: UInt8.ofNat (xs.length + ys.length + 1) :: w2 (sizC xs + sizC ys)) ++ (endsB 0 xs ++ (endsB (sizC xs) ([] :: ys) ++ insR xs ys b))) 1
    rw [fixB_length] at this
    simp only [List.append_assoc] at this ⊢
    rw [this]
    show (UInt8.ofNat (xs.length + ys.length + 1)).toNat = _
    rw [u8_ofNat]; omega
  · rw [hM]; unfold insH
    rw [show fixB no 4 ++ (k :: UInt8.ofNat (xs.length + ys.length + 1) :: w2 (sizC xs + sizC ys)) ++ endsB 0 xs ++ (endsB (sizC xs) ([] :: ys) ++ insR xs ys b) = (fixB no 4 ++ [k, UInt8.ofNat (xs.length + ys.length + 1)]) ++ (w2 (sizC xs + sizC ys) ++ (endsB 0 xs ++ (endsB (sizC xs) ([] :: ys) ++ insR xs ys b))) by simp]
    exact wordB_mid _ _ _ (by omega) _ (by rw [List.length_append, fixB_length]; rfl)
  · intro j h1 h2
    have hzs : ([] :: ys : List (List UInt8)) = ([] :: ys).take (j - xs.length) ++ (([] :: ys : List (List UInt8)).getD (j - xs.length) [] :: ([] :: ys).drop (j - xs.length + 1)) := by
      have hlt : j - xs.length < ([] :: ys : List (List UInt8)).length := by rw [List.length_cons]; omega
      rw [List.getD_eq_getElem?_getD, List.getElem?_eq_getElem hlt, Option.getD_some, ← List.drop_eq_getElem_cons hlt, List.take_append_drop]
    have hsum := congrArg sizC hzs
    rw [sizC_append, sizC_cons, sizC_cons, List.length_nil] at hsum
    have hlt : (([] :: ys : List (List UInt8)).take (j - xs.length)).length = j - xs.length := by rw [List.length_take, List.length_cons]; omega
    have hlen : (xs ++ ([] :: ys : List (List UInt8)).take (j - xs.length)).length = j := by rw [List.length_append, hlt]; omega
    have h3 := end_mid (insH no k xs ys) (insH_length _ _ _ _) 0 (xs ++ ([] :: ys).take (j - xs.length)) (([] :: ys : List (List UInt8)).getD (j - xs.length) []) (([] :: ys).drop (j - xs.length + 1)) (insR xs ys b) (by rw [sizC_append]; omega)
    rw [hlen, List.append_assoc xs, ← hzs, endsB_append, Nat.zero_add] at h3
    rw [hM]
    have e : insH no k xs ys ++ endsB 0 xs ++ (endsB (sizC xs) ([] :: ys) ++ insR xs ys b) = insH no k xs ys ++ (endsB 0 xs ++ endsB (sizC xs) ([] :: ys) ++ insR xs ys b) := by simp
    rw [e, h3, sizC_append]
    omega
end Go.Proofs.YtibmlgkakeakcaaDoor
/- Pages: the walk of page.Insert, for cells that fit. -/
set_option linter.unusedSimpArgs false
set_option linter.unusedVariables false
namespace Go.Proofs.YtibmlgkakeakcaaDoor
open Go.RowKit Go.Proofs.YtibmlgkakeakcaaDoor.Crc
/-- What stands while a page is made of another one: the page that is read, the cell, the new page's bytes. -/
def InsI (w0 : World) (A Ab : Option Addr) (l b : List UInt8) (r : Nat) (cur : List UInt8) (w : World) : Prop :=
  Bytes w A l ∧ Bytes w Ab b ∧ BlkB w r 5 cur ∧ Below w0.heap.size w0 w ∧ w0.heap.size ≤ r ∧ Bytes w0 A l ∧ Bytes w0 Ab b
theorem InsI.drewN {w0 : World} {A Ab : Option Addr} {l b cur : List UInt8} {r : Nat} {w : World} (h : InsI w0 A Ab l b r cur w) (m : Nat) : InsI w0 A Ab l b r cur (w.drewN m) :=
  ⟨h.1.below (kept_drewN w m), h.2.1.below (kept_drewN w m), h.2.2.1.below (kept_drewN w m), h.2.2.2.1.trans ((kept_drewN w m).mono h.2.2.2.1.size), h.2.2.2.2⟩
theorem InsI.next {w0 : World} {A Ab : Option Addr} {l b cur cur' : List UInt8} {r : Nat} {w w' : World} (h : InsI w0 A Ab l b r cur w) (hb : BlkB w' r 5 cur') (hk : Kept (· = r) w w') : InsI w0 A Ab l b r cur' w' := by
  have hB : Below w0.heap.size w0 w' := h.2.2.2.1.trans (hk.below h.2.2.2.1.size (fun k hk e => by have := h.2.2.2.2.1; omega))
  exact ⟨h.2.2.2.2.2.1.below hB, h.2.2.2.2.2.2.below hB, hb, hB, h.2.2.2.2⟩
section
variable {ops : Array Oper} {rest : List Oper} {o : Oper} {a : Act} {Q : Exit → Act → World → Prop} {w : World}
/-- copy of bytes into the page that is made. -/
theorem wpList_copyI (hg : o.guard = none) (d s : Operand) (ho : o.op = .call { callee := .builtin .copy, args := #[d, s], argTypes := #[30, 30] })
    (r off dLen dCap : Nat) (sp : Option Addr) (sLen sCap : Nat) (hd : a.eval d = .slice (some ⟨r, off, none⟩) dLen dCap) (hs : a.eval s = .slice sp sLen sCap)
    {w0 : World} {A Ab : Option Addr} {l b cur : List UInt8} (hI : Hid (InsI w0 A Ab l b r cur w)) (src : List UInt8) (hl : sLen = src.length) (hsrc : Bytes w sp src) (hle : src.length ≤ dLen) (hfit : off + src.length ≤ cur.length)
    (h : ∀ z w', Hid (InsI w0 A Ab l b r (splice cur off src) w') → wpList Tryd.prog ops Q rest (a.put o.dst z) w') : wpList Tryd.prog ops Q (o :: rest) a w := by
  refine wpList_copyB hg d s ho r off dLen dCap sp sLen sCap hd hs _ cur src hI.out.2.2.1 hl hsrc (by rw [show Nat.min dLen src.length = src.length from Nat.min_eq_right hle]; exact hfit) ?_
  intro w' hA hk
  rw [List.take_of_length_le hle] at hA
  exact h _ w' (hI.out.next hA hk)
end
/-- The same, as one step of a region. -/
theorem step_copyI {ops : Array Oper} {o : Oper} {a : Act} {w : World} {K : Act → World → Prop} {Q : Exit → Act → World → Prop} {E : Prop} (hg : o.guard = none) (d s : Operand) (ho : o.op = .call { callee := .builtin .copy, args := #[d, s], argTypes := #[30, 30] })
    (r off dLen dCap : Nat) (sp : Option Addr) (sLen sCap : Nat) (hd : a.eval d = .slice (some ⟨r, off, none⟩) dLen dCap) (hs : a.eval s = .slice sp sLen sCap)
    {w0 : World} {A Ab : Option Addr} {l b cur : List UInt8} (hI : Hid (InsI w0 A Ab l b r cur w)) (src : List UInt8) (hl : sLen = src.length) (hsrc : Bytes w sp src) (hle : src.length ≤ dLen) (hfit : off + src.length ≤ cur.length)
    (h : ∀ z w', Hid (InsI w0 A Ab l b r (splice cur off src) w') → K (a.put o.dst z) w') : if Region.wanted o (yielded ops a.tmps) = true then Oper.wp Tryd.prog o a w K Q else E := by
  refine step_copyB hg d s ho r off dLen dCap sp sLen sCap hd hs _ cur src hI.out.2.2.1 hl hsrc (by rw [show Nat.min dLen src.length = src.length from Nat.min_eq_right hle]; exact hfit) ?_
  intro w' hA
  rw [List.take_of_length_le hle] at hA
  exact h _ w' (hI.out.next hA.out.1 hA.out.2)
set_option maxRecDepth 100000 in
set_option maxHeartbeats 1000000 in
theorem Insert_calls (A : Option Addr) (c : Nat) (l : List UInt8) (no : Nat) (k : UInt8) (xs ys : List (List UInt8)) (Ab : Option Addr) (m cb : Nat) (b : List UInt8) (w : World)
    (hb : Bytes w A l) (hP : PgL l no k (xs ++ ys)) (hno : no ≤ 2147483647) (hk : k ≠ 0) (hc : 256 ≤ c) (hcm : c ≤ 9223372036854775807)
    (hm : m = b.length) (hbb : Bytes w Ab b) (hfit : fitC (xs ++ b :: ys)) :
    Calls Tryd.prog 65 #[.slice A 256 c, .int .i64 (xs.length : Int), .slice Ab m cb] w fun e w' => ∃ r, e = .returned (.tuple #[.slice (some ⟨r, 0, none⟩) 256 256, .int .i64 0]) ∧ w.heap.size ≤ r ∧ BlkB w' r 5 (pageB no k (xs ++ b :: ys)) ∧ Below w.heap.size w w' := by
  have hS := hP.sound hno hk
  have hl := hP.len
  obtain ⟨bk, o, rfl⟩ := hb.spot (by omega)
  have hN : cntB l = xs.length + ys.length := by rw [hP.count, List.length_append]
  have hW : endB l ((xs.length : Int) - 1) = sizC xs := by rw [hP.endAt _ (by simp), List.take_left' rfl]
  have hsz : sizB l = sizC xs + sizC ys := by rw [hP.size, sizC_append]
  have hmid := ins_mid hP b hfit
  have hres := ins_page hP b hfit
  obtain ⟨mf1, mf2, mf3, mf4⟩ := ins_facts b hfit _ hmid
  have hfit' := hfit
  unfold fitC at hfit'
  simp only [List.length_append, sizC_append, List.length_cons, sizC_cons] at hfit'
  have hleft : leftP l = 244 - (2 * (xs.length + ys.length) + (sizC xs + sizC ys)) := by unfold leftP; rw [hN, hsz]
  -- the callees
  have HS := sound_calls (some ⟨bk, o, none⟩) 256 c l w hl.symm hb hc hcm (by decide)
  rw [hS] at HS
  have hLe := fun n => left_calls (some ⟨bk, o, none⟩) 256 c l (w.drewN n) hl.symm (hb.below (kept_drewN w n)) hS
  rw [hleft] at hLe
  have hOw := fun n => own_calls (some ⟨bk, o, none⟩) 256 c l (w.drewN n) hl.symm (hb.below (kept_drewN w n)) (by decide) hc hcm
  obtain ⟨i, hi⟩ : ∃ i, xs.length = i := ⟨_, rfl⟩
  obtain ⟨N, hNN⟩ : ∃ N, xs.length + ys.length = N := ⟨_, rfl⟩
  obtain ⟨W, hWW⟩ : ∃ W, sizC xs = W := ⟨_, rfl⟩
  obtain ⟨S, hSS⟩ : ∃ S, sizC xs + sizC ys = S := ⟨_, rfl⟩
  have hiN : i ≤ N := by omega
  have hWS : W ≤ S := by omega
  have hrm : 2 * N + S + 2 + m ≤ 244 := by omega
  rw [hNN] at hN mf2 hleft hLe
  rw [hNN] at mf4
  rw [hSS] at hsz mf3 hleft hLe
  rw [hWW] at hW
  rw [hi] at hW hmid hres mf1 mf2 mf3 mf4 ⊢
  have HN : Hid (cntB l = N) := hN
  have HSz : Hid (sizB l = S) := hsz
  have HW : Hid (endB l ((i : Int) - 1) = W) := hW
  have x5 : (w.cell? ⟨bk, o + 5, none⟩) = some (.int .u8 (N : Int)) := by
    obtain ⟨ad, h, hx⟩ := hb 5 (by omega)
    cases h
    rw [Addr.add_lit] at hx
    rw [← hN]; exact hx
  have hd : ∀ n, (w.drewN n).cell? ⟨bk, o + 5, none⟩ = some (.int .u8 (N : Int)) := fun n => (kept_drewN w n).cell (World.block_lt_of_cell? w _ x5) ▸ x5
  have HD := Lib.hid hd
  have d1 : decide ((i : Int) < 0) = false := by simp
  have d2 : decide ((i : Int) > (N : Int)) = false := by simp; omega
  have d3 : decide ((m : Int) > ((244 - (2 * N + S) : Nat) : Int) - 2) = false := by simp; omega
  have f1 : IntKind.i64.wrap (N : Int) = (N : Int) := IntWalk.i64_in _ (by omega)
  have hl2 : (256 : Nat) = l.length := hl.symm
  have HL := Lib.hid hl
  have HM := Lib.hid hmid
  have HR := Lib.hid hres
  have HMF := Lib.hid (And.intro mf1 (And.intro mf2 (And.intro mf3 mf4)))
  have HB := Lib.hid hb
  have HBB := Lib.hid hbb
  have HHS := Lib.hid HS
  have HLe := Lib.hid hLe
  have HOw := Lib.hid hOw
  have Hm := Lib.hid hm
  have HP := Lib.hid hP
  clear HS hLe hOw hN hsz hW hNN hWW hSS hmid hres mf1 mf2 mf3 mf4 hb hbb hm hP hS hl hl2 hd x5 hleft hfit hfit' hi
  go_enter Tryd.func65, Tryd.ntmps65
  go_wp2_with (go_at_call 73; refine HHS.out.mono ?_; rintro e w2 ⟨rfl, m2, rfl⟩; refine park ?_; intro q hq)
  have x5 := HD.out m2
  refine hq.out ?_
  clear hq
  go_wp2_with (go_at_call 87; refine (HLe.out _).mono ?_; rintro e w3 ⟨rfl, m3, rfl⟩; rw [World.drewN_drewN]; refine park ?_; intro q hq)
  refine hq.out ?_
  clear hq
  go_wp2_with (go_at_call 88; refine (HOw.out _).mono ?_; rintro e w4 ⟨r, rfl, hr4, hA4, hb4⟩; refine park ?_; intro q hq)
  have hI4 : InsI w (some ⟨bk, o, none⟩) Ab l b r (ownP l) w4 :=
    ⟨(HB.out.below (kept_drewN w _)).below hb4, (HBB.out.below (kept_drewN w _)).below hb4, hA4, (kept_drewN w _).trans (hb4.mono (kept_drewN w _).size), Nat.le_trans (kept_drewN w _).size hr4, HB.out, HBB.out⟩
  have HI4 := Lib.hid hI4
  have HCe := Lib.hid (fun (w' : World) (h : Bytes w' (some ⟨bk, o, none⟩) l) => cellsAt_calls (some ⟨bk, o, none⟩) 256 c l w' HL.out.symm h (by decide) (by decide))
  have HEn := Lib.hid (fun (w' : World) (h : Bytes w' (some ⟨bk, o, none⟩) l) => end_calls (some ⟨bk, o, none⟩) 256 c l ((i : Int) - 1) w' HL.out.symm h (by omega) (by omega) (by decide))
  clear hr4 hA4 hb4 hI4 HLe HOw HHS HD x5 d1 d2 d3 
  refine hq.out ?_
  clear hq
  go_wp2_with (go_at_call 89; refine (HCe.out _ HI4.out.1).mono ?_; rintro e w5 ⟨rfl, rfl⟩; refine park ?_; intro q hq)
  refine hq.out ?_
  clear hq
  rw [show ((at8 l 5).toNat : Int) = (N : Int) by rw [← HN.out]; rfl]
  go_wp2_with (go_at_call 90; refine (HEn.out _ HI4.out.1).mono ?_; rintro e w5 ⟨rfl, m5, rfl⟩; refine park ?_; intro q hq)
  refine hq.out ?_
  clear hq
  rw [HW.out]
  have HI5 := Lib.hid (HI4.out.drewN m5)
  obtain ⟨w5, hw5⟩ : ∃ w5, w4.drewN m5 = w5 := ⟨_, rfl⟩
  rw [hw5] at HI5 ⊢
  clear hw5 HI4 HEn HCe
  have h5 : at8 l 5 = at8 (ownP l) 5 := by unfold ownP; rw [at8_append_left _ _ _ (by rw [List.length_take, HL.out]; decide), at8_take _ _ _ (by decide)]
  have hol : (ownP l).length = 256 := ownP_len l (by rw [HL.out]; decide)
  obtain ⟨x5, y5⟩ := HI5.out.2.2.1.cell 5 (by rw [hol]; decide)
  have e5 : (at8 l 5).toNat = N := HN.out
  rw [← h5, e5] at x5
  have e5b : ((at8 l 5 + 1).toNat : Int) = (N : Int) + 1 := by rw [UInt8.toNat_add, e5]; simp; omega
  have hI6 := HI5.out.next (HI5.out.2.2.1.set 5 (at8 l 5 + 1)) (Kept.set1 w5 r 5 _)
  rw [e5b] at hI6
  have HI6 := Lib.hid hI6
  clear h5 hol e5 e5b hI6 f1
  have g1 : ((N : Int) + 1) % 256 = (N : Int) + 1 := by omega
  have k1 : IntKind.i64.wrap (2 * (i : Int)) = 2 * (i : Int) := IntWalk.i64_in _ (by omega)
  have k2 : IntKind.i64.wrap (8 + 2 * (i : Int)) = 8 + 2 * (i : Int) := IntWalk.i64_in _ (by omega)
  have k3 : IntKind.i64.wrap (8 + 2 * (i : Int) + 2) = 8 + 2 * (i : Int) + 2 := IntWalk.i64_in _ (by omega)
  have k4 : (8 + 2 * (i : Int) + 2).toNat = 8 + 2 * i + 2 := by omega
  have k5 : (8 + 2 * (i : Int)).toNat = 8 + 2 * i := by omega
  have k6 : (8 + 2 * (N : Int)).toNat = 8 + 2 * N := by omega
  have k7 : 8 + 2 * (i : Int) + 2 ≤ 256 := by omega
  have k8 : 8 + 2 * (N : Int) ≤ (c : Int) := by omega
  have k9 : 8 + 2 * (i : Int) ≤ 8 + 2 * (N : Int) := by omega
  have k10 : ¬ c = 8 + 2 * i := by omega
  have k12 : 0 ≤ 8 + 2 * (i : Int) + 2 := by omega
  have k13 : 0 ≤ 8 + 2 * (i : Int) := by omega
  have k14 : 0 ≤ 8 + 2 * (N : Int) := by omega
  have k11 : ¬ 256 = 8 + 2 * i + 2 := by omega
  go_wp2_with fail
  go_still_tail 12, (by kernel_rfl)
  have HI7 := Lib.hid (HI6.out.drewN 1)
  change wpList _ _ _ _ _ ((w5.setCell ⟨r, 5, none⟩ (.int .u8 ((N : Int) + 1))).drewN 1)
  obtain ⟨w6, hw6⟩ : ∃ w6, (w5.setCell ⟨r, 5, none⟩ (.int .u8 ((N : Int) + 1))).drewN 1 = w6 := ⟨_, rfl⟩
  rw [hw6] at HI7 ⊢
  clear hw6 HI6 x5 y5 HI5 
  obtain ⟨c1, hc1⟩ : ∃ c1, (ownP l).set 5 (at8 l 5 + 1) = c1 := ⟨_, rfl⟩
  have hcl : c1.length = 256 := by rw [← hc1, List.length_set]; exact ownP_len l (by rw [HL.out]; decide)
  rw [hc1] at HI7
  have HC1 := Lib.hid hc1
  have t1 : ((l.drop (8 + 2 * i)).take (8 + 2 * N - (8 + 2 * i))).length = 8 + 2 * N - (8 + 2 * i) := by rw [List.length_take, List.length_drop, HL.out]; omega
  refine wpList_copyI rfl _ _ rfl r _ _ _ _ _ _ rfl rfl HI7 ((l.drop (8 + 2 * i)).take (8 + 2 * N - (8 + 2 * i))) (by rw [t1]) ((HI7.out.1.drop (8 + 2 * i)).take _) (by rw [t1]; omega) (by rw [t1, hcl]; omega) ?_
  intro z7 w7 HI8
  obtain ⟨c2, hc2⟩ : ∃ c2, splice c1 (8 + 2 * i + 2) ((l.drop (8 + 2 * i)).take (8 + 2 * N - (8 + 2 * i))) = c2 := ⟨_, rfl⟩
  have hcl2 : c2.length = 256 := by rw [← hc2, length_splice _ _ _ (by rw [t1, hcl]; omega)]; exact hcl
  rw [hc2] at HI8
  have HC2 := Lib.hid hc2
  have hs := fun (w' : World) (h : BlkB w' r 5 c2) => setWord_calls r c2 (8 + 2 * i) W w' h hcl2 (by omega) (by omega)
  rw [show ((8 + 2 * i : Nat) : Int) = 8 + 2 * (i : Int) by omega] at hs
  have HSw := Lib.hid hs
  clear hc1 hcl t1 hc2 hs HI7
  go_wp2_with (go_at_call 91; refine (HSw.out _ HI8.out.2.2.1).mono ?_; rintro e w8 ⟨rfl, hA8, hk8⟩; refine park ?_; intro q hq)
  have HI9 := Lib.hid (HI8.out.next hA8 hk8)
  obtain ⟨c3, hc3⟩ : ∃ c3, setW c2 (8 + 2 * i) W = c3 := ⟨_, rfl⟩
  have hcl3 : c3.length = 256 := by rw [← hc3, setW_len]; exact hcl2
  rw [hc3] at HI9
  have HC3 := Lib.hid hc3
  clear hc3 hcl2 HSw hA8 hk8 HI8
  refine hq.out ?_
  clear hq k1 k2 k3 k4 k5 k6 k7 k8 k9 k10 k11 k12 k13 k14
  have k1 : IntKind.i64.wrap (8 + 2 * (N : Int) + 2) = 8 + 2 * (N : Int) + 2 := IntWalk.i64_in _ (by omega)
  have k2 : IntKind.i64.wrap (8 + 2 * (N : Int) + (W : Int)) = 8 + 2 * (N : Int) + (W : Int) := IntWalk.i64_in _ (by omega)
  have k3 : (8 + 2 * (N : Int) + 2).toNat = 8 + 2 * N + 2 := by omega
  have k4 : (8 + 2 * (N : Int) + (W : Int)).toNat = 8 + 2 * N + W := by omega
  have k5 : (8 + 2 * (N : Int)).toNat = 8 + 2 * N := by omega
  have k6 : 8 + 2 * (N : Int) + 2 ≤ 256 := by omega
  have k7 : 8 + 2 * (N : Int) + (W : Int) ≤ (c : Int) := by omega
  have k8 : 0 ≤ 8 + 2 * (N : Int) + (W : Int) := by omega
  have k9 : 0 ≤ 8 + 2 * (N : Int) + 2 := by omega
  have k10 : 0 ≤ 8 + 2 * (N : Int) := by omega
  have k11 : ¬ c = 8 + 2 * N := by omega
  have k12 : ¬ 256 = 8 + 2 * N + 2 := by omega
  have k13 : 8 + 2 * (N : Int) ≤ 8 + 2 * (N : Int) + (W : Int) := by omega
  go_wp2_with fail
  go_still_tail 10, (by kernel_rfl)
  have t1 : ((l.drop (8 + 2 * N)).take W).length = W := by rw [List.length_take, List.length_drop, HL.out]; omega
  have HI10 := Lib.hid (HI9.out.drewN 1)
  change wpList _ _ _ _ _ (w8.drewN 1)
  obtain ⟨w9, hw9⟩ : ∃ w9, w8.drewN 1 = w9 := ⟨_, rfl⟩
  rw [hw9] at HI10 ⊢
  clear hw9 HI9
  refine wpList_copyI rfl _ _ rfl r _ _ _ _ _ _ rfl rfl HI10 ((l.drop (8 + 2 * N)).take W) (by rw [t1]) ((HI10.out.1.drop (8 + 2 * N)).take _) (by rw [t1]; omega) (by rw [t1, hcl3]; omega) ?_
  intro z10 w10 HI11
  obtain ⟨c4, hc4⟩ : ∃ c4, splice c3 (8 + 2 * N + 2) ((l.drop (8 + 2 * N)).take W) = c4 := ⟨_, rfl⟩
  have hcl4 : c4.length = 256 := by rw [← hc4, length_splice _ _ _ (by rw [t1, hcl3]; omega)]; exact hcl3
  rw [hc4] at HI11
  have HC4 := Lib.hid hc4
  clear hc4 t1 HI10 hcl3
  clear k2 k4 k7 k8 k13
  have k2 : IntKind.i64.wrap (8 + 2 * (N : Int) + 2 + (W : Int)) = 8 + 2 * (N : Int) + 2 + (W : Int) := IntWalk.i64_in _ (by omega)
  have k4 : (8 + 2 * (N : Int) + 2 + (W : Int)).toNat = 8 + 2 * N + 2 + W := by omega
  have k7 : 8 + 2 * (N : Int) + 2 + (W : Int) ≤ 256 := by omega
  have k8 : 0 ≤ 8 + 2 * (N : Int) + 2 + (W : Int) := by omega
  have k13 : ¬ 256 = 8 + 2 * N + 2 + W := by omega
  go_wp2_with (with_reducible refine park_copy ?_; intro q hq)
  refine hq.out ?_
  clear hq
  refine wpList_copyI rfl _ _ rfl r _ _ _ _ _ _ rfl rfl HI11 b Hm.out HI11.out.2.1 (by rw [← Hm.out]; omega) (by rw [← Hm.out, hcl4]; omega) ?_
  intro z11 w11 HI12
  obtain ⟨c5, hc5⟩ : ∃ c5, splice c4 (8 + 2 * N + 2 + W) b = c5 := ⟨_, rfl⟩
  have hcl5 : c5.length = 256 := by rw [← hc5, length_splice _ _ _ (by rw [← Hm.out, hcl4]; omega)]; exact hcl4
  rw [hc5] at HI12
  have HC5 := Lib.hid hc5
  clear hc5 HI11 hcl4
  clear k1 k3 k5 k6 k9 k10 k11 k12
  have hwd := fun (w' : World) (h : Bytes w' (some ⟨bk, o, none⟩) l) => word_calls (some ⟨bk, o, none⟩) 256 c l 6 w' HL.out.symm h (by decide) (by decide)
  rw [show wordB l 6 = S from HSz.out, show ((6 : Nat) : Int) = 6 from rfl] at hwd
  have HWd : Hid (∀ w', Hid (InsI w (some ⟨bk, o, none⟩) Ab l b r c5 w') → Calls Tryd.prog 92 #[.slice (some ⟨bk, o, none⟩) 256 c, .int .i64 6] w' fun e w'' => e = .returned (.int .i64 (S : Int)) ∧ Hid (InsI w (some ⟨bk, o, none⟩) Ab l b r c5 w'')) :=
    fun w' h => (hwd w' h.out.1).mono fun e w'' ⟨he, n, hn⟩ => ⟨he, by rw [hn]; exact h.out.drewN n⟩
  have HI13 : Hid (InsI w (some ⟨bk, o, none⟩) Ab l b r c5 w11.drew) := HI12.out.drewN 1
  have k1 : IntKind.i64.wrap (8 + 2 * (N : Int) + 2 + (W : Int) + (m : Int)) = 8 + 2 * (N : Int) + 2 + (W : Int) + (m : Int) := IntWalk.i64_in _ (by omega)
  have k3 : (8 + 2 * (N : Int) + 2 + (W : Int) + (m : Int)).toNat = 8 + 2 * N + 2 + W + m := by omega
  have k5 : 8 + 2 * (N : Int) + 2 + (W : Int) + (m : Int) ≤ 252 := by omega
  have k6 : 0 ≤ 8 + 2 * (N : Int) + 2 + (W : Int) + (m : Int) := by omega
  have k9 : IntKind.i64.wrap (8 + 2 * (N : Int) + (W : Int)) = 8 + 2 * (N : Int) + (W : Int) := IntWalk.i64_in _ (by omega)
  have k10 : IntKind.i64.wrap (8 + 2 * (N : Int) + (S : Int)) = 8 + 2 * (N : Int) + (S : Int) := IntWalk.i64_in _ (by omega)
  have k11 : (8 + 2 * (N : Int) + (W : Int)).toNat = 8 + 2 * N + W := by omega
  have k12 : (8 + 2 * (N : Int) + (S : Int)).toNat = 8 + 2 * N + S := by omega
  have k14 : 0 ≤ 8 + 2 * (N : Int) + (W : Int) := by omega
  have k15 : 8 + 2 * (N : Int) + (W : Int) ≤ 8 + 2 * (N : Int) + (S : Int) := by omega
  have k16 : 8 + 2 * (N : Int) + (S : Int) ≤ (c : Int) := by omega
  have k17 : ¬ c = 8 + 2 * N + W := by omega
  have k18 : ¬ 256 = 8 + 2 * N + 2 + W + m := by omega
  have k19 : IntKind.i64.wrap (8 + 2 * (N : Int) + 2) = 8 + 2 * (N : Int) + 2 := IntWalk.i64_in _ (by omega)
  have k20 : 0 ≤ 8 + 2 * (N : Int) + (S : Int) := by omega
  have t1 : Hid (((l.drop (8 + 2 * N + W)).take (8 + 2 * N + S - (8 + 2 * N + W))).length = 8 + 2 * N + S - (8 + 2 * N + W)) := by show _ = _; rw [List.length_take, List.length_drop, HL.out]; omega
  obtain ⟨src, hsrc⟩ : ∃ src, (l.drop (8 + 2 * N + W)).take (8 + 2 * N + S - (8 + 2 * N + W)) = src := ⟨_, rfl⟩
  have HSrc : Hid (∀ w', Hid (InsI w (some ⟨bk, o, none⟩) Ab l b r c5 w') → Bytes w' (some ⟨bk, o + (8 + 2 * N + W), none⟩) src) := fun w' h => by rw [← hsrc]; exact (h.out.1.drop _).take _
  rw [hsrc] at t1
  have T2 : Hid (src.length ≤ 252 - (8 + 2 * N + 2 + W + m)) := by show _ ≤ _; rw [t1.out]; omega
  have T3 : Hid (8 + 2 * N + 2 + W + m + src.length ≤ c5.length) := by show _ ≤ _; rw [t1.out, hcl5]; omega
  obtain ⟨c6, hc6⟩ : ∃ c6, splice c5 (8 + 2 * N + 2 + W + m) src = c6 := ⟨_, rfl⟩
  have HC6 := Lib.hid hc6
  have HSc := Lib.hid hsrc
  clear hwd hcl5 HI12 hc6 hsrc
  go_wp2_with fail
  go_region_law (first | (refine step_copyI (by rfl) _ _ (by rfl) r _ _ _ _ _ _ (by rfl) (by rfl) (by assumption) src t1.out.symm (HSrc.out _ (by assumption)) T2.out T3.out ?_; rw [HC6.out]; intro z15 w15 HI15) | (go_simp; go_at_call 92; (with_reducible refine (HWd.out _ (by assumption)).mono ?_); rintro e w' ⟨rfl, HI14⟩))
  all_goals
    have h6 : c6 = insS l i b := by
      have n1 : cntB l = N := HN.out
      have n2 : sizB l = S := HSz.out
      have n3 : endB l ((i : Int) - 1) = W := HW.out
      unfold insS
      rw [n1, n2, n3, HC1.out, HC2.out, HC3.out, HC4.out, HC5.out, ← Hm.out, show S - W = 8 + 2 * N + S - (8 + 2 * N + W) by omega, HSc.out]
      exact HC6.out.symm
    have hq := HMF.out
    rw [← h6] at hq
    obtain ⟨q1, q2, q3, q4⟩ := hq
    have hsh := fun (w' : World) (h : BlkB w' r 5 c6) => shift_calls r c6 i (N + 1) (m : Int) w' h q1 q2 (by omega) (by omega) (fun j h1 h2 => by have := q4 j h1 h2; omega) (by rw [q3]; omega)
    have hfin : setW (shiftB c6 i (m : Int) (N + 1 - i)) 6 ((wordB c6 6 : Int) + (m : Int)).toNat = pageB no k (xs ++ b :: ys) := by
      rw [← HR.out]
      have n1 : cntB l = N := HN.out
      have n2 : sizB l = S := HSz.out
      unfold insB
      rw [n1, n2, ← h6, q3, Hm.out]
      congr 1
    rw [hfin] at hsh
    have HSh := Lib.hid hsh
    clear q1 q2 q3 q4 hsh hfin h6 k1 k2 k3 k4 k5 k6 k7 k8 k9 k10 k11 k12 k13 k14 k15 k16 k17 k18 k19 k20
    go_wp2_with (go_at_call 93; refine (HSh.out _ HI15.out.2.2.1).mono ?_; rintro e w16 ⟨rfl, hA16, hk16⟩)
    go_ret2
    have hI := HI15.out.next hA16 hk16
    exact ⟨r, rfl, hI.2.2.2.2.1, hI.2.2.1, hI.2.2.2.1⟩
end Go.Proofs.YtibmlgkakeakcaaDoor
/- Pages: the walks of Insert and New where they refuse, Seal, Open. -/
set_option linter.unusedSimpArgs false
set_option linter.unusedVariables false
namespace Go.Proofs.YtibmlgkakeakcaaDoor
open Go.RowKit Go.Proofs.YtibmlgkakeakcaaDoor.Crc
theorem OwnB.of_blk {w : World} {base r : Nat} {l : List UInt8} (h : BlkB w r 5 l) (hl : l.length = 256) (hb : base ≤ r) : OwnB w base (.slice (some ⟨r, 0, none⟩) 256 256) l := by
  unfold OwnB World.ownsRow
  rw [hl]
  refine ⟨by rw [cells8_length, hl], .inr ⟨r, 256, (cells8 l).toArray, rfl, hb, h, Nat.le_refl _, by unfold maxLen; decide, by simp [cells8_length, hl], ?_⟩⟩
  rw [Nat.mul_one]
  exact List.take_of_length_le (by simp [cells8_length, hl])
set_option maxRecDepth 100000 in
set_option maxHeartbeats 400000 in
theorem Insert_room (A : Option Addr) (c : Nat) (l : List UInt8) (no : Nat) (k : UInt8) (cs : List (List UInt8)) (i : Nat) (Ab : Option Addr) (m cb : Nat) (w : World)
    (hb : Bytes w A l) (hP : PgL l no k cs) (hno : no ≤ 2147483647) (hk : k ≠ 0) (hc : 256 ≤ c) (hcm : c ≤ 9223372036854775807) (hi : i ≤ cs.length) (hm : m ≤ 9223372036854775807) (hfit : 244 < 2 * cs.length + sizC cs + 2 + m) :
    Calls Tryd.prog 65 #[.slice A 256 c, .int .i64 (i : Int), .slice Ab m cb] w fun e w' => e = .returned (.tuple #[.slice none 0 0, .int .i64 32]) ∧ Below w.heap.size w w' := by
  have hS := hP.sound hno hk
  have hl := hP.len
  obtain ⟨bk, o, rfl⟩ := hb.spot (by omega)
  have hN : cntB l = cs.length := hP.count
  have hsz : sizB l = sizC cs := hP.size
  have hleft : leftP l = 244 - (2 * cs.length + sizC cs) := by unfold leftP; rw [hN, hsz]
  have HS := sound_calls (some ⟨bk, o, none⟩) 256 c l w hl.symm hb hc hcm (by decide)
  rw [hS] at HS
  have hLe := fun n => left_calls (some ⟨bk, o, none⟩) 256 c l (w.drewN n) hl.symm (hb.below (kept_drewN w n)) hS
  rw [hleft] at hLe
  have hf2 : 2 * cs.length + sizC cs ≤ 244 := hP.1
  obtain ⟨N, hNN⟩ : ∃ N, cs.length = N := ⟨_, rfl⟩
  obtain ⟨S, hSS⟩ : ∃ S, sizC cs = S := ⟨_, rfl⟩
  rw [hNN] at hN hLe hfit hi hf2
  rw [hSS] at hLe hfit hf2
  have x5 : (w.cell? ⟨bk, o + 5, none⟩) = some (.int .u8 (N : Int)) := by
    obtain ⟨ad, h, hx⟩ := hb 5 (by omega)
    cases h
    rw [Addr.add_lit] at hx
    rw [← hN]; exact hx
  have HD := Lib.hid (fun n => (kept_drewN w n).cell (World.block_lt_of_cell? w _ x5) ▸ x5 : ∀ n, (w.drewN n).cell? ⟨bk, o + 5, none⟩ = some (.int .u8 (N : Int)))
  have d1 : decide ((i : Int) < 0) = false := by simp
  have d2 : decide (N < i) = false := by simp; omega
  obtain ⟨L, hL⟩ : ∃ L, 244 - (2 * N + S) = L := ⟨_, rfl⟩
  rw [hL] at hLe
  have hL2 : L ≤ 244 := by omega
  have d3 : decide ((m : Int) > (L : Int) - 2) = true := by simp; omega
  have f1 : IntKind.i64.wrap (N : Int) = (N : Int) := IntWalk.i64_in _ (by omega)
  have HHS := Lib.hid HS
  have HLe := Lib.hid hLe
  clear HS hLe hN hsz hNN hSS hb hP hS hl x5 hleft hL
  go_enter Tryd.func65, Tryd.ntmps65
  go_wp2_with (go_at_call 73; refine HHS.out.mono ?_; rintro e w2 ⟨rfl, m2, rfl⟩; refine park ?_; intro q hq)
  have x5 := HD.out m2
  refine hq.out ?_
  clear hq
  go_wp2_with (go_at_call 87; refine (HLe.out _).mono ?_; rintro e w3 ⟨rfl, m3, rfl⟩; rw [World.drewN_drewN]; refine park ?_; intro q hq)
  refine hq.out ?_
  clear hq x5
  go_wp2_with fail
  go_ret2
  exact ⟨rfl, kept_drewN _ _⟩
set_option maxHeartbeats 400000 in
theorem New_bad (no : Int) (k : UInt8) (w : World) (h : no < 0 ∨ 2147483647 < no ∨ k = 0) :
    Calls Tryd.prog 64 #[.int .i64 no, .int .u8 (k.toNat : Int)] w fun e w' => e = .returned (.tuple #[.slice none 0 0, .int .i64 2]) ∧ w = w' := by
  by_cases h1 : no < 0
  · have d1 : decide (no < 0) = true := by simpa using h1
    clear h h1
    go_enter Tryd.func64, Tryd.ntmps64
    go_wp2_with fail
    go_ret2
    exact ⟨rfl, rfl⟩
  · have d1 : decide (no < 0) = false := by simpa using h1
    by_cases h2 : 2147483647 < no
    · have d2 : decide (no > 2147483647) = true := by simpa using h2
      clear h h1 h2
      go_enter Tryd.func64, Tryd.ntmps64
      go_wp2_with fail
      go_ret2
      exact ⟨rfl, rfl⟩
    · have d2 : decide (no > 2147483647) = false := by simpa using h2
      have h3 : k = 0 := by rcases h with h | h | h
                            · exact absurd h h1
                            · exact absurd h h2
                            · exact h
      subst h3
      clear h h1 h2
      go_enter Tryd.func64, Tryd.ntmps64
      go_wp2_with fail
      go_ret2
      exact ⟨rfl, rfl⟩
end Go.Proofs.YtibmlgkakeakcaaDoor
/- Pages: the walk of the laws' made. -/
set_option linter.unusedSimpArgs false
set_option linter.unusedVariables false
namespace Go.Proofs.YtibmlgkakeakcaaDoor
open Go.RowKit Go.Proofs.YtibmlgkakeakcaaDoor.Crc
/-- A slice of bytes that came in. -/
def SlB (w : World) (A : Option Addr) (n c : Nat) (l : List UInt8) : Prop := n = l.length ∧ Bytes w A l ∧ n ≤ c ∧ n ≤ 9223372036854775807 ∧ (A = none → c = 0)
theorem SlB.below {w w' : World} {A : Option Addr} {n c : Nat} {l : List UInt8} (h : SlB w A n c l) (hb : Below w.heap.size w w') : SlB w' A n c l := ⟨h.1, h.2.1.below hb, h.2.2⟩
/-- A slice of slices of bytes. -/
def RowsB (w : World) (A : Option Addr) (ls : List (List UInt8)) : Prop := ∀ (i : Nat) (h : i < ls.length), ∃ ad Ai ci, A = some ad ∧ w.cell? (ad.add i) = some (.slice Ai ls[i].length ci) ∧ SlB w Ai ls[i].length ci ls[i]
theorem RowsB.below {w w' : World} {A : Option Addr} {ls : List (List UInt8)} (h : RowsB w A ls) (hb : Below w.heap.size w w') : RowsB w' A ls := fun i hi => by
  obtain ⟨ad, Ai, ci, hA, hc, hs⟩ := h i hi
  exact ⟨ad, Ai, ci, hA, (hb.cell (World.block_lt_of_cell? w _ hc)).trans hc, hs.below hb⟩
theorem RowsB.spot {w : World} {A : Option Addr} {ls : List (List UInt8)} (h : RowsB w A ls) (hl : 0 < ls.length) : ∃ b o, A = some ⟨b, o, none⟩ := by
  obtain ⟨ad, Ai, ci, hA, hx, _⟩ := h 0 hl
  obtain ⟨b, o, s⟩ := ad
  refine ⟨b, o, ?_⟩
  rw [hA]
  cases s with
  | none => rfl
  | some s => simp [World.cell?, Addr.add] at hx; split at hx <;> simp at hx
theorem RowsB.at {w : World} {b o : Nat} {ls : List (List UInt8)} (h : RowsB w (some ⟨b, o, none⟩) ls) (i : Nat) (hi : i < ls.length) : ∃ Ai ci, w.cell? ⟨b, o + i, none⟩ = some (.slice Ai ls[i].length ci) ∧ SlB w Ai ls[i].length ci ls[i] := by
  obtain ⟨ad, Ai, ci, hA, hx, hs⟩ := h i hi
  cases hA
  rw [Addr.add_lit] at hx
  exact ⟨Ai, ci, hx, hs⟩
theorem fit_nil : fitC [] := by unfold fitC; decide
theorem newB_page (no : Nat) (k : UInt8) : newB no k = pageB no k [] := by
  have h : List.replicate 251 (0 : UInt8) = UInt8.ofNat 0 :: (w2 0 ++ (List.replicate 244 0 ++ [0, 0, 0, 0])) := by decide +kernel
  unfold newB pageB bodyB headPg
  rw [h, List.append_assoc, List.append_assoc]
  rfl
theorem PgL.cnt {l : List UInt8} {no : Nat} {k : UInt8} {cs : List (List UInt8)} (h : PgL l no k cs) (hno : no ≤ 2147483647) (hk : k ≠ 0) : countP l = cs.length := by
  unfold countP; rw [if_pos (h.sound hno hk), h.count]
end Go.Proofs.YtibmlgkakeakcaaDoor
/- Rows of bytes of one's own. -/
set_option linter.unusedSimpArgs false
set_option linter.unusedVariables false
namespace Go.Proofs.YtibmlgkakeakcaaDoor
open Go.RowKit Go.Proofs.YtibmlgkakeakcaaDoor.Crc
theorem ownsRow_block {w : World} {base : Nat} {e : TypeId} {size : Nat} {v : Value} {n : Nat} {xs : List Value} (h : w.ownsRow base e size v n xs) {g : Nat} (hg : v.ownBlock = some g) : ∃ cur, w.heap[g]? = some (.cells cur e (0, 0)) := by
  rcases h.2 with ⟨h1, _⟩ | ⟨g', cap, cur, h1, _, h3, _⟩
  · rw [h1] at hg; cases hg
  · rw [h1] at hg; cases hg; exact ⟨cur, h3⟩
theorem ownsRow_apart {w : World} {base base' : Nat} {e e' : TypeId} {size size' : Nat} {v v' : Value} {n n' : Nat} {xs xs' : List Value} (h : w.ownsRow base e size v n xs) (h' : w.ownsRow base' e' size' v' n' xs') (he : e ≠ e') : v.ownBlock = none ∨ v.ownBlock ≠ v'.ownBlock := by
  cases hv : v.ownBlock with
  | none => exact .inl rfl
  | some g =>
    refine .inr fun heq => ?_
    obtain ⟨c1, h1⟩ := ownsRow_block h hv
    obtain ⟨c2, h2⟩ := ownsRow_block h' heq.symm
    rw [h1] at h2
    injection h2 with h3
    injection h3 with _ h4
    exact he h4
/-- Rows of bytes, all of one's own. -/
def OwnRL (w : World) (base : Nat) (v : Value) (ls : List (List UInt8)) : Prop :=
  ∃ vs : List Value, w.ownsRow base 30 1 v ls.length vs ∧ ∀ (i : Nat) (h : i < ls.length), ∃ A c, vs[i]? = some (.slice A ls[i].length c) ∧ OwnB w base (.slice A ls[i].length c) ls[i]
theorem OwnRL.nil (w : World) (base : Nat) : OwnRL w base (.slice none 0 0) [] := ⟨[], World.ownsRow_nil _ _ _ _, fun i h => absurd h (by simp)⟩
theorem ownsRow_below {w w' : World} {base : Nat} {e : TypeId} {size : Nat} {v : Value} {n : Nat} {xs : List Value} (h : w.ownsRow base e size v n xs) (hb : Below w.heap.size w w') : w'.ownsRow base e size v n xs := by
  refine ⟨h.1, ?_⟩
  rcases h.2 with h2 | ⟨g, cap, cur, h1, h2, h3, r⟩
  · exact .inl h2
  · exact .inr ⟨g, cap, cur, h1, h2, by rw [hb.block g ((Array.getElem?_eq_some_iff.1 h3).1)]; exact h3, r⟩
theorem OwnRL.below {w w' : World} {base : Nat} {v : Value} {ls : List (List UInt8)} (h : OwnRL w base v ls) (hb : Below w.heap.size w w') : OwnRL w' base v ls := by
  obtain ⟨vs, h1, h2⟩ := h
  refine ⟨vs, ownsRow_below h1 hb, fun i hi => ?_⟩
  obtain ⟨A, c, h3, h4⟩ := h2 i hi
  exact ⟨A, c, h3, h4.below hb⟩
theorem OwnRL.form {w : World} {base : Nat} {v : Value} {ls : List (List UInt8)} (h : OwnRL w base v ls) : (v = .slice none 0 0 ∧ ls = []) ∨ ∃ g c, v = .slice (some ⟨g, 0, none⟩) ls.length c ∧ base ≤ g ∧ g < w.heap.size ∧ ls.length ≤ c ∧ c ≤ 9223372036854775807 := by
  obtain ⟨vs, h1, _⟩ := h
  rcases h1.2 with ⟨h2, h3⟩ | ⟨g, cap, cur, h2, h3, h4, h5, h6, _⟩
  · exact .inl ⟨h2, List.eq_nil_of_length_eq_zero h3⟩
  · exact .inr ⟨g, cap, h2, h3, (Array.getElem?_eq_some_iff.1 h4).1, h5, by unfold maxLen at h6; omega⟩
theorem OwnRL.rows {w : World} {base n c : Nat} {A : Option Addr} {ls : List (List UInt8)} (h : OwnRL w base (.slice A n c) ls) : RowsB w A ls := by
  intro i hi
  rcases h.form with ⟨_, h2⟩ | ⟨g, c', h1, _⟩
  · subst h2; simp at hi
  · obtain ⟨rfl, rfl, rfl⟩ : A = some ⟨g, 0, none⟩ ∧ n = ls.length ∧ c = c' := by simpa using h1
    obtain ⟨vs, h2, h3⟩ := h
    obtain ⟨Ai, ci, h4, h5⟩ := h3 i hi
    refine ⟨_, Ai, ci, rfl, World.ownsRow.cells h2 rfl i _ h4, rfl, h5.bytes, ?_, ?_, ?_⟩
    · rcases h5.form with ⟨h6, h7⟩ | ⟨g', c', h6, _, _, h7⟩
      · rw [h7]; exact Nat.zero_le _
      · injection h6 with _ _ h8; omega
    · rcases h5.2 with ⟨_, h6⟩ | ⟨g', cap, cur, h6, _, _, h8, h7, _⟩
      · omega
      · unfold maxLen at h7; omega
    · rintro rfl
      exact (h5.nilcap).2.1
theorem infoRow : (Tryd.prog.info? 30).map (fun i => (i.zero, i.size, i.bytes)) = some (some (.slice none 0 0), 1, 24) := by kernel_rfl
/-- append of one row onto rows of one's own. -/
theorem wpList_append_row {w : World} {ops : Array Oper} {rest : List Oper} {o : Oper} {a : Act} {Q : Exit → Act → World → Prop} (hgd : o.guard = none) (s x : Operand)
    (ho : o.op = .call { callee := .builtin .append, args := #[s, x], argTypes := #[23, 23] })
    (base : Nat) (v : Value) (ls : List (List UInt8)) (hs : a.eval s = v) (hown : OwnRL w base v ls)
    (ad : Addr) (cx : Nat) (A : Option Addr) (m c : Nat) (l : List UInt8) (hx : a.eval x = .slice (some ad) 1 cx) (hcell : w.cell? (ad.add 0) = some (.slice A m c)) (hb : OwnB w base (.slice A m c) l)
    (hbytes : ls.length ≤ 1000000) (hbase : base ≤ w.heap.size)
    (h : ∀ v' w', Hid (OwnRL w' base v' (ls ++ [l]) ∧ w.grownBy w' v.ownBlock) → wpList Tryd.prog ops Q rest (a.put o.dst v') w') : wpList Tryd.prog ops Q (o :: rest) a w := by
  obtain ⟨i, hi, hz0, hz1, hz2⟩ := info_parts infoRow
  obtain ⟨vs, h1, h2⟩ := hown
  have hm := hb.len
  subst hm
  refine wpList_append_own w hgd s x _ ho base 30 i (.slice none 0 0) 1 24 Tryd.underlying23 hi hz0 hz1 hz2 rfl (by decide) v ls.length vs hs h1 ad 1 cx [.slice A l.length c] hx rfl ?_ (by simp; rfl) (by unfold maxLen; omega) (by omega) hbase ?_
  · intro j u hj
    match j, hj with
    | 0, hj => simp at hj; rw [hcell, hj]
    | j + 1, hj => simp at hj
  · intro v' w' hown' hg hnn
    refine h v' w' ⟨⟨vs ++ [.slice A l.length c], by rw [List.length_append]; exact hown', ?_⟩, hg⟩
    have hvl : vs.length = ls.length := by have := h1.1; omega
    intro i hi
    rw [List.length_append, List.length_singleton] at hi
    by_cases hlt : i < ls.length
    · obtain ⟨Ai, ci, h3, h4⟩ := h2 i hlt
      refine ⟨Ai, ci, ?_, ?_⟩
      · rw [List.getElem?_append_left (by omega), h3, List.getElem_append_left hlt]
      · rw [List.getElem_append_left hlt]
        exact h4.grown hg (ownsRow_apart h4 h1 (by decide))
    · obtain rfl : i = ls.length := by omega
      refine ⟨A, c, ?_, ?_⟩
      · rw [List.getElem?_append_right (by omega), hvl]; simp
      · simp only [List.getElem_append_right (Nat.le_refl _), Nat.sub_self, List.getElem_cons_zero]
        exact hb.grown hg (ownsRow_apart hb h1 (by decide))
theorem OwnB.caps {w : World} {base n c : Nat} {A : Option Addr} {l : List UInt8} (h : OwnB w base (.slice A n c) l) : n = l.length ∧ n ≤ c ∧ c ≤ 9223372036854775807 ∧ (A = none → c = 0) := by
  refine ⟨h.len, ?_, ?_, ?_⟩
  · rcases h.form with ⟨h6, h7⟩ | ⟨g', c', h6, _, _, h7⟩
    · injection h6 with _ h8 _; omega
    · injection h6 with _ _ h8; have := h.len; omega
  · rcases h.2 with ⟨h6, _⟩ | ⟨g', cap, cur, h6, _, _, _, h7, _⟩
    · injection h6 with _ _ h8; omega
    · injection h6 with _ _ h8; unfold maxLen at h7; omega
  · rintro rfl; exact (h.nilcap).2.1
theorem OwnRL.slice {w : World} {base : Nat} {v : Value} {ls : List (List UInt8)} (h : OwnRL w base v ls) : ∃ A c, v = .slice A ls.length c ∧ RowsB w A ls ∧ ls.length ≤ c ∧ c ≤ 9223372036854775807 ∧ (A = none → c = 0) := by
  rcases h.form with ⟨rfl, rfl⟩ | ⟨g, c, rfl, _, _, h1, h2⟩
  · exact ⟨none, 0, rfl, h.rows, Nat.le_refl _, by decide, fun _ => rfl⟩
  · exact ⟨_, c, rfl, h.rows, h1, h2, fun h => by cases h⟩
theorem RowsB.takeN {w : World} {A : Option Addr} {ls : List (List UInt8)} (h : RowsB w A ls) (n : Nat) : RowsB w A (ls.take n) := by
  intro i hi
  have hi2 : i < ls.length := by rw [List.length_take] at hi; omega
  rw [List.getElem_take]
  exact h i hi2
theorem RowsB.dropN {w : World} {b o : Nat} {ls : List (List UInt8)} (h : RowsB w (some ⟨b, o, none⟩) ls) (n : Nat) : RowsB w (some ⟨b, o + n, none⟩) (ls.drop n) := by
  intro i hi
  rw [List.length_drop] at hi
  obtain ⟨Ai, ci, hx, hs⟩ := h.at (n + i) (by omega)
  refine ⟨_, Ai, ci, rfl, ?_, ?_⟩
  · rw [Addr.add_lit, List.getElem_drop, Nat.add_assoc]; exact hx
  · rw [List.getElem_drop]; exact hs
theorem RowsB.nilR (w : World) (A : Option Addr) : RowsB w A [] := fun i h => absurd h (by simp)
end Go.Proofs.YtibmlgkakeakcaaDoor
/- Pages: the walks of Cells, Fill. -/
set_option linter.unusedSimpArgs false
set_option linter.unusedVariables false
namespace Go.Proofs.YtibmlgkakeakcaaDoor
open Go.RowKit Go.Proofs.YtibmlgkakeakcaaDoor.Crc
theorem PgL.endAt1 {l : List UInt8} {no : Nat} {k : UInt8} {cs : List (List UInt8)} (h : PgL l no k cs) (i : Nat) (hi : i < cs.length) : endB l (i : Int) = sizC (cs.take (i + 1)) := by
  have := h.endAt (i + 1) hi
  rwa [show ((i + 1 : Nat) : Int) - 1 = (i : Int) by omega] at this
theorem sizC_take_all (cs : List (List UInt8)) (i : Nat) : sizC (cs.take i) ≤ sizC cs := by
  have h := sizC_take_le cs i (max i cs.length) (by omega)
  rwa [List.take_of_length_le (by omega : cs.length ≤ max i cs.length)] at h
set_option maxRecDepth 100000 in
set_option maxHeartbeats 1000000 in
theorem Cells_calls (b o c : Nat) (l : List UInt8) (no : Nat) (k : UInt8) (cs : List (List UInt8)) (w : World) (hb : Bytes w (some ⟨b, o, none⟩) l) (hP : PgL l no k cs) (hno : no ≤ 2147483647) (hk : k ≠ 0) (hc : 256 ≤ c) (hcm : c ≤ 9223372036854775807) :
    Calls Tryd.prog 43 #[.slice (some ⟨b, o, none⟩) 256 c] w fun e w' => ∃ v, e = .returned v ∧ OwnRL w' w.heap.size v cs ∧ Below w.heap.size w w' := by
  have hl := hP.len
  have hf : 2 * cs.length + sizC cs ≤ 244 := hP.1
  have hCn := Count_calls (some ⟨b, o, none⟩) 256 c l w hl.symm hb hc hcm (by decide)
  rw [hP.cnt hno hk] at hCn
  have hCell := fun (w' : World) (h : Bytes w' (some ⟨b, o, none⟩) l) (i : Nat) (hi : i < cs.length) => cell_calls b o 256 c l i w' hl.symm h hl hc hcm (by omega) cs.length (sizC (cs.take i)) (sizC (cs.take (i + 1))) hP.count (hP.endAt i (by omega)) (hP.endAt1 i hi) (sizC_take_le _ _ _ (by omega)) (by have := sizC_take_all cs (i + 1); omega)
  have hCa := fun (i : Nat) (hi : i < cs.length) => hP.cellAt i hi
  obtain ⟨N, hN⟩ : ∃ N, cs.length = N := ⟨_, rfl⟩
  rw [hN] at hCn hf
  have HCn := Lib.hid hCn
  have HCell := Lib.hid hCell
  have HCa := Lib.hid hCa
  have HB := Lib.hid hb
  have HN := Lib.hid hN
  have HLen := Lib.hid hl
  have HGb : Hid (∀ wr : World, Below w.heap.size w wr → w.heap.size ≤ wr.heap.size) := fun wr h => h.size
  clear hCn hCell hCa hb hP hl hN hno hk
  go_enter Tryd.func43, Tryd.ntmps43
  go_wp2_with (go_at_call 74; (with_reducible refine HCn.out.mono ?_); rintro e w2 ⟨rfl, m2, rfl⟩)
  have HI : Hid (OwnRL (w.drewN m2) w.heap.size (.slice none 0 0) (cs.take 0) ∧ Below w.heap.size w (w.drewN m2)) := ⟨OwnRL.nil _ _, kept_drewN w m2⟩
  go_loopw [3, 7] (fun v i wr => ∃ k : Nat, k ≤ N ∧ i = .int .i64 (k : Int) ∧ Hid (OwnRL wr w.heap.size v (cs.take k) ∧ Below w.heap.size w wr)) (fun _ i _ => N - (intOf i).toNat)
  case atStart => exact ⟨0, Nat.zero_le _, rfl, HI⟩
  case round =>
    obtain ⟨k, hk, rfl, HR⟩ := hrel
    by_cases hlt : k < N
    · have hkc : k < cs.length := by rw [HN.out]; exact hlt
      have HBr := Lib.hid (HB.out.below HR.out.2)
      -- the empty row, and the cell
      have hAl : Below wr.heap.size wr (wr.alloc (Obj.cells #[] 5)) := (Below.refl _ _).alloc (Nat.le_refl _) _
      have hO1 : OwnB (wr.alloc (Obj.cells #[] 5)) wr.heap.size (.slice (some ⟨wr.heap.size, 0, none⟩) 0 0) [] := OwnB.lit wr wr.heap.size (Nat.le_refl _) [] [] rfl 0 rfl (by unfold maxLen; decide)
      have HO1 := Lib.hid hO1
      have HA1 := Lib.hid hAl
      have HCe := Lib.hid (HCell.out _ (HBr.out.below hAl) k hkc)
      have hck := HCa.out k hkc
      have hst : cs.take (k + 1) = cs.take k ++ [cs[k]] := List.take_succ_eq_append_getElem hkc
      obtain ⟨ck, hcke⟩ : ∃ ck, cs[k] = ck := ⟨_, rfl⟩
      rw [hcke] at hck hst
      have HCk := Lib.hid hck
      have HSt := Lib.hid hst
      clear hAl hO1 hck hst hcke
      obtain ⟨E0, hE0⟩ : ∃ E0, sizC (cs.take k) = E0 := ⟨_, rfl⟩
      obtain ⟨E1, hE1⟩ : ∃ E1, sizC (cs.take (k + 1)) = E1 := ⟨_, rfl⟩
      have hE01 : E0 ≤ E1 := by rw [← hE0, ← hE1]; exact sizC_take_le _ _ _ (by omega)
      have hE1s : 2 * N + E1 ≤ 244 := by rw [← hE1]; have := sizC_take_all cs (k + 1); omega
      rw [hE0, hE1] at HCe HCk
      rw [HN.out] at HCe HCk
      have HE := Lib.hid (And.intro hE0 hE1)
      clear hE0 hE1 hkc
      go_wp2_with (go_at_call 75; (with_reducible refine HCe.out.mono ?_); rintro e w3 ⟨rfl, m3, rfl⟩; refine park ?_; intro q hq)
      have HA3 : Hid (Below wr.heap.size wr ((wr.alloc (Obj.cells #[] 5)).drewN m3)) := HA1.out.trans ((kept_drewN _ m3).mono HA1.out.size)
      have HO3 : Hid (OwnB ((wr.alloc (Obj.cells #[] 5)).drewN m3) wr.heap.size (.slice (some ⟨wr.heap.size, 0, none⟩) 0 0) []) := HO1.out.below (kept_drewN _ m3)
      obtain ⟨g0, hg0⟩ : ∃ g0, wr.heap.size = g0 := ⟨_, rfl⟩
      obtain ⟨w3, hw3⟩ : ∃ w3, (wr.alloc (Obj.cells #[] 5)).drewN m3 = w3 := ⟨_, rfl⟩
      rw [hw3] at HA3 HO3 hq
      refine hq.out ?_
      clear hq
      go_wp2_with (with_reducible refine park_append ?_; intro q hq)
      refine hq.out ?_
      clear hq
      have hsl : ((l.drop (8 + 2 * N + E0)).take (E1 - E0)).length = E1 - E0 := by rw [List.length_take, List.length_drop, HLen.out]; omega
      refine wpList_append_bytes rfl _ _ rfl g0 _ [] rfl (by rw [← hg0]; exact HO3.out) (some ⟨b, o + (8 + 2 * N + E0), none⟩) (E1 - E0) (c - (8 + 2 * N + E0)) ck rfl (by rw [← HCk.out]; exact hsl.symm) (fun h => by cases h) (by rw [← HCk.out]; exact ((HBr.out.below HA3.out).drop _).take _) (by rw [← HCk.out, hsl]; simp; omega) (by rw [← hg0]; exact HA3.out.size) ?_
      intro v4 w4 hO4 hg4 hn4
      have hB4 : Below wr.heap.size wr w4 := HA3.out.grown hg4 HA3.out.size (fun k hk => by cases hk; exact Nat.le_refl _)
      obtain ⟨g4, c4, rfl⟩ : ∃ g4 c4, v4 = .slice (some ⟨g4, 0, none⟩) ck.length c4 := by
        rcases hO4.form with ⟨h, _⟩ | ⟨g, c', h, _⟩
        · have := (hn4.1 h).1; cases this
        · exact ⟨g, c', h⟩
      have HG0 : Hid (w.heap.size ≤ g0) := by show _ ≤ _; rw [← hg0]; exact HR.out.2.size
      have HB4 := Lib.hid hB4
      have HO4 := Lib.hid hO4
      obtain ⟨mk, hmk⟩ : ∃ mk, ck.length = mk := ⟨_, rfl⟩
      rw [hmk] at HO4 ⊢
      clear hg0 hw3 hO4 hg4 hn4 hB4 hsl hmk HCk HE
      go_wp2_with (with_reducible refine park_append ?_; intro q hq)
      refine hq.out ?_
      clear hq
      have hAl : Below w4.heap.size w4 (w4.alloc (Obj.cells #[.slice (some ⟨g4, 0, none⟩) mk c4] 30)) := (Below.refl _ _).alloc (Nat.le_refl _) _
      have hB5 : Below wr.heap.size wr (w4.alloc (Obj.cells #[.slice (some ⟨g4, 0, none⟩) mk c4] 30)) := HB4.out.trans (hAl.mono HB4.out.size)
      refine wpList_append_row rfl _ _ rfl w.heap.size _ (cs.take k) rfl (HR.out.1.below hB5) ⟨w4.heap.size, 0, none⟩ 1 (some ⟨g4, 0, none⟩) mk c4 ck rfl ?_ ((HO4.out.below hAl).base HG0.out) (by rw [List.length_take]; omega) (HR.out.2.trans (hB5.mono HR.out.2.size)).size ?_
      · rw [Addr.add_lit, cell_of_row _ _ _ _ _ _ (heap_alloc_new w4 _)]; rfl
      intro v6 w6 H6
      have HF : Hid (OwnRL w6 w.heap.size v6 (cs.take (k + 1)) ∧ Below w.heap.size w w6) := by
        refine ⟨by rw [HSt.out]; exact H6.out.1, (HR.out.2.trans (hB5.mono HR.out.2.size)).grown H6.out.2 (HR.out.2.trans (hB5.mono HR.out.2.size)).size (fun g hg => ?_)⟩
        obtain ⟨vs, h1, _⟩ := HR.out.1
        exact (World.ownsRow.lt h1 g hg).1
      clear hAl hB5 H6
      go_wp2_with fail
      go_roundw
      case rel => exact ⟨k + 1, by omega, by go_num, HF⟩
      case measure => simp [intOf]; omega
    · obtain rfl : k = N := by omega
      have HT : Hid (cs.take k = cs) := List.take_of_length_le (by rw [HN.out]; exact Nat.le_refl _)
      go_wp2_with fail
      go_ret
      exact ⟨_, rfl, by have := HR.out.1; rwa [HT.out] at this, HR.out.2⟩
/-- What Fill tells. -/
def fillP (no : Int) (k : UInt8) (ls : List (List UInt8)) : List UInt8 × Int := if no < 0 ∨ 2147483647 < no ∨ k = 0 then ([], 2) else if 2 * ls.length + sizC ls ≤ 244 then (pageB no.toNat k ls, 0) else ([], 32)
def FillI (w0 : World) (no : Int) (k : UInt8) (ls : List (List UInt8)) (j : Nat) (p e : Value) (wr : World) : Prop :=
  Below w0.heap.size w0 wr ∧ ((e = .int .i64 0 ∧ (0 ≤ no ∧ no ≤ 2147483647 ∧ k ≠ 0) ∧ fitC (ls.take j) ∧ ∃ g, w0.heap.size ≤ g ∧ p = .slice (some ⟨g, 0, none⟩) 256 256 ∧ BlkB wr g 5 (pageB no.toNat k (ls.take j))) ∨
    (∃ er : Int, er ≠ 0 ∧ e = .int .i64 er ∧ p = .slice none 0 0 ∧ fillP no k ls = ([], er)))
theorem bad_not {no : Int} {k : UInt8} (hg : 0 ≤ no ∧ no ≤ 2147483647 ∧ k ≠ 0) : ¬ (no < 0 ∨ 2147483647 < no ∨ k = 0) := by
  rintro (h | h | h)
  · omega
  · omega
  · exact hg.2.2 h
theorem fillP_room (no : Int) (k : UInt8) (ls : List (List UInt8)) (hg : 0 ≤ no ∧ no ≤ 2147483647 ∧ k ≠ 0) (j : Nat) (hj : j < ls.length) (h : 244 < 2 * j + sizC (ls.take j) + 2 + ls[j].length) : fillP no k ls = ([], 32) := by
  unfold fillP
  rw [if_neg (bad_not hg), if_neg]
  have h1 := sizC_take_all ls (j + 1)
  rw [List.take_succ_eq_append_getElem hj, sizC_append, sizC_cons, sizC_nil] at h1
  omega
set_option maxRecDepth 100000 in
set_option maxHeartbeats 1000000 in
theorem Fill_calls (no : Int) (k : UInt8) (A : Option Addr) (n c : Nat) (ls : List (List UInt8)) (w : World) (hn : n = ls.length) (hR : RowsB w A ls) (hm : n ≤ 9223372036854775807) :
    Calls Tryd.prog 32 #[.int .i64 no, .int .u8 (k.toNat : Int), .slice A n c] w (RetBN w (fillP no k ls).1 (fillP no k ls).2) := by
  have HN := Lib.hid hn
  have HR := Lib.hid hR
  have hNew : Calls Tryd.prog 64 #[.int .i64 no, .int .u8 (k.toNat : Int)] w fun e w' => ∃ p er, e = .returned (.tuple #[p, .int .i64 er]) ∧ Hid (FillI w no k ls 0 p (.int .i64 er) w') := by
    by_cases hb : no < 0 ∨ 2147483647 < no ∨ k = 0
    · refine (New_bad no k w hb).mono ?_
      rintro e w' ⟨rfl, rfl⟩
      exact ⟨_, 2, rfl, Below.refl _ _, .inr ⟨2, by decide, rfl, rfl, by unfold fillP; rw [if_pos hb]⟩⟩
    · have h1 : 0 ≤ no := by omega
      have h2 : no ≤ 2147483647 := by omega
      have h3 : ¬ k = 0 := fun h => hb (.inr (.inr h))
      obtain ⟨m, rfl⟩ := Int.eq_ofNat_of_zero_le h1
      refine (New_calls m k w (by omega) h3).mono ?_
      rintro e w' ⟨r, rfl, hr, hA, hb'⟩
      refine ⟨_, 0, rfl, hb', .inl ⟨rfl, ⟨h1, h2, h3⟩, fit_nil, r, hr, rfl, ?_⟩⟩
      rw [newB_page] at hA
      exact hA
  have HNew := Lib.hid hNew
  clear hn hR hNew
  go_enter Tryd.func32, Tryd.ntmps32
  go_wp2_with (go_at_call 64; (with_reducible refine HNew.out.mono ?_); rintro e w1 ⟨p, er, rfl, HI⟩)
  go_loopw [8, 9, 20] (fun p e i wr => ∃ j : Nat, j ≤ n ∧ i = .int .i64 (j : Int) ∧ Hid (FillI w no k ls j p e wr)) (fun _ _ i _ => n - (intOf i).toNat)
  case atStart => exact ⟨0, Nat.zero_le _, rfl, HI⟩
  case round =>
    obtain ⟨j, hj, rfl, HI2⟩ := hrel
    by_cases hlt : j < n
    · obtain ⟨b, o, rfl⟩ := HR.out.spot (by rw [← HN.out]; omega)
      obtain ⟨Ai, ci, hc, hs⟩ := (HR.out.below HI2.out.1).at j (by rw [← HN.out]; exact hlt)
      have hjl : j < ls.length := by rw [← HN.out]; exact hlt
      have hst : ls.take (j + 1) = ls.take j ++ [ls[j]] := List.take_succ_eq_append_getElem hjl
      have hroom := fun hg => fillP_room no k ls hg j hjl
      obtain ⟨bl, hbl⟩ : ∃ bl, ls[j] = bl := ⟨_, rfl⟩
      rw [hbl] at hc hs hst hroom
      have HRoom := Lib.hid hroom
      have HSt := Lib.hid hst
      have HS := Lib.hid hs
      obtain ⟨m, hm2⟩ : ∃ m, bl.length = m := ⟨_, rfl⟩
      rw [hm2] at hc HS
      have HM := Lib.hid hm2
      have HJ : Hid ((ls.take j).length = j) := by show _ = _; rw [List.length_take]; omega
      clear hjl hst hbl hs hroom hm2
      rcases HI2.out.2 with ⟨rfl, hg, hf, g, hgw, rfl, hA⟩ | ⟨er, her, rfl, rfl, hfp⟩
      · have hP := pgl_page no.toNat k (ls.take j) hf
        have hf' : 2 * (ls.take j).length + sizC (ls.take j) ≤ 244 := hf
        by_cases hroom : 2 * (ls.take j).length + sizC (ls.take j) + 2 + bl.length ≤ 244
        · have hfit : fitC (ls.take j ++ [bl]) := by unfold fitC; rw [List.length_append, sizC_append, sizC_cons, sizC_nil, List.length_singleton]; omega
          have hin := Insert_calls (some ⟨g, 0, none⟩) 256 _ no.toNat k (ls.take j) [] Ai m ci bl wr hA.bytes (by rw [List.append_nil]; exact hP) (by omega) hg.2.2 (Nat.le_refl _) (by decide) HM.out.symm HS.out.2.1 hfit
          rw [HJ.out] at hin
          have HIn := Lib.hid hin
          have HG := Lib.hid hg
          have HFit := Lib.hid hfit
          clear hg hf hf' hP hA hroom hfit hin
          go_wp2_with (go_at_call 65; (with_reducible refine HIn.out.mono ?_); rintro e w3 ⟨g3, rfl, hr3, hA3, hb3⟩)
          have HF : Hid (FillI w no k ls (j + 1) (.slice (some ⟨g3, 0, none⟩) 256 256) (.int .i64 0) w3) := by
            refine ⟨HI2.out.1.trans (hb3.mono HI2.out.1.size), .inl ⟨rfl, HG.out, by rw [HSt.out]; exact HFit.out, g3, Nat.le_trans HI2.out.1.size hr3, rfl, by rw [HSt.out]; exact hA3⟩⟩
          go_roundw
          case rel => exact ⟨j + 1, by omega, by go_num, HF⟩
          case measure => simp [intOf]; omega
        · have hin := Insert_room (some ⟨g, 0, none⟩) 256 _ no.toNat k (ls.take j) j Ai m ci wr hA.bytes hP (by omega) hg.2.2 (Nat.le_refl _) (by decide) (by rw [HJ.out]; exact Nat.le_refl _) (by have := HS.out.2.2.1; have := HS.out.2.2.2.1; omega) (by rw [← HM.out]; omega)
          have HIn := Lib.hid hin
          have HFp := Lib.hid (HRoom.out hg (by rw [HJ.out] at hroom; omega))
          clear hg hf hf' hP hA hroom hin
          go_wp2_with (go_at_call 65; (with_reducible refine HIn.out.mono ?_); rintro e w3 ⟨rfl, hb3⟩)
          have HF : Hid (FillI w no k ls (j + 1) (.slice none 0 0) (.int .i64 32) w3) :=
            ⟨HI2.out.1.trans (hb3.mono HI2.out.1.size), .inr ⟨32, by decide, rfl, rfl, HFp.out⟩⟩
          go_roundw
          case rel => exact ⟨j + 1, by omega, by go_num, HF⟩
          case measure => simp [intOf]; omega
      · have d1 : (er == 0) = false := by simpa using her
        have HF : Hid (FillI w no k ls (j + 1) (.slice none 0 0) (.int .i64 er) wr) := ⟨HI2.out.1, .inr ⟨er, her, rfl, rfl, hfp⟩⟩
        clear her hfp
        go_wp2_with fail
        go_roundw
        case rel => exact ⟨j + 1, by omega, by go_num, HF⟩
        case measure => simp [intOf]; omega
    · obtain rfl : j = n := by omega
      have HT : Hid (ls.take j = ls) := List.take_of_length_le (by rw [HN.out]; exact Nat.le_refl _)
      rcases HI2.out.2 with ⟨rfl, hg, hf, g, hgw, rfl, hA⟩ | ⟨er, her, rfl, rfl, hfp⟩
      · have HG := Lib.hid hg
        have HF := Lib.hid hf
        have HA := Lib.hid hA
        have HGw := Lib.hid hgw
        clear hg hf hA hgw
        go_wp2_with fail
        go_ret2
        have hf := HF.out
        have hA := HA.out
        rw [HT.out] at hf hA
        have hfp : fillP no k ls = (pageB no.toNat k ls, 0) := by
          unfold fillP
          have := HG.out
          rw [if_neg (bad_not this), if_pos (show 2 * ls.length + sizC ls ≤ 244 from hf)]
        rw [hfp]
        exact RetBN.mk (OwnB.of_blk hA (pageB_length _ _ _ hf) HGw.out) HI2.out.1
      · have d1 : (er != 0) = true := by simpa using her
        have HFp := Lib.hid hfp
        clear her hfp
        go_wp2_with fail
        go_ret2
        rw [HFp.out]
        exact RetBN.mk (World.ownsRow_nil _ _ _ _) HI2.out.1
end Go.Proofs.YtibmlgkakeakcaaDoor
/- The walks of codec: numbers of whatever size. -/
set_option linter.unusedSimpArgs false
set_option linter.unusedVariables false
namespace Go.Proofs.YtibmlgkakeakcaaDoor
open Go.RowKit Go.Proofs.YtibmlgkakeakcaaDoor.Crc
/-- A number of whatever size, put: seven bits a byte, the lowest ahead. -/
def putU (n : Nat) : List UInt8 := if h : n < 128 then [UInt8.ofNat n] else UInt8.ofNat (n % 128 + 128) :: putU (n / 128)
termination_by n
decreasing_by omega
theorem putU_small (n : Nat) (h : n < 128) : putU n = [UInt8.ofNat n] := by rw [putU, dif_pos h]
theorem putU_big (n : Nat) (h : ¬ n < 128) : putU n = UInt8.ofNat (n % 128 + 128) :: putU (n / 128) := by rw [putU, dif_neg h]
theorem putU_len (k n : Nat) (h : n < 128 ^ (k + 1)) : (putU n).length ≤ k + 1 := by
  induction k generalizing n with
  | zero => rw [putU_small n (by simpa using h)]; simp
  | succ k ih =>
    by_cases hn : n < 128
    · rw [putU_small n hn]; simp
    · rw [putU_big n hn, List.length_cons]
      have := ih (n / 128) (by rw [Nat.pow_succ] at h; exact Nat.div_lt_of_lt_mul (by rw [Nat.mul_comm]; exact h))
      omega
theorem putU_len10 (n : Nat) (h : n < 18446744073709551616) : (putU n).length ≤ 10 := putU_len 9 n (by rw [show (128 : Nat) ^ (9 + 1) = 1180591620717411303424 from by decide]; omega)
theorem putU_pos (n : Nat) : 0 < (putU n).length := by
  by_cases hn : n < 128
  · rw [putU_small n hn]; simp
  · rw [putU_big n hn]; simp
theorem or128 (x : Nat) (h : x < 256) : bits .or .u8 (x : Int) 128 = ((UInt8.ofNat (x % 128 + 128)).toNat : Int) := by
  have : ∀ x : Nat, x < 256 → bits .or .u8 (x : Int) 128 = ((UInt8.ofNat (x % 128 + 128)).toNat : Int) := by decide +kernel
  exact this x h
theorem and127 (x : UInt8) : bits .and .u8 (x.toNat : Int) 127 = ((x.toNat % 128 : Nat) : Int) := by
  have : ∀ x : Nat, x < 256 → bits .and .u8 (x : Int) 127 = ((x % 128 : Nat) : Int) := by decide +kernel
  exact this x.toNat x.toNat_lt
set_option maxRecDepth 10000 in
set_option maxHeartbeats 1000000 in
theorem PutUint_calls (base : Nat) (v : Value) (acc : List UInt8) (n : Nat) (w : World) (hv : OwnB w base v acc) (hbase : base ≤ w.heap.size) (hacc : acc.length ≤ 1000000) (hn : n < 18446744073709551616) :
    Calls Tryd.prog 86 #[v, .int .u64 (n : Int)] w fun e w' => ∃ v', e = .returned v' ∧ OwnB w' base v' (acc ++ putU n) ∧ Below base w w' := by
  have HL := Lib.hid (show (acc ++ putU n).length ≤ 1000010 by have := putU_len10 n hn; rw [List.length_append]; omega)
  have H0 := Lib.hid hv
  have HS := Lib.hid hbase
  clear hv hbase hacc
  go_enter Tryd.func86, Tryd.ntmps86
  go_wp2_with fail
  go_loopw [0, 1] (fun u i wr => ∃ (m : Nat) (ac : List UInt8), m < 18446744073709551616 ∧ i = .int .u64 (m : Int) ∧ Hid (ac ++ putU m = acc ++ putU n ∧ OwnB wr base u ac ∧ Below base w wr)) (fun _ i _ => (intOf i).toNat)
  case atStart => exact ⟨n, acc, hn, rfl, rfl, H0.out, Below.refl _ _⟩
  case round =>
    obtain ⟨m, ac, hm, rfl, HR⟩ := hrel
    have hl1 : Hid (ac.length + 1 ≤ 1000010) := Lib.hid (by have h1 := congrArg List.length HR.out.1; have h2 := HL.out; have h3 := putU_pos m; rw [List.length_append] at h1; omega)
    by_cases h0 : m < 128
    · have hb8 := Lib.hid (show (m : Int) = ((UInt8.ofNat m).toNat : Int) by simp; omega)
      go_wp2_with (with_reducible refine park_append ?_; intro q hq)
      refine hq.out ?_
      clear hq
      have hby : Bytes (wr.alloc (Obj.cells #[Value.int IntKind.u8 (m : Int)] 5)) (some ⟨wr.heap.size, 0, none⟩) [UInt8.ofNat m] := bytes_of_block (heap_alloc_new wr _) (by rw [hb8.out]; rfl)
      refine wpList_append_bytes rfl _ _ rfl base u0 ac rfl (HR.out.2.1.alloc _) (some ⟨wr.heap.size, 0, none⟩) 1 1 [UInt8.ofNat m] rfl rfl (fun h => by cases h) hby (by have := hl1.out; simp; omega) (by have h1 := HR.out.2.2.size; have h2 := HS.out; simp; omega) ?_
      intro v2 w2 hown2 hg2 _
      have HN : Hid (OwnB w2 base v2 (acc ++ putU n) ∧ Below base w w2) :=
        ⟨by rw [← HR.out.1, putU_small m h0]; exact hown2, (HR.out.2.2.alloc (Nat.le_trans HS.out HR.out.2.2.size) _).grown hg2 (by have h1 := HR.out.2.2.size; have h2 := HS.out; simp; omega) (fun j hj => (HR.out.2.1.lt j hj).1)⟩
      clear hown2 hg2 HR hby
      go_wp2
      go_ret
      exact ⟨v2, rfl, HN.out.1, HN.out.2⟩
    · have h128 := Lib.hid (show bits .or .u8 ((m : Int) % 256) 128 = ((UInt8.ofNat (m % 128 + 128)).toNat : Int) by
        rw [show (m : Int) % 256 = ((m % 256 : Nat) : Int) by omega, or128 (m % 256) (Nat.mod_lt _ (by decide))]
        congr 3; omega)
      have hsh := Lib.hid (show (m : Int) / 128 = ((m / 128 : Nat) : Int) by omega)
      go_wp2_with (with_reducible refine park_append ?_; intro q hq)
      refine hq.out ?_
      clear hq
      rw [h128.out]
      refine wpList_append_bytes rfl _ _ rfl base u0 ac rfl (HR.out.2.1.alloc _) (some ⟨wr.heap.size, 0, none⟩) 1 1 [UInt8.ofNat (m % 128 + 128)] rfl rfl (fun h => by cases h) (bytes_of_block (heap_alloc_new wr _) rfl) (by have := hl1.out; simp; omega) (by have h1 := HR.out.2.2.size; have h2 := HS.out; simp; omega) ?_
      intro v2 w2 hown2 hg2 _
      have HN : Hid ((ac ++ [UInt8.ofNat (m % 128 + 128)]) ++ putU (m / 128) = acc ++ putU n ∧ OwnB w2 base v2 (ac ++ [UInt8.ofNat (m % 128 + 128)]) ∧ Below base w w2) :=
        ⟨by rw [← HR.out.1, putU_big m h0, List.append_assoc]; rfl, hown2, (HR.out.2.2.alloc (Nat.le_trans HS.out HR.out.2.2.size) _).grown hg2 (by have h1 := HR.out.2.2.size; have h2 := HS.out; simp; omega) (fun j hj => (HR.out.2.1.lt j hj).1)⟩
      clear hown2 hg2 HR h128
      go_wp2
      go_roundw
      case rel => exact ⟨m / 128, _, by omega, by rw [← hsh.out], HN⟩
      case measure => simp [intOf]; omega
end Go.Proofs.YtibmlgkakeakcaaDoor
/- The walks of codec: the reader of numbers of whatever size. -/
set_option linter.unusedSimpArgs false
set_option linter.unusedVariables false
namespace Go.Proofs.YtibmlgkakeakcaaDoor
open Go.RowKit Go.Proofs.YtibmlgkakeakcaaDoor.Crc
theorem pow128 (i : Nat) : 128 ^ i = 2 ^ (7 * i) := by rw [Nat.pow_mul]
theorem or_num (N i : Nat) (c : UInt8) (L : Int) (hL : L = ((128 ^ i : Nat) : Int)) (hN : N < 18446744073709551616) (hc : N / 128 ^ i % 128 = c.toNat % 128) :
    bits .or .u64 ((N : Int) % L) (IntKind.u64.wrap (IntKind.u64.wrap (bits .and .u8 (c.toNat : Int) 127) * L)) = ((N % 128 ^ (i + 1) : Nat) : Int) := by
  subst hL
  obtain ⟨P, hP⟩ : ∃ P, 128 ^ i = P := ⟨_, rfl⟩
  have hP2 : P = 2 ^ (7 * i) := by rw [← hP, pow128]
  rw [Nat.pow_succ, Nat.mod_mul, hP]
  rw [hP] at hc
  clear hP
  have hc' := c.toNat_lt
  have hpos : 0 < P := by rw [hP2]; exact Nat.two_pow_pos _
  rw [and127, ← hc]
  obtain ⟨C, hC⟩ : ∃ C, N / P % 128 = C := ⟨_, rfl⟩
  rw [hC]
  have hCP : P * C ≤ N := by
    have h1 : C ≤ N / P := by rw [← hC]; exact Nat.mod_le _ _
    calc P * C ≤ P * (N / P) := Nat.mul_le_mul_left _ h1
      _ ≤ N := Nat.mul_div_le _ _
  have e1 : IntKind.u64.wrap (C : Int) = (C : Int) := by
    have : C < 128 := by rw [← hC]; exact Nat.mod_lt _ (by decide)
    simp only [IntKind.wrap, IntKind.bits, IntKind.signed]; simp; omega
  have e2 : IntKind.u64.wrap ((C : Int) * (P : Int)) = ((P * C : Nat) : Int) := by
    rw [show (C : Int) * (P : Int) = ((P * C : Nat) : Int) by push_cast; exact Int.mul_comm _ _]
    obtain ⟨D, hD⟩ : ∃ D, P * C = D := ⟨_, rfl⟩
    rw [hD] at hCP ⊢
    simp only [IntKind.wrap, IntKind.bits, IntKind.signed]; simp; omega
  have hm : N % P < P := Nat.mod_lt _ hpos
  have hm2 : N % P ≤ N := Nat.mod_le _ _
  rw [e1, e2, show (N : Int) % (P : Int) = ((N % P : Nat) : Int) by push_cast; rfl, u64_or_nat _ _ (by omega) (by omega)]
  rw [hP2] at hm ⊢
  have := Nat.two_pow_add_eq_or_of_lt hm C
  rw [Nat.or_comm, ← this, Nat.add_comm]
set_option maxRecDepth 10000 in
set_option maxHeartbeats 4000000 in
theorem number_calls {D : Nat → Prop} {w : World} {r N : Nat} {rest : List UInt8} (hN : N < 18446744073709551616) (h : RdLB D w r (putU N ++ rest)) :
    Calls Tryd.prog 96 #[.pointer (some ⟨r, 0, none⟩)] w fun e w' => e = .returned (.tuple #[.int .u64 (N : Int), .bool true]) ∧ RdLB D w' r rest ∧ Kept (· = r) w w' := by
  have H := Lib.hid h
  clear h
  go_enter Tryd.func96, Tryd.ntmps96
  go_wp2_with fail
  go_step3
  go_wp2_with fail
  go_loopw [2, 5] (fun v k wr => ∃ i : Nat, i < 10 ∧ v = .int .u64 ((N % 128 ^ i : Nat) : Int) ∧ k = .int .i64 (i : Int) ∧ Hid (RdLB D wr r (putU (N / 128 ^ i) ++ rest) ∧ Kept (· = r) w wr ∧ (i = 0 ∨ N / 128 ^ i ≠ 0))) (fun _ k _ => (10 - intOf k).toNat)
  case atStart => exact ⟨0, by omega, by rw [Nat.pow_zero, Nat.mod_one]; rfl, rfl, by rw [Nat.pow_zero, Nat.div_one]; exact H.out, Kept.refl _ _, Or.inl rfl⟩
  case round =>
    obtain ⟨i, hi, rfl, rfl, HR⟩ := hrel
    obtain ⟨M, hM⟩ : ∃ M, N / 128 ^ i = M := ⟨_, rfl⟩
    rw [hM] at HR
    have HT := Lib.hid (take_calls HR.out.1 1 (by have := putU_pos M; rw [List.length_append]; omega))
    have HM := Lib.hid hM
    clear hM
    by_cases hs : M < 128
    · obtain ⟨c, hc⟩ : ∃ c : UInt8, UInt8.ofNat M = c := ⟨_, rfl⟩
      have hcM := Lib.hid (show c.toNat = M by rw [← hc]; simp; omega)
      have HP := Lib.hid (show (putU M ++ rest).take 1 = [c] ∧ (putU M ++ rest).drop 1 = rest by rw [putU_small M hs, hc]; exact ⟨rfl, rfl⟩)
      clear hc
      go_wp2_with (go_at_call 78; refine HT.out.mono ?_; rintro e w2 ⟨A2, c2, rfl, hb2, hr2, hk2⟩; refine park ?_; intro q hq)
      refine hq.out ?_
      clear hq
      rw [HP.out.1] at hb2
      rw [HP.out.2] at hr2
      have HR2 := Lib.hid hr2
      have HK2 := Lib.hid (HR.out.2.1.trans hk2)
      obtain ⟨ad, hA, hx⟩ := hb2 0 (by simp)
      clear hr2 hk2 HT hb2
      subst hA
      have hx0 : w2.cell? ad = some (.int .u8 (c.toNat : Int)) := hx
      clear hx
      have hlt : decide ((c.toNat : Int) < 128) = true := by have := hcM.out; simp; omega
      have HO := Lib.hid (fun L hL => or_num N i c L hL hN (by rw [HM.out, hcM.out]))
      have HF := Lib.hid (show N % 128 ^ (i + 1) = N by
        refine Nat.mod_eq_of_lt ?_
        have h1 := HM.out
        rw [Nat.pow_succ]
        have := Nat.lt_mul_div_succ N (Nat.two_pow_pos (7 * i))
        rw [← pow128, h1] at this
        exact Nat.lt_of_lt_of_le this (Nat.mul_le_mul_left _ (by omega)))
      have hbig := Lib.hid (show i = 9 → M ≤ 1 by
        intro e
        subst e
        have h1 := HM.out
        have h2 : M < 2 := by
          rw [← h1]
          exact Nat.div_lt_of_lt_mul hN
        omega)
      have hnz := Lib.hid HR.out.2.2
      clear HR HP
      by_cases h0 : i = 0
      · subst h0
        clear hs hbig hnz
        go_wp2_with fail
        rw [Exit.noGoto_ret]
        go_ret2
        refine ⟨?_, HR2.out, HK2.out⟩
        refine congrArg (fun x => Ending.returned (.tuple #[.int .u64 x, .bool true])) ?_
        have ho := HO.out 1 rfl
        rw [HF.out, Int.emod_one, Int.mul_one] at ho
        exact ho
      by_cases h1 : i = 1
      · subst h1
        have hc0 : ((c.toNat : Int) == 0) = false := by have h1 := hcM.out; have h2 := hnz.out; simp; omega
        clear hs hbig hnz
        go_wp2_with fail
        rw [Exit.noGoto_ret]
        go_ret2
        refine ⟨?_, HR2.out, HK2.out⟩
        refine congrArg (fun x => Ending.returned (.tuple #[.int .u64 x, .bool true])) ?_
        have ho := HO.out _ rfl
        rw [HF.out] at ho
        exact ho
      by_cases h2 : i = 2
      · subst h2
        have hc0 : ((c.toNat : Int) == 0) = false := by have h1 := hcM.out; have h2 := hnz.out; simp; omega
        clear hs hbig hnz
        go_wp2_with fail
        rw [Exit.noGoto_ret]
        go_ret2
        refine ⟨?_, HR2.out, HK2.out⟩
        refine congrArg (fun x => Ending.returned (.tuple #[.int .u64 x, .bool true])) ?_
        have ho := HO.out _ rfl
        rw [HF.out] at ho
        exact ho
      by_cases h3 : i = 3
      · subst h3
        have hc0 : ((c.toNat : Int) == 0) = false := by have h1 := hcM.out; have h2 := hnz.out; simp; omega
        clear hs hbig hnz
        go_wp2_with fail
        rw [Exit.noGoto_ret]
        go_ret2
        refine ⟨?_, HR2.out, HK2.out⟩
        refine congrArg (fun x => Ending.returned (.tuple #[.int .u64 x, .bool true])) ?_
        have ho := HO.out _ rfl
        rw [HF.out] at ho
        exact ho
      by_cases h4 : i = 4
      · subst h4
        have hc0 : ((c.toNat : Int) == 0) = false := by have h1 := hcM.out; have h2 := hnz.out; simp; omega
        clear hs hbig hnz
        go_wp2_with fail
        rw [Exit.noGoto_ret]
        go_ret2
        refine ⟨?_, HR2.out, HK2.out⟩
        refine congrArg (fun x => Ending.returned (.tuple #[.int .u64 x, .bool true])) ?_
        have ho := HO.out _ rfl
        rw [HF.out] at ho
        exact ho
      by_cases h5 : i = 5
      · subst h5
        have hc0 : ((c.toNat : Int) == 0) = false := by have h1 := hcM.out; have h2 := hnz.out; simp; omega
        clear hs hbig hnz
        go_wp2_with fail
        rw [Exit.noGoto_ret]
        go_ret2
        refine ⟨?_, HR2.out, HK2.out⟩
        refine congrArg (fun x => Ending.returned (.tuple #[.int .u64 x, .bool true])) ?_
        have ho := HO.out _ rfl
        rw [HF.out] at ho
        exact ho
      by_cases h6 : i = 6
      · subst h6
        have hc0 : ((c.toNat : Int) == 0) = false := by have h1 := hcM.out; have h2 := hnz.out; simp; omega
        clear hs hbig hnz
        go_wp2_with fail
        rw [Exit.noGoto_ret]
        go_ret2
        refine ⟨?_, HR2.out, HK2.out⟩
        refine congrArg (fun x => Ending.returned (.tuple #[.int .u64 x, .bool true])) ?_
        have ho := HO.out _ rfl
        rw [HF.out] at ho
        exact ho
      by_cases h7 : i = 7
      · subst h7
        have hc0 : ((c.toNat : Int) == 0) = false := by have h1 := hcM.out; have h2 := hnz.out; simp; omega
        clear hs hbig hnz
        go_wp2_with fail
        rw [Exit.noGoto_ret]
        go_ret2
        refine ⟨?_, HR2.out, HK2.out⟩
        refine congrArg (fun x => Ending.returned (.tuple #[.int .u64 x, .bool true])) ?_
        have ho := HO.out _ rfl
        rw [HF.out] at ho
        exact ho
      by_cases h8 : i = 8
      · subst h8
        have hc0 : ((c.toNat : Int) == 0) = false := by have h1 := hcM.out; have h2 := hnz.out; simp; omega
        clear hs hbig hnz
        go_wp2_with fail
        rw [Exit.noGoto_ret]
        go_ret2
        refine ⟨?_, HR2.out, HK2.out⟩
        refine congrArg (fun x => Ending.returned (.tuple #[.int .u64 x, .bool true])) ?_
        have ho := HO.out _ rfl
        rw [HF.out] at ho
        exact ho
      by_cases h9 : i = 9
      · subst h9
        have hc1 : decide ((c.toNat : Int) > 1) = false := by have h1 := hcM.out; have h2 := hbig.out rfl; simp; omega
        have hc0 : ((c.toNat : Int) == 0) = false := by have h1 := hcM.out; have h2 := hnz.out; simp; omega
        clear hs hbig hnz
        go_wp2_with fail
        rw [Exit.noGoto_ret]
        go_ret2
        refine ⟨?_, HR2.out, HK2.out⟩
        refine congrArg (fun x => Ending.returned (.tuple #[.int .u64 x, .bool true])) ?_
        have ho := HO.out _ rfl
        rw [HF.out] at ho
        exact ho
      exact absurd hi (by omega)
    · obtain ⟨c, hc⟩ : ∃ c : UInt8, UInt8.ofNat (M % 128 + 128) = c := ⟨_, rfl⟩
      have hcM := Lib.hid (show c.toNat = M % 128 + 128 by rw [← hc]; simp; omega)
      have HP := Lib.hid (show (putU M ++ rest).take 1 = [c] ∧ (putU M ++ rest).drop 1 = putU (M / 128) ++ rest by rw [putU_big M hs, hc]; exact ⟨rfl, rfl⟩)
      clear hc
      go_wp2_with (go_at_call 78; refine HT.out.mono ?_; rintro e w2 ⟨A2, c2, rfl, hb2, hr2, hk2⟩; refine park ?_; intro q hq)
      refine hq.out ?_
      clear hq
      rw [HP.out.1] at hb2
      rw [HP.out.2] at hr2
      have HR2 := Lib.hid hr2
      have HK2 := Lib.hid (HR.out.2.1.trans hk2)
      obtain ⟨ad, hA, hx⟩ := hb2 0 (by simp)
      clear hr2 hk2 HT hb2
      subst hA
      have hx0 : w2.cell? ad = some (.int .u8 (c.toNat : Int)) := hx
      clear hx
      have hlt : decide ((c.toNat : Int) < 128) = false := by have := hcM.out; simp; omega
      have hc0 : ((c.toNat : Int) == 0) = false := by have h1 := hcM.out; simp; omega
      have HO := Lib.hid (fun L hL => or_num N i c L hL hN (by rw [HM.out, hcM.out]; omega))
      have hi9 := Lib.hid (show i < 9 by
        refine Nat.lt_of_not_le (fun e => ?_)
        obtain rfl : i = 9 := by omega
        have h1 := HM.out
        have h2 : M < 2 := by
          rw [← h1]
          exact Nat.div_lt_of_lt_mul hN
        omega)
      have HD := Lib.hid (show N / 128 ^ (i + 1) = M / 128 by rw [Nat.pow_succ, ← Nat.div_div_eq_div_mul, HM.out])
      have HZ := Lib.hid (show M / 128 ≠ 0 by omega)
      clear HR HP
      by_cases h0 : i = 0
      · subst h0
        clear hs
        go_wp2_with fail
        have ho := HO.out 1 rfl
        rw [Int.emod_one, Int.mul_one] at ho
        go_roundw
        case rel => exact ⟨1, by omega, congrArg (Value.int .u64) ho, rfl, by rw [HD.out]; exact HR2.out, HK2.out, Or.inr (by rw [HD.out]; exact HZ.out)⟩
        case measure => simp [intOf]
      by_cases h1 : i = 1
      · subst h1
        clear hs
        go_wp2_with fail
        have ho := HO.out _ rfl
        go_roundw
        case rel => exact ⟨2, by omega, congrArg (Value.int .u64) ho, rfl, by rw [HD.out]; exact HR2.out, HK2.out, Or.inr (by rw [HD.out]; exact HZ.out)⟩
        case measure => simp [intOf]
      by_cases h2 : i = 2
      · subst h2
        clear hs
        go_wp2_with fail
        have ho := HO.out _ rfl
        go_roundw
        case rel => exact ⟨3, by omega, congrArg (Value.int .u64) ho, rfl, by rw [HD.out]; exact HR2.out, HK2.out, Or.inr (by rw [HD.out]; exact HZ.out)⟩
        case measure => simp [intOf]
      by_cases h3 : i = 3
      · subst h3
        clear hs
        go_wp2_with fail
        have ho := HO.out _ rfl
        go_roundw
        case rel => exact ⟨4, by omega, congrArg (Value.int .u64) ho, rfl, by rw [HD.out]; exact HR2.out, HK2.out, Or.inr (by rw [HD.out]; exact HZ.out)⟩
        case measure => simp [intOf]
      by_cases h4 : i = 4
      · subst h4
        clear hs
        go_wp2_with fail
        have ho := HO.out _ rfl
        go_roundw
        case rel => exact ⟨5, by omega, congrArg (Value.int .u64) ho, rfl, by rw [HD.out]; exact HR2.out, HK2.out, Or.inr (by rw [HD.out]; exact HZ.out)⟩
        case measure => simp [intOf]
      by_cases h5 : i = 5
      · subst h5
        clear hs
        go_wp2_with fail
        have ho := HO.out _ rfl
        go_roundw
        case rel => exact ⟨6, by omega, congrArg (Value.int .u64) ho, rfl, by rw [HD.out]; exact HR2.out, HK2.out, Or.inr (by rw [HD.out]; exact HZ.out)⟩
        case measure => simp [intOf]
      by_cases h6 : i = 6
      · subst h6
        clear hs
        go_wp2_with fail
        have ho := HO.out _ rfl
        go_roundw
        case rel => exact ⟨7, by omega, congrArg (Value.int .u64) ho, rfl, by rw [HD.out]; exact HR2.out, HK2.out, Or.inr (by rw [HD.out]; exact HZ.out)⟩
        case measure => simp [intOf]
      by_cases h7 : i = 7
      · subst h7
        clear hs
        go_wp2_with fail
        have ho := HO.out _ rfl
        go_roundw
        case rel => exact ⟨8, by omega, congrArg (Value.int .u64) ho, rfl, by rw [HD.out]; exact HR2.out, HK2.out, Or.inr (by rw [HD.out]; exact HZ.out)⟩
        case measure => simp [intOf]
      by_cases h8 : i = 8
      · subst h8
        clear hs
        go_wp2_with fail
        have ho := HO.out _ rfl
        go_roundw
        case rel => exact ⟨9, by omega, congrArg (Value.int .u64) ho, rfl, by rw [HD.out]; exact HR2.out, HK2.out, Or.inr (by rw [HD.out]; exact HZ.out)⟩
        case measure => simp [intOf]
      exact absurd hi9.out (by omega)
end Go.Proofs.YtibmlgkakeakcaaDoor
/- The walks of codec: Uint, Err, End. -/
set_option linter.unusedSimpArgs false
set_option linter.unusedVariables false
namespace Go.Proofs.YtibmlgkakeakcaaDoor
open Go.RowKit Go.Proofs.YtibmlgkakeakcaaDoor.Crc
theorem RdLB.kept {D : Nat → Prop} {S : Nat → Prop} {w w' : World} {r : Nat} {l : List UInt8} (h : RdLB D w r l) (hk : Kept S w w') (hs : ∀ k, k < w.heap.size → S k → k ≠ r ∧ (¬ D k ∨ r ≤ k)) : RdLB D w' r l := by
  obtain ⟨A, c, h1, h2, h3, h4, h5⟩ := h
  have hlt : r < w.heap.size := (Array.getElem?_eq_some_iff.1 h1).1
  refine ⟨A, c, ?_, h2.kept hk (fun ad hA hS => ?_), h3, h4, h5⟩
  · unfold RdAt at h1 ⊢
    rw [hk.block r hlt (fun hS => by have := hs r hlt hS; omega)]; exact h1
  · have h6 := h5 ad hA
    obtain ⟨_, h7⟩ := hs ad.block (by omega) hS
    rcases h7 with h7 | h7
    · exact h7 h6.2
    · omega
set_option maxHeartbeats 400000 in
theorem Uint_calls {D : Nat → Prop} {w : World} {r N most : Nat} {rest : List UInt8} (hN : N < 18446744073709551616) (hm : N ≤ most) (h : RdLB D w r (putU N ++ rest)) :
    Calls Tryd.prog 76 #[.pointer (some ⟨r, 0, none⟩), .int .u64 (most : Int)] w fun e w' => e = .returned (.int .u64 (N : Int)) ∧ RdLB D w' r rest ∧ Kept (· = r) w w' := by
  have h' := h
  obtain ⟨A, c, hr, _⟩ := h'
  have HR := Lib.hid (ready_calls hr)
  have HT := Lib.hid (number_calls hN h)
  have hd : decide ((N : Int) > (most : Int)) = false := by simp; omega
  clear h hr
  go_enter Tryd.func76, Tryd.ntmps76
  go_wp2_with (first | (go_at_call 77; refine HR.out.mono ?_; rintro e w' ⟨rfl, rfl⟩) | (go_at_call 96; refine HT.out.mono ?_; rintro e w2 ⟨rfl, hr2, hk2⟩))
  go_ret
  exact ⟨rfl, hr2, hk2⟩
set_option maxHeartbeats 400000 in
theorem Err_calls {w : World} {r n c : Nat} {A : Option Addr} (h : RdAt w r A n c) : Calls Tryd.prog 79 #[.pointer (some ⟨r, 0, none⟩)] w fun e w' => e = .returned (.int .i64 0) ∧ w = w' := by
  obtain ⟨h0, h1, h2, h3⟩ := h.cells
  have H := Lib.hid h
  clear h
  go_enter Tryd.func79, Tryd.ntmps79
  go_wp2
  go_ret
  exact ⟨rfl, rfl⟩
set_option maxHeartbeats 400000 in
theorem End_calls {D : Nat → Prop} {w : World} {r : Nat} (h : RdLB D w r []) : Calls Tryd.prog 47 #[.pointer (some ⟨r, 0, none⟩)] w fun e w' => e = .returned (.int .i64 0) ∧ w = w' := by
  obtain ⟨A, c, h, _⟩ := h
  obtain ⟨h0, h1, h2, h3⟩ := h.cells
  have HE := Lib.hid (Err_calls h)
  clear h
  go_enter Tryd.func47, Tryd.ntmps47
  go_wp2_with (go_at_call 79; refine HE.out.mono ?_; rintro e w' ⟨rfl, rfl⟩)
  go_ret
  exact ⟨rfl, rfl⟩
end Go.Proofs.YtibmlgkakeakcaaDoor
/- The walk of codec.PutText; strings as bytes. -/
set_option linter.unusedSimpArgs false
set_option linter.unusedVariables false
namespace Go.Proofs.YtibmlgkakeakcaaDoor
open Go.RowKit Go.Proofs.YtibmlgkakeakcaaDoor.Crc
/-- A text, put. -/
def textB (s : List UInt8) : List UInt8 := putU s.length ++ s
theorem textB_len (s : List UInt8) (h : s.length ≤ 1000000) : (textB s).length ≤ s.length + 10 := by
  unfold textB
  rw [List.length_append]
  have := putU_len10 s.length (by omega)
  omega
theorem strCells_bstr (l : List UInt8) : Lib.strCells (bstr l) = cells8 l := by
  unfold Lib.strCells bstr cells8
  simp
/-- append of a string onto bytes of one's own. -/
theorem wpList_append_bstr {w : World} {ops : Array Oper} {rest : List Oper} {o : Oper} {a : Act} {Q : Exit → Act → World → Prop} (hgd : o.guard = none) (s x : Operand)
    (ho : o.op = .call { callee := .builtin .append, args := #[s, x], argTypes := #[30, 9] })
    (base : Nat) (v : Value) (l : List UInt8) (hs : a.eval s = v) (hown : OwnB w base v l)
    (l' : List UInt8) (y : ByteArray) (hy : y = bstr l') (hx : a.eval x = .string y)
    (hbytes : l.length + l'.length ≤ 140737488355328) (hbase : base ≤ w.heap.size)
    (h : ∀ v' w', Hid (OwnB w' base v' (l ++ l') ∧ w.grownBy w' v.ownBlock) → wpList Tryd.prog ops Q rest (a.put o.dst v') w') : wpList Tryd.prog ops Q (o :: rest) a w := by
  obtain ⟨i, hi, hz0, hz1, hz2⟩ := info_parts info8
  subst hy
  have hsz := bstr_size l'
  refine Lib.wpList_append_own_string w hgd s x 30 9 ho base 5 i Tryd.underlying30 Tryd.underlying9 hi hz0 hz1 hz2 v l.length (cells8 l) hs hown (bstr l') hx (by rw [hsz]; unfold maxLen; omega) (by rw [hsz]; exact hbytes) hbase ?_
  intro v' w' hown' hg hnn
  refine h v' w' ⟨?_, hg⟩
  rw [hsz, strCells_bstr, ← cells8_append] at hown'
  unfold OwnB
  rw [List.length_append]
  exact hown'
set_option maxRecDepth 10000 in
set_option maxHeartbeats 400000 in
theorem PutText_calls (base : Nat) (v : Value) (acc s : List UInt8) (w : World) (hv : OwnB w base v acc) (hbase : base ≤ w.heap.size) (hacc : acc.length ≤ 500000) (hs : s.length ≤ 400000) :
    Calls Tryd.prog 62 #[v, .string (bstr s)] w fun e w' => ∃ v', e = .returned v' ∧ OwnB w' base v' (acc ++ textB s) ∧ Below base w w' := by
  have hP := PutUint_calls base v acc s.length w hv hbase (by omega) (by omega)
  obtain ⟨y, hy⟩ : ∃ y, bstr s = y := ⟨_, rfl⟩
  have hsz : y.size = s.length := by rw [← hy, bstr_size]
  rw [← hsz] at hP
  have HP := Lib.hid hP
  have HY := Lib.hid hy
  have hw : IntKind.u64.wrap (y.size : Int) = (y.size : Int) := by simp only [IntKind.wrap, IntKind.bits, IntKind.signed]; simp; omega
  have HA := Lib.hid (show acc.length ≤ 500000 ∧ s.length ≤ 400000 from ⟨hacc, hs⟩)
  have HS := Lib.hid hbase
  have HSz := Lib.hid hsz
  rw [hy]
  clear hP hy hsz hacc hs hbase hv
  go_enter Tryd.func62, Tryd.ntmps62
  go_wp2_with (first | (go_at_call 86; (with_reducible refine HP.out.mono ?_); rintro e w2 ⟨v2, rfl, ho2, hb2⟩) | (with_reducible refine park_append ?_; intro q hq))
  refine hq.out ?_
  clear hq HP
  rw [HSz.out] at ho2
  have HO2 := Lib.hid (And.intro ho2 hb2)
  clear ho2 hb2
  have hl := HO2.out.1
  refine wpList_append_bstr rfl _ _ rfl base v2 (acc ++ putU s.length) rfl HO2.out.1 s y HY.out.symm rfl (by have := putU_len10 s.length (by have := HA.out; omega); have := HA.out; rw [List.length_append]; omega) (Nat.le_trans HS.out HO2.out.2.size) ?_
  intro v3 w3 H3
  have HN : Hid (OwnB w3 base v3 (acc ++ textB s) ∧ Below base w w3) := by
    refine ⟨?_, HO2.out.2.grown H3.out.2 (Nat.le_trans HS.out HO2.out.2.size) (fun j hj => (HO2.out.1.lt j hj).1)⟩
    have := H3.out.1
    rw [List.append_assoc] at this
    exact this
  clear hl H3 HO2
  go_wp2_with fail
  go_ret
  exact ⟨v3, rfl, HN.out⟩
set_option maxHeartbeats 1000000 in
theorem PutFixed_onto (base : Nat) (v : Value) (ac0 : List UInt8) (n : Nat) (hn : (n : Int) ≤ 18446744073709551615) (s : Nat) (hs : s ≤ 8) (w : World) (hv : OwnB w base v ac0) (hbase : base ≤ w.heap.size) (hacc : ac0.length ≤ 1000000) :
    Calls Tryd.prog 63 #[v, .int .u64 (n : Int), .int .i64 (s : Int)] w fun e w' => ∃ v', e = .returned v' ∧ OwnB w' base v' (ac0 ++ fixB n s) ∧ Below base w w' := by
  have H0 := Lib.hid hv
  have HS := Lib.hid hbase
  have HA := Lib.hid hacc
  clear hv hbase hacc
  have m1 : max (s : Int) 0 = s := by omega
  have m2 : min (s : Int) 8 = s := by omega
  go_enter Tryd.func63, Tryd.ntmps63
  go_wp2_with fail
  go_loopw [0, 7] (fun v i wr => ∃ (k : Nat) (acc : List UInt8), k ≤ s ∧ i = .int .i64 ((k : Int) - 1) ∧ Hid (acc ++ fixB n k = ac0 ++ fixB n s ∧ OwnB wr base v acc ∧ Below base w wr)) (fun _ i _ => (intOf i + 1).toNat)
  case atStart => exact ⟨s, ac0, Nat.le_refl _, rfl, rfl, H0.out, Below.refl _ _⟩
  case round =>
    obtain ⟨k, acc, hk, rfl, HR⟩ := hrel
    by_cases h0 : k = 0
    · subst h0
      go_wp2_with fail
      go_ret
      have h1 := HR.out.1
      rw [fixB, List.append_nil] at h1
      rw [← h1]
      exact ⟨_, rfl, HR.out.2.1, HR.out.2.2⟩
    · obtain ⟨k, rfl⟩ : ∃ j, k = j + 1 := ⟨k - 1, by omega⟩
      have HBv := Lib.hid (byteAt_shr n k)
      go_wp2_with (with_reducible refine park_append ?_; intro q hq)
      refine hq.out ?_
      clear hq
      rw [HBv.out]
      have hlen := congrArg List.length HR.out.1
      rw [List.length_append, List.length_append, fixB_length, fixB_length] at hlen
      have hA := HA.out
      refine wpList_append_bytes rfl _ _ rfl base u0 acc rfl (HR.out.2.1.alloc _) (some ⟨wr.heap.size, 0, none⟩) 1 1 [byteAt n k] rfl rfl (fun h => by cases h) (bytes_of_block (heap_alloc_new wr _) rfl) (by simp; omega) (by have := HR.out.2.2.size; have := HS.out; simp; omega) ?_
      intro v2 w2 hown2 hg2 _
      have HN : Hid ((acc ++ [byteAt n k]) ++ fixB n k = ac0 ++ fixB n s ∧ OwnB w2 base v2 (acc ++ [byteAt n k]) ∧ Below base w w2) :=
        ⟨by rw [← HR.out.1, fixB, List.append_assoc]; rfl, hown2, (HR.out.2.2.alloc (Nat.le_trans HS.out HR.out.2.2.size) _).grown hg2 (by have := HR.out.2.2.size; have := HS.out; simp; omega) (fun j hj => (HR.out.2.1.lt j hj).1)⟩
      clear hown2 hg2 HR hlen hA
      go_wp2
      go_roundw
      case rel => exact ⟨k, _, by omega, by go_num, HN⟩
      case measure => simp [intOf]
end Go.Proofs.YtibmlgkakeakcaaDoor
/- The walk of codec's Text. -/
set_option linter.unusedSimpArgs false
set_option linter.unusedVariables false
namespace Go.Proofs.YtibmlgkakeakcaaDoor
open Go.RowKit Go.Proofs.YtibmlgkakeakcaaDoor.Crc
set_option maxHeartbeats 1000000 in
theorem Text_calls {D : Nat → Prop} {w : World} {r most : Nat} {s rest : List UInt8} (hs : s.length ≤ most) (hm : most ≤ 400000) (h : RdLB D w r (textB s ++ rest)) :
    Calls Tryd.prog 45 #[.pointer (some ⟨r, 0, none⟩), .int .i64 (most : Int)] w fun e w' => e = .returned (.string (bstr s)) ∧ RdLB D w' r rest ∧ Kept (· = r) w w' := by
  obtain ⟨n, hn⟩ : ∃ n, s.length = n := ⟨_, rfl⟩
  unfold textB at h
  rw [List.append_assoc, hn] at h
  rw [hn] at hs
  have HU := Lib.hid (Uint_calls (most := most) (by omega) hs h)
  have HN := Lib.hid hn
  have m1 : max (most : Int) 0 = most := by omega
  have hn64 : n ≤ 9223372036854775807 := by omega
  clear h hn
  go_enter Tryd.func45, Tryd.ntmps45
  go_wp2_with (go_at_call 76; refine HU.out.mono ?_; rintro e w2 ⟨rfl, hr2, hk2⟩; have HR2 := Lib.hid hr2; have HK2 := Lib.hid hk2; obtain ⟨A2, c2, hr, _⟩ := hr2; have HR := Lib.hid (ready_calls hr); have HT := Lib.hid (take_calls HR2.out n (by rw [List.length_append, HN.out]; omega)); clear hr hk2; refine park ?_; intro q hq)
  refine hq.out ?_
  clear hq
  go_wp2_with (first | (go_at_call 77; refine HR.out.mono ?_; rintro e w' ⟨rfl, rfl⟩) | (go_at_call 78; refine HT.out.mono ?_; rintro e w3 ⟨A, c, rfl, hb3, hr3, hk3⟩; refine park ?_; intro q hq))
  refine hq.out ?_
  clear hq
  rw [List.take_left' HN.out] at hb3
  rw [List.drop_left' HN.out] at hr3
  have hrun := run_str (w := w3) (c := c) HN.out.symm hb3
  go_wp2_with fail
  go_ret
  exact ⟨rfl, hr3, HK2.out.trans hk3⟩
end Go.Proofs.YtibmlgkakeakcaaDoor
/- Lists of values of one cell each, in memory. -/
set_option linter.unusedSimpArgs false
set_option linter.unusedVariables false
namespace Go.Proofs.YtibmlgkakeakcaaDoor
open Go.RowKit
/-- Values that lie somewhere. -/
def ValsAt (w : World) (A : Option Addr) (vs : List Value) : Prop := ∀ k, (hk : k < vs.length) → ∃ ad, A = some ad ∧ w.cell? (ad.add k) = some vs[k]
theorem ValsAt.kept {S : Nat → Prop} {w w' : World} {A : Option Addr} {vs : List Value} (h : ValsAt w A vs) (hk : Kept S w w') (hs : ∀ ad, A = some ad → vs = [] ∨ ¬ S ad.block) : ValsAt w' A vs := by
  intro k hl
  obtain ⟨ad, hA, hx⟩ := h k hl
  refine ⟨ad, hA, hk.cell hx ?_⟩
  rw [add_block]
  rcases hs ad hA with h | h
  · rw [h] at hl; exact absurd hl (Nat.not_lt_zero _)
  · exact h
theorem ValsAt.below {w w' : World} {A : Option Addr} {vs : List Value} (h : ValsAt w A vs) (hb : Below w.heap.size w w') : ValsAt w' A vs := h.kept (S := fun _ => False) (Kept.of_below hb) (fun _ _ => .inr (fun x => x))
theorem ValsAt.nil (w : World) (A : Option Addr) : ValsAt w A [] := fun k hk => absurd hk (Nat.not_lt_zero _)
theorem ValsAt.spot {w : World} {A : Option Addr} {vs : List Value} (h : ValsAt w A vs) (hl : 0 < vs.length) : ∃ b o, A = some ⟨b, o, none⟩ ∧ b < w.heap.size := by
  obtain ⟨ad, hA, hx⟩ := h 0 hl
  obtain ⟨b, o, s⟩ := ad
  have hlt := World.block_lt_of_cell? w _ hx
  rw [add_block] at hlt
  refine ⟨b, o, ?_, hlt⟩
  rw [hA]
  cases s with
  | none => rfl
  | some s => simp [World.cell?, Addr.add] at hx; split at hx <;> simp at hx
theorem ValsAt.at {w : World} {b o : Nat} {vs : List Value} (h : ValsAt w (some ⟨b, o, none⟩) vs) (k : Nat) (hk : k < vs.length) : w.cell? ⟨b, o + k, none⟩ = some vs[k] := by
  obtain ⟨ad, hA, hx⟩ := h k hk
  cases hA
  rwa [Addr.add_lit] at hx
theorem ValsAt.take {w : World} {A : Option Addr} {vs : List Value} (h : ValsAt w A vs) (n : Nat) : ValsAt w A (vs.take n) := by
  intro k hk
  rw [List.length_take] at hk
  obtain ⟨ad, hA, hx⟩ := h k (by omega)
  exact ⟨ad, hA, by rw [List.getElem_take]; exact hx⟩
theorem ValsAt.drop {w : World} {b o : Nat} {vs : List Value} (h : ValsAt w (some ⟨b, o, none⟩) vs) (n : Nat) : ValsAt w (some ⟨b, o + n, none⟩) (vs.drop n) := by
  intro k hk
  rw [List.length_drop] at hk
  refine ⟨_, rfl, ?_⟩
  rw [Addr.add_lit, List.getElem_drop, Nat.add_assoc]
  exact h.at (n + k) (by omega)
/-- What is known of the values of a slice: the slice's type, an element's, its zero, its bytes. -/
structure El (ts t : TypeId) (z : Value) (b : Nat) : Prop where
  u : Tryd.prog.underlying ts = some (.slice t)
  i : (Tryd.prog.info? t).map (fun i => (i.zero, i.size, i.bytes)) = some (some z, 1, b)
  z1 : z.cells.size = 1
  b24 : b ≤ 24
/-- Values of one's own. -/
def OwnVs (w : World) (base : Nat) (t : TypeId) (v : Value) (vs : List Value) : Prop := w.ownsRow base t 1 v vs.length vs
section
variable {w w' : World} {base : Nat} {t : TypeId} {v : Value} {vs : List Value}
theorem OwnVs.kept {S : Nat → Prop} (h : OwnVs w base t v vs) (hk : Kept S w w') (hs : ∀ k, v.ownBlock = some k → ¬ S k) : OwnVs w' base t v vs := by
  refine ⟨h.1, ?_⟩
  rcases h.2 with h2 | ⟨g, cap, cur, h1, h2, h3, r⟩
  · exact .inl h2
  · exact .inr ⟨g, cap, cur, h1, h2, by rw [hk.block g ((Array.getElem?_eq_some_iff.1 h3).1) (hs g (by rw [h1]; rfl))]; exact h3, r⟩
theorem OwnVs.below (h : OwnVs w base t v vs) (hb : Below w.heap.size w w') : OwnVs w' base t v vs := h.kept (S := fun _ => False) (Kept.of_below hb) (fun _ _ x => x)
theorem OwnVs.lt (h : OwnVs w base t v vs) : ∀ k, v.ownBlock = some k → base ≤ k ∧ k < w.heap.size := World.ownsRow.lt h
theorem OwnVs.nil (w : World) (base : Nat) (t : TypeId) : OwnVs w base t (.slice none 0 0) [] := World.ownsRow_nil _ _ _ _
theorem OwnVs.base' {base' : Nat} (h : OwnVs w base t v vs) (hb : base' ≤ base) : OwnVs w base' t v vs := by
  refine ⟨h.1, ?_⟩
  rcases h.2 with h2 | ⟨g, cap, cur, h1, h2, r⟩
  · exact .inl h2
  · exact .inr ⟨g, cap, cur, h1, by omega, r⟩
theorem OwnVs.form (h : OwnVs w base t v vs) : (v = .slice none 0 0 ∧ vs = []) ∨ ∃ g c, v = .slice (some ⟨g, 0, none⟩) vs.length c ∧ base ≤ g ∧ g < w.heap.size ∧ vs.length ≤ c ∧ c ≤ 9223372036854775807 := by
  rcases h.2 with ⟨h1, h2⟩ | ⟨g, cap, cur, h1, h2, h3, h4, h5, _⟩
  · exact .inl ⟨h1, List.eq_nil_of_length_eq_zero h2⟩
  · refine .inr ⟨g, cap, h1, h2, (Array.getElem?_eq_some_iff.1 h3).1, h4, ?_⟩
    unfold maxLen at h5; omega
theorem OwnVs.sl (h : OwnVs w base t v vs) : ∃ A c, v = .slice A vs.length c ∧ (A = none → c = 0) ∧ ValsAt w A vs ∧ vs.length ≤ c ∧ c ≤ 9223372036854775807 ∧ ∀ ad, A = some ad → base ≤ ad.block ∧ ad.block < w.heap.size ∧ ad.spot = none := by
  rcases h.form with ⟨rfl, rfl⟩ | ⟨g, c, rfl, h1, h2, h3, h4⟩
  · exact ⟨none, 0, rfl, fun _ => rfl, ValsAt.nil _ _, Nat.le_refl _, by decide, fun ad h => by cases h⟩
  · refine ⟨_, c, rfl, (fun h => by cases h), fun k hk => ⟨_, rfl, ?_⟩, h3, h4, fun ad h => by cases h; exact ⟨h1, h2, rfl⟩⟩
    exact World.ownsRow.cells h (g := g) rfl k vs[k] (by simp [hk])
theorem OwnVs.fr {A : Option Addr} {n c : Nat} (h : OwnVs w base t (.slice A n c) vs) (k : Nat) (hk : k < vs.length) : ∃ g, A = some ⟨g, 0, none⟩ ∧ w.frozen? ⟨g, k, none⟩ = false ∧ w.cell? ⟨g, k, none⟩ = some vs[k] := by
  rcases h.form with ⟨h1, h2⟩ | ⟨g, c', h1, _⟩
  · rw [h2] at hk; exact absurd hk (Nat.not_lt_zero _)
  · injection h1 with h1 h2 h3
    subst h1
    subst h2
    have hc := World.ownsRow.cells h (g := g) rfl k vs[k] (by simp [hk])
    rw [Addr.add_lit, Nat.zero_add] at hc
    exact ⟨g, rfl, World.ownsRow.frozenAt h k, hc⟩
theorem OwnVs.set {g n c : Nat} (h : OwnVs w base t (.slice (some ⟨g, 0, none⟩) n c) vs) (k : Nat) (x : Value) : OwnVs (w.setCell ⟨g, k, none⟩ x) base t (.slice (some ⟨g, 0, none⟩) n c) (vs.set k x) := by
  have hn : n = vs.length := by
    rcases h.form with ⟨h1, _⟩ | ⟨g', c', h1, _⟩
    · cases h1
    · injection h1
  subst hn
  have := (World.ownsRow.stored h k x).1
  unfold OwnVs
  rw [List.length_set]
  exact this
theorem OwnVs.lit (w : World) (base : Nat) (hb : base ≤ w.heap.size) (vs : List Value) (hm : vs.length ≤ maxLen) : OwnVs (w.alloc (.cells vs.toArray t)) base t (.slice (some ⟨w.heap.size, 0, none⟩) vs.length vs.length) vs := by
  have := World.ownsRow_lit (base := base) (e := t) (size := 1) w vs.toArray vs.length hb hm (by simp)
  simpa [OwnVs] using this
end
/-- append of values onto values of one's own. -/
theorem wpList_append_vals {ts t : TypeId} {z : Value} {b : Nat} (E : El ts t z b) {w : World} {ops : Array Oper} {rest : List Oper} {o : Oper} {a : Act} {Q : Exit → Act → World → Prop} (hgd : o.guard = none) (s x : Operand)
    (ho : o.op = .call { callee := .builtin .append, args := #[s, x], argTypes := #[ts, ts] })
    (base : Nat) (v : Value) (vs : List Value) (hs : a.eval s = v) (hown : OwnVs w base t v vs)
    (A : Option Addr) (m cx : Nat) (ys : List Value) (hx : a.eval x = .slice A m cx) (hm : m = ys.length) (hnil : A = none → cx = 0) (hU : ValsAt w A ys) (h1 : ∀ u ∈ ys, u.oneCell' = true)
    (hbytes : vs.length + ys.length ≤ 1000000000000) (hbase : base ≤ w.heap.size)
    (h : ∀ v' w', Hid (OwnVs w' base t v' (vs ++ ys) ∧ w.grownBy w' v.ownBlock) → wpList Tryd.prog ops Q rest (a.put o.dst v') w') : wpList Tryd.prog ops Q (o :: rest) a w := by
  obtain ⟨i, hi, hz0, hz1, hz2⟩ := info_parts E.i
  subst hm
  cases A with
  | none =>
    have hys : ys = [] := by
      rcases ys with _ | ⟨y, ys⟩
      · rfl
      · obtain ⟨ad, hA, _⟩ := hU 0 (Nat.succ_pos _); cases hA
    subst hys
    have hc := hnil rfl
    subst hc
    refine wpList_plain hgd fun K hK => ?_
    have hr := run_append_owned_none (P := Tryd.prog) w base ts o.type t i 1 E.u hi v vs.length vs hown
    unfold Oper.wp execOp
    simp only [ho, resolve, invoke, builtin, Sem.run_bind, Sem.run_pure, Result.andThen_ok, List.map_toArray, List.map_cons, List.map_nil, hs, hx]
    simp only [List.length_nil, hr, Result.andThen_ok]
    refine hK _ _ (h v w ⟨by rw [List.append_nil]; exact hown, World.grownBy.refl _ _⟩)
  | some ad =>
    have hb24 := E.b24
    refine wpList_append_own w hgd s x _ ho base t i z 1 b E.u hi hz0 hz1 hz2 E.z1 (by decide) v vs.length _ hs hown ad ys.length cx ys hx (by rw [Nat.mul_one]) ?_ h1 (by unfold maxLen; omega) ?_ hbase ?_
    · intro j u hj
      have hlt : j < ys.length := (List.getElem?_eq_some_iff.1 hj).1
      obtain ⟨ad', hA, hc⟩ := hU j hlt
      cases hA
      rw [hc]
      rw [List.getElem?_eq_getElem hlt] at hj
      exact hj
    · refine Nat.le_trans (Nat.mul_le_mul hbytes hb24) (by decide)
    · intro v' w' hown' hg hnn
      refine h v' w' ⟨?_, hg⟩
      unfold OwnVs
      rw [List.length_append]
      exact hown'
/-- append of one value, as one step of a region. -/
theorem step_append_val1 {ts t : TypeId} {z : Value} {b : Nat} (E : El ts t z b) {ops : Array Oper} {o : Oper} {a : Act} {w : World} {K : Act → World → Prop} {Q : Exit → Act → World → Prop} {X : Prop} (hgd : o.guard = none) (s x : Operand)
    (ho : o.op = .call { callee := .builtin .append, args := #[s, x], argTypes := #[ts, ts] })
    (base : Nat) (v : Value) (vs : List Value) (hs : a.eval s = v) (hown : OwnVs w base t v vs)
    (ad : Addr) (cx : Nat) (y : Value) (hx : a.eval x = .slice (some ad) 1 cx) (hcell : w.cell? (ad.add 0) = some y) (h1 : y.oneCell' = true)
    (hbytes : vs.length ≤ 1000000) (hbase : base ≤ w.heap.size)
    (h : ∀ v' w', Hid (OwnVs w' base t v' (vs ++ [y]) ∧ w.grownBy w' v.ownBlock) → K (a.put o.dst v') w') : if Region.wanted o (yielded ops a.tmps) = true then Oper.wp Tryd.prog o a w K Q else X := by
  obtain ⟨i, hi, hz0, hz1, hz2⟩ := info_parts E.i
  have hb24 := E.b24
  have hw : Region.wanted o (yielded ops a.tmps) = true := by simp [Region.wanted, hgd]
  rw [if_pos hw]
  refine wp_append_own w s x _ ho base t i z 1 b E.u hi hz0 hz1 hz2 E.z1 (by decide) v vs.length _ hs hown ad 1 cx [y] hx rfl ?_ (fun u hu => by simp at hu; rw [hu]; exact h1) (by unfold maxLen; omega) ?_ hbase ?_
  · intro j u hj
    match j, hj with
    | 0, hj => simp at hj; rw [hcell, hj]
    | j + 1, hj => simp at hj
  · refine Nat.le_trans (Nat.mul_le_mul (show vs.length + 1 ≤ 1000001 by omega) hb24) (by decide)
  · intro v' w' hown' hg hnn
    refine h v' w' ⟨?_, hg⟩
    unfold OwnVs
    rw [List.length_append]
    exact hown'
end Go.Proofs.YtibmlgkakeakcaaDoor
/- Nodes, plain. -/
set_option linter.unusedSimpArgs false
set_option linter.unusedVariables false
namespace Go.Proofs.YtibmlgkakeakcaaDoor
open Go.RowKit Go.Proofs.YtibmlgkakeakcaaDoor.Crc
/-- The order of texts; a plain definition. -/
def ltB (a b : List UInt8) : Bool := Op.bytesLess a b
theorem ltB_nil (a : List UInt8) : ltB a [] = false := by cases a <;> rfl
theorem ltB_cons (a b : UInt8) (x y : List UInt8) : ltB (a :: x) (b :: y) = (decide (a < b) || (a == b && ltB x y)) := by unfold ltB; rw [Op.bytesLess]
theorem ltB_irrefl : ∀ a : List UInt8, ltB a a = false
  | [] => rfl
  | a :: x => by rw [ltB_cons, ltB_irrefl x]; simp [UInt8.lt_irrefl]
theorem ltB_trans : ∀ a b c : List UInt8, ltB a b = true → ltB b c = true → ltB a c = true
  | a, b, [], _, h => by rw [ltB_nil] at h; cases h
  | a, [], _ :: _, h, _ => by rw [ltB_nil] at h; cases h
  | [], _ :: _, _ :: _, _, _ => rfl
  | a :: x, b :: y, c :: z, h, k => by
    rw [ltB_cons] at h k ⊢
    simp only [Bool.or_eq_true, Bool.and_eq_true, decide_eq_true_eq, beq_iff_eq] at h k ⊢
    rcases h with h | ⟨rfl, h⟩
    · rcases k with k | ⟨rfl, _⟩
      · exact .inl (UInt8.lt_trans h k)
      · exact .inl h
    · rcases k with k | ⟨rfl, k⟩
      · exact .inl k
      · exact .inr ⟨rfl, ltB_trans x y z h k⟩
theorem ltB_tri : ∀ a b : List UInt8, ltB a b = true ∨ a = b ∨ ltB b a = true
  | [], [] => .inr (.inl rfl)
  | [], _ :: _ => .inl rfl
  | _ :: _, [] => .inr (.inr rfl)
  | a :: x, b :: y => by
    rw [ltB_cons, ltB_cons]
    simp only [Bool.or_eq_true, Bool.and_eq_true, decide_eq_true_eq, beq_iff_eq]
    rcases UInt8.lt_or_lt_of_ne (a := a) (b := b) |> fun f => Classical.em (a = b) with rfl | hne
    · rcases ltB_tri x y with h | rfl | h
      · exact .inl (.inr ⟨rfl, h⟩)
      · exact .inr (.inl rfl)
      · exact .inr (.inr (.inr ⟨rfl, h⟩))
    · rcases UInt8.lt_or_lt_of_ne hne with h | h
      · exact .inl (.inl h)
      · exact .inr (.inr (.inl h))
theorem ltB_asymm {a b : List UInt8} (h : ltB a b = true) : ltB b a = false := by
  cases hb : ltB b a
  · rfl
  · have := ltB_trans _ _ _ h hb
    rw [ltB_irrefl] at this; cases this
/-- Not less is equal, or greater. -/
theorem ltB_not {a b : List UInt8} (h : ltB a b = false) : a = b ∨ ltB b a = true := by
  rcases ltB_tri a b with h1 | h1 | h1
  · rw [h1] at h; cases h
  · exact .inl h1
  · exact .inr h1
theorem leB_not (a b : List UInt8) : (ltB a b || a == b) = !ltB b a := by
  cases h : ltB a b
  · rcases ltB_not h with rfl | h1
    · rw [ltB_irrefl]; simp
    · rw [h1]
      have : (a == b) = false := by
        rw [beq_eq_false_iff_ne]
        rintro rfl
        rw [ltB_irrefl] at h1; cases h1
      rw [this]; rfl
  · rw [ltB_asymm h]; rfl
/-- A text of a list; a plain definition. -/
def atL (l : List (List UInt8)) (i : Nat) : List UInt8 := l.getD i []
theorem atL_eq (l : List (List UInt8)) (i : Nat) (h : i < l.length) : atL l i = l[i] := by
  unfold atL; rw [List.getD_eq_getElem?_getD, List.getElem?_eq_getElem h]; rfl
def atI (l : List Int) (i : Nat) : Int := l.getD i 0
theorem atI_eq (l : List Int) (i : Nat) (h : i < l.length) : atI l i = l[i] := by
  unfold atI; rw [List.getD_eq_getElem?_getD, List.getElem?_eq_getElem h]; rfl
/-- A node. -/
structure NodeM where
  leaf : Bool
  keys : List (List UInt8)
  vals : List (List UInt8)
  kids : List Int
/-- The first so many keys are short enough and rise. -/
def riseK (ks : List (List UInt8)) (t : Nat) : Prop := ∀ i, i < t → (atL ks i).length ≤ 40 ∧ (0 < i → ltB (atL ks (i - 1)) (atL ks i) = true)
theorem riseK.zero (ks : List (List UInt8)) : riseK ks 0 := fun i h => absurd h (Nat.not_lt_zero _)
theorem riseK.succ {ks : List (List UInt8)} {t : Nat} (h : riseK ks t) (h1 : (atL ks t).length ≤ 40) (h2 : 0 < t → ltB (atL ks (t - 1)) (atL ks t) = true) : riseK ks (t + 1) := fun i hi => by
  by_cases hlt : i < t
  · exact h i hlt
  · obtain rfl : i = t := by omega
    exact ⟨h1, h2⟩
/-- A node that may be. -/
def RightM (n : NodeM) : Prop :=
  riseK n.keys n.keys.length ∧ (if n.leaf then n.vals.length = n.keys.length ∧ n.kids.length = 0 ∧ (∀ v ∈ n.vals, v.length ≤ 49)
    else n.kids.length = n.keys.length ∧ 0 < n.kids.length ∧ n.vals.length = 0 ∧ atL n.keys 0 = [] ∧ ∀ k ∈ n.kids, 0 ≤ k ∧ k ≤ 2147483647)
open Classical in
noncomputable def rightB (n : NodeM) : Bool := decide (RightM n)
open Classical in
theorem rightB_true {n : NodeM} (h : RightM n) : rightB n = true := by unfold rightB; exact decide_eq_true h
open Classical in
theorem rightB_false {n : NodeM} (h : ¬ RightM n) : rightB n = false := by unfold rightB; exact decide_eq_false h
open Classical in
theorem rightB_iff {n : NodeM} : rightB n = true ↔ RightM n := by unfold rightB; exact decide_eq_true_iff
/-- A node's cell. -/
def cellB (n : NodeM) (i : Nat) : List UInt8 := textB (atL n.keys i) ++ (if n.leaf then textB (atL n.vals i) else fixB (atI n.kids i).toNat 4)
def cellsB (n : NodeM) : List (List UInt8) := (List.range n.keys.length).map (cellB n)
theorem cellsB_length (n : NodeM) : (cellsB n).length = n.keys.length := by unfold cellsB; simp
theorem cellsB_take (n : NodeM) (t : Nat) (h : t < n.keys.length) : (cellsB n).take (t + 1) = (cellsB n).take t ++ [cellB n t] := by
  rw [List.take_succ_eq_append_getElem (by rw [cellsB_length]; exact h)]
  unfold cellsB
  simp
/-- How many bytes the first so many cells take. -/
def sizeN (n : NodeM) (t : Nat) : Nat := 2 * t + sizC ((cellsB n).take t)
theorem sizeN_succ (n : NodeM) (t : Nat) (h : t < n.keys.length) : sizeN n (t + 1) = sizeN n t + 2 + (cellB n t).length := by
  unfold sizeN
  rw [cellsB_take n t h, sizC_append, sizC_cons, sizC_nil]; omega
def takenN (n : NodeM) : Nat := sizeN n n.keys.length
theorem takenN_fit (n : NodeM) : takenN n ≤ 244 ↔ fitC (cellsB n) := by
  unfold takenN sizeN fitC
  rw [cellsB_length, List.take_of_length_le (by rw [cellsB_length]; exact Nat.le_refl _)]
/-- Where a key stands, or would stand. -/
def placeN (ks : List (List UInt8)) (key : List UInt8) : Nat := (ks.takeWhile (fun k => ltB k key)).length
theorem placeN_le (ks : List (List UInt8)) (key : List UInt8) : placeN ks key ≤ ks.length := (List.takeWhile_prefix _).length_le
theorem placeN_below (ks : List (List UInt8)) (key : List UInt8) (i : Nat) (h : i < placeN ks key) : ltB (atL ks i) key = true := by
  unfold placeN at h
  induction ks generalizing i with
  | nil => exact absurd h (Nat.not_lt_zero _)
  | cons k ks ih =>
    rw [List.takeWhile_cons] at h
    by_cases hk : ltB k key = true
    · rw [if_pos hk, List.length_cons] at h
      cases i with
      | zero => exact hk
      | succ i => exact ih i (by omega)
    · rw [if_neg hk] at h; exact absurd h (Nat.not_lt_zero _)
theorem placeN_at (ks : List (List UInt8)) (key : List UInt8) (h : placeN ks key < ks.length) : ltB (atL ks (placeN ks key)) key = false := by
  unfold placeN at h ⊢
  induction ks with
  | nil => exact absurd h (Nat.not_lt_zero _)
  | cons k ks ih =>
    by_cases hk : ltB k key = true
    · simp only [List.takeWhile_cons, if_pos hk, List.length_cons] at h ⊢
      exact ih (by omega)
    · rw [List.takeWhile_cons, if_neg hk]
      show ltB k key = false
      simpa using hk
/-- The place is the only one. -/
theorem placeN_eq (ks : List (List UInt8)) (key : List UInt8) (j : Nat) (hj : j ≤ ks.length) (h1 : ∀ i, i < j → ltB (atL ks i) key = true) (h2 : j < ks.length → ltB (atL ks j) key = false) : placeN ks key = j := by
  by_cases hlt : placeN ks key < j
  · have := h1 _ hlt
    rw [placeN_at ks key (by omega)] at this; cases this
  · by_cases hgt : j < placeN ks key
    · have h3 := placeN_below ks key j hgt
      have := placeN_le ks key
      rw [h2 (by omega)] at h3; cases h3
    · omega
/-- Find. -/
noncomputable def findN (n : NodeM) (key : List UInt8) : Int × Bool :=
  if rightB n then
    let i := placeN n.keys key
    let ok := decide (i < n.keys.length) && (atL n.keys i == key)
    (if n.leaf || ok then (i : Int) else (i : Int) - 1, ok)
  else (0, false)
end Go.Proofs.YtibmlgkakeakcaaDoor
/- Nodes in memory; Right's helpers. -/
set_option linter.unusedSimpArgs false
set_option linter.unusedVariables false
namespace Go.Proofs.YtibmlgkakeakcaaDoor
open Go.RowKit Go.Proofs.YtibmlgkakeakcaaDoor.Crc
def strV (s : List UInt8) : Value := .string (bstr s)
def strs (ks : List (List UInt8)) : List Value := ks.map strV
def intV (k : Int) : Value := .int .i64 k
def ints (ks : List Int) : List Value := ks.map intV
theorem strs_length (ks : List (List UInt8)) : (strs ks).length = ks.length := by unfold strs; simp
theorem ints_length (ks : List Int) : (ints ks).length = ks.length := by unfold ints; simp
theorem strs_get (ks : List (List UInt8)) (i : Nat) (h : i < (strs ks).length) : (strs ks)[i] = strV (atL ks i) := by
  have h' : i < ks.length := by rwa [strs_length] at h
  have e : (strs ks)[i]? = some (strV (atL ks i)) := by rw [atL_eq ks i h']; unfold strs; rw [List.getElem?_map, List.getElem?_eq_getElem h']; rfl
  exact Option.some.inj ((List.getElem?_eq_getElem h).symm.trans e)
theorem ints_get (ks : List Int) (i : Nat) (h : i < (ints ks).length) : (ints ks)[i] = intV (atI ks i) := by
  have h' : i < ks.length := by rwa [ints_length] at h
  have e : (ints ks)[i]? = some (intV (atI ks i)) := by rw [atI_eq ks i h']; unfold ints; rw [List.getElem?_map, List.getElem?_eq_getElem h']; rfl
  exact Option.some.inj ((List.getElem?_eq_getElem h).symm.trans e)
theorem strs_one (ks : List (List UInt8)) : ∀ u ∈ strs ks, u.oneCell' = true := by
  intro u hu
  unfold strs at hu
  obtain ⟨c, _, rfl⟩ := List.mem_map.1 hu
  rfl
theorem ints_one (ks : List Int) : ∀ u ∈ ints ks, u.oneCell' = true := by
  intro u hu
  unfold ints at hu
  obtain ⟨c, _, rfl⟩ := List.mem_map.1 hu
  rfl
theorem elStr : El 22 9 (.string ByteArray.empty) 16 := ⟨Tryd.underlying22, by kernel_rfl, rfl, by decide⟩
theorem elInt : El 24 3 (.int .i64 0) 8 := ⟨Tryd.underlying24, by kernel_rfl, rfl, by decide⟩
theorem elRow : El 23 30 (.slice none 0 0) 24 := ⟨Tryd.underlying23, by kernel_rfl, rfl, by decide⟩
theorem ValsAt.int {w : World} {A : Option Addr} {ks : List Int} (h : ValsAt w A (ints ks)) (i : Nat) (hi : i < ks.length) : ∃ ad, A = some ad ∧ w.cell? (ad.add i) = some (.int .i64 (atI ks i)) := by
  obtain ⟨ad, hA, hx⟩ := h i (by rw [ints_length]; exact hi)
  exact ⟨ad, hA, by rw [hx, ints_get]; rfl⟩
theorem ValsAt.strAt {w : World} {b o : Nat} {ks : List (List UInt8)} (h : ValsAt w (some ⟨b, o, none⟩) (strs ks)) (i : Nat) (hi : i < ks.length) : w.cell? ⟨b, o + i, none⟩ = some (strV (atL ks i)) := by
  have := h.at i (by rw [strs_length]; exact hi)
  rw [this, strs_get]
theorem ValsAt.intAt {w : World} {b o : Nat} {ks : List Int} (h : ValsAt w (some ⟨b, o, none⟩) (ints ks)) (i : Nat) (hi : i < ks.length) : w.cell? ⟨b, o + i, none⟩ = some (.int .i64 (atI ks i)) := by
  have := h.at i (by rw [ints_length]; exact hi)
  rw [this, ints_get]; rfl
/-- A node in memory. -/
structure NodeAt (w : World) (n : NodeM) (kA : Option Addr) (kc : Nat) (vA : Option Addr) (vc : Nat) (iA : Option Addr) (ic : Nat) : Prop where
  k : ValsAt w kA (strs n.keys)
  v : RowsB w vA n.vals
  i : ValsAt w iA (ints n.kids)
  kn : (kA = none → kc = 0) ∧ n.keys.length ≤ kc ∧ kc ≤ 9223372036854775807
  vn : (vA = none → vc = 0) ∧ n.vals.length ≤ vc ∧ vc ≤ 9223372036854775807
  inn : (iA = none → ic = 0) ∧ n.kids.length ≤ ic ∧ ic ≤ 9223372036854775807
theorem NodeAt.below {w w' : World} {n : NodeM} {kA : Option Addr} {kc : Nat} {vA : Option Addr} {vc : Nat} {iA : Option Addr} {ic : Nat} (h : NodeAt w n kA kc vA vc iA ic) (hb : Below w.heap.size w w') : NodeAt w' n kA kc vA vc iA ic :=
  ⟨h.k.below hb, h.v.below hb, h.i.below hb, h.kn, h.vn, h.inn⟩
set_option maxHeartbeats 400000 in
theorem Right1_calls (A : Option Addr) (n c : Nat) (w : World) : Calls Tryd.prog 37 #[.slice A n c] w fun e w' => e = .returned (.bool (decide (49 < n))) ∧ w = w' := by
  go_enter Tryd.func37, Tryd.ntmps37
  go_wp2_with fail
  go_ret
  exact ⟨ret_bool (by simp; omega), rfl⟩
set_option maxHeartbeats 400000 in
theorem Right2_calls (k : Int) (w : World) : Calls Tryd.prog 39 #[.int .i64 k] w fun e w' => e = .returned (.bool (decide (k < 0 ∨ 2147483647 < k))) ∧ w = w' := by
  by_cases h : k < 0
  · have h0 : decide (k < 0) = true := decide_eq_true h
    have h1 : decide (k < 0 ∨ 2147483647 < k) = true := decide_eq_true (.inl h)
    rw [h1]
    clear h h1
    go_enter Tryd.func39, Tryd.ntmps39
    go_wp2_with fail
    go_ret
    exact ⟨rfl, rfl⟩
  · have h0 : decide (k < 0) = false := decide_eq_false h
    have h1 : decide (k < 0 ∨ 2147483647 < k) = decide (k > 2147483647) := by simp; omega
    rw [h1]
    clear h h1
    go_enter Tryd.func39, Tryd.ntmps39
    go_wp2_with fail
    go_ret
    exact ⟨rfl, rfl⟩
set_option maxRecDepth 10000 in
set_option maxHeartbeats 400000 in
/-- Does one of the values have more than 49 bytes? -/
theorem IndexV_calls (A : Option Addr) (n c : Nat) (ls : List (List UInt8)) (w : World) (hn : n = ls.length) (hR : RowsB w A ls) (hm : n ≤ 9223372036854775807) :
    Calls Tryd.prog 71 #[.slice A n c, .func (Fn.func 37) #[] #[]] w fun e w' => ∃ j : Int, e = .returned (.int .i64 j) ∧ Hid (j ≥ 0 ↔ ∃ v ∈ ls, 49 < v.length) ∧ w = w' := by
  have HN := Lib.hid hn
  have HR := Lib.hid hR
  clear hn hR
  go_enter Tryd.func71, Tryd.ntmps71
  go_wp2_with fail
  go_loop [8] (fun i => ∃ t : Nat, t ≤ n ∧ i = .int .i64 (t : Int) ∧ Hid (∀ k, k < t → ¬ 49 < (atL ls k).length)) (fun i => n - (intOf i).toNat)
  case atStart => exact ⟨0, Nat.zero_le _, rfl, fun k hk => absurd hk (Nat.not_lt_zero _)⟩
  case round =>
    obtain ⟨t, ht, rfl, HV⟩ := hrel
    by_cases hlt : t < n
    · have hl : t < ls.length := by rw [← HN.out]; exact hlt
      obtain ⟨ad, Ai, ci, hA, hc, hs⟩ := HR.out t hl
      subst hA
      obtain ⟨m, hm'⟩ : ∃ m, ls[t].length = m := ⟨_, rfl⟩
      rw [hm'] at hc
      have HM : Hid ((atL ls t).length = m) := by rw [atL_eq ls t hl]; exact hm'
      have HL := Lib.hid hl
      clear hs hm' hl
      by_cases h49 : 49 < m
      · have hd : decide (49 < m) = true := decide_eq_true h49
        have HE : Hid (∃ v ∈ ls, 49 < v.length) := ⟨ls[t]'HL.out, List.getElem_mem _, by rw [← atL_eq ls t HL.out, HM.out]; exact h49⟩
        clear h49
        go_wp2_with (go_at_call 37; (with_reducible refine (Right1_calls _ _ _ _).mono ?_); rintro e w' ⟨rfl, rfl⟩)
        go_ret
        exact ⟨_, rfl, ⟨fun _ => HE.out, fun _ => Int.natCast_nonneg _⟩, rfl⟩
      · have hd : decide (49 < m) = false := decide_eq_false h49
        have HS : Hid (∀ k, k < t + 1 → ¬ 49 < (atL ls k).length) := fun k hk => by
          by_cases hkt : k < t
          · exact HV.out k hkt
          · obtain rfl : k = t := by omega
            rw [HM.out]; exact h49
        clear h49 HV
        go_wp2_with (go_at_call 37; (with_reducible refine (Right1_calls _ _ _ _).mono ?_); rintro e w' ⟨rfl, rfl⟩)
        go_round
        case rel => exact ⟨t + 1, Nat.succ_le_of_lt hlt, congrArg (Value.int .i64) (Int.natCast_succ t).symm, HS.out⟩
        case measure => simp [intOf]; omega
    · obtain rfl : n = t := by omega
      have HE : Hid (¬ ∃ v ∈ ls, 49 < v.length) := by
        rintro ⟨v, hv, h⟩
        obtain ⟨i, hi, rfl⟩ := List.getElem_of_mem hv
        exact HV.out i (by rw [HN.out]; exact hi) (by rw [atL_eq ls i hi]; exact h)
      clear HV hlt
      go_wp2_with fail
      go_ret
      exact ⟨-1, rfl, ⟨fun h => absurd h (by decide), fun h => absurd h HE.out⟩, rfl⟩
set_option maxRecDepth 10000 in
set_option maxHeartbeats 400000 in
theorem ContainsV_calls (A : Option Addr) (n c : Nat) (ls : List (List UInt8)) (w : World) (hn : n = ls.length) (hR : RowsB w A ls) (hm : n ≤ 9223372036854775807) :
    Calls Tryd.prog 36 #[.slice A n c, .func (Fn.func 37) #[] #[]] w fun e w' => ∃ b : Bool, e = .returned (.bool b) ∧ Hid (b = true ↔ ∃ v ∈ ls, 49 < v.length) ∧ w = w' := by
  have HI := Lib.hid (IndexV_calls A n c ls w hn hR hm)
  clear hn hR hm
  go_enter Tryd.func36, Tryd.ntmps36
  go_wp2_with (go_at_call 71; (with_reducible refine HI.out.mono ?_); rintro e w' ⟨j, rfl, hj, rfl⟩; refine park ?_; intro q hq)
  refine hq.out ?_
  clear hq HI
  obtain ⟨b, hb⟩ : ∃ b, decide (j ≥ 0) = b := ⟨_, rfl⟩
  have HB : Hid (b = true ↔ ∃ v ∈ ls, 49 < v.length) := by rw [← hb, decide_eq_true_iff]; exact hj.out
  go_wp2_with fail
  go_ret
  exact ⟨b, ret_bool (by simp), HB.out, rfl⟩
set_option maxRecDepth 10000 in
set_option maxHeartbeats 400000 in
/-- Is one of the numbers no page's? -/
theorem IndexK_calls (A : Option Addr) (n c : Nat) (ls : List Int) (w : World) (hn : n = ls.length) (hR : ValsAt w A (ints ls)) (hm : n ≤ 9223372036854775807) :
    Calls Tryd.prog 72 #[.slice A n c, .func (Fn.func 39) #[] #[]] w fun e w' => ∃ j : Int, e = .returned (.int .i64 j) ∧ Hid (j ≥ 0 ↔ ∃ v ∈ ls, v < 0 ∨ 2147483647 < v) ∧ w = w' := by
  have HN := Lib.hid hn
  have HR := Lib.hid hR
  clear hn hR
  go_enter Tryd.func72, Tryd.ntmps72
  go_wp2_with fail
  go_loop [8] (fun i => ∃ t : Nat, t ≤ n ∧ i = .int .i64 (t : Int) ∧ Hid (∀ k, k < t → ¬ (atI ls k < 0 ∨ 2147483647 < atI ls k))) (fun i => n - (intOf i).toNat)
  case atStart => exact ⟨0, Nat.zero_le _, rfl, fun k hk => absurd hk (Nat.not_lt_zero _)⟩
  case round =>
    obtain ⟨t, ht, rfl, HV⟩ := hrel
    by_cases hlt : t < n
    · have hl : t < ls.length := by rw [← HN.out]; exact hlt
      obtain ⟨ad, hA, hc⟩ := HR.out.int t hl
      subst hA
      obtain ⟨m, hm'⟩ : ∃ m, atI ls t = m := ⟨_, rfl⟩
      rw [hm'] at hc
      have HM := Lib.hid hm'
      have HL := Lib.hid hl
      clear hm' hl
      by_cases h49 : m < 0 ∨ 2147483647 < m
      · have hd : decide (m < 0 ∨ 2147483647 < m) = true := decide_eq_true h49
        have HE : Hid (∃ v ∈ ls, v < 0 ∨ 2147483647 < v) := ⟨ls[t]'HL.out, List.getElem_mem _, by rw [← atI_eq ls t HL.out, HM.out]; exact h49⟩
        have HR2 := Lib.hid (Right2_calls m w)
        rw [hd] at HR2
        clear h49 hd
        go_wp2_with (go_at_call 39; (with_reducible refine HR2.out.mono ?_); rintro e w' ⟨rfl, rfl⟩)
        go_ret
        exact ⟨_, rfl, ⟨fun _ => HE.out, fun _ => Int.natCast_nonneg _⟩, rfl⟩
      · have hd : decide (m < 0 ∨ 2147483647 < m) = false := decide_eq_false h49
        have HR2 := Lib.hid (Right2_calls m w)
        rw [hd] at HR2
        have HS : Hid (∀ k, k < t + 1 → ¬ (atI ls k < 0 ∨ 2147483647 < atI ls k)) := fun k hk => by
          by_cases hkt : k < t
          · exact HV.out k hkt
          · obtain rfl : k = t := by omega
            rw [HM.out]; exact h49
        clear h49 HV hd
        go_wp2_with (go_at_call 39; (with_reducible refine HR2.out.mono ?_); rintro e w' ⟨rfl, rfl⟩)
        go_round
        case rel => exact ⟨t + 1, Nat.succ_le_of_lt hlt, congrArg (Value.int .i64) (Int.natCast_succ t).symm, HS.out⟩
        case measure => simp [intOf]; omega
    · obtain rfl : n = t := by omega
      have HE : Hid (¬ ∃ v ∈ ls, v < 0 ∨ 2147483647 < v) := by
        rintro ⟨v, hv, h⟩
        obtain ⟨i, hi, rfl⟩ := List.getElem_of_mem hv
        exact HV.out i (by rw [HN.out]; exact hi) (by rw [atI_eq ls i hi]; exact h)
      clear HV hlt
      go_wp2_with fail
      go_ret
      exact ⟨-1, rfl, ⟨fun h => absurd h (by decide), fun h => absurd h HE.out⟩, rfl⟩
set_option maxRecDepth 10000 in
set_option maxHeartbeats 400000 in
theorem ContainsK_calls (A : Option Addr) (n c : Nat) (ls : List Int) (w : World) (hn : n = ls.length) (hR : ValsAt w A (ints ls)) (hm : n ≤ 9223372036854775807) :
    Calls Tryd.prog 38 #[.slice A n c, .func (Fn.func 39) #[] #[]] w fun e w' => ∃ b : Bool, e = .returned (.bool b) ∧ Hid (b = true ↔ ∃ v ∈ ls, v < 0 ∨ 2147483647 < v) ∧ w = w' := by
  have HI := Lib.hid (IndexK_calls A n c ls w hn hR hm)
  clear hn hR hm
  go_enter Tryd.func38, Tryd.ntmps38
  go_wp2_with (go_at_call 72; (with_reducible refine HI.out.mono ?_); rintro e w' ⟨j, rfl, hj, rfl⟩; refine park ?_; intro q hq)
  refine hq.out ?_
  clear hq HI
  obtain ⟨b, hb⟩ : ∃ b, decide (j ≥ 0) = b := ⟨_, rfl⟩
  have HB : Hid (b = true ↔ ∃ v ∈ ls, v < 0 ∨ 2147483647 < v) := by rw [← hb, decide_eq_true_iff]; exact hj.out
  go_wp2_with fail
  go_ret
  exact ⟨b, ret_bool (by simp), HB.out, rfl⟩
end Go.Proofs.YtibmlgkakeakcaaDoor
