/- Small words of our own: numbers of fixed width as the model spells them; bytes in memory; append and make of bytes as the walk takes them. -/
import Derived.Test.YtibmlgkakeakcaaDoorProg
import Derived.WalkKit
import Derived.WalkSpells
import Derived.WalkLawsBesides
import Derived.KernelRfl
import Derived.Lib.Hide
import Derived.Deep.LoopGhost
import Derived.Deep.DeepCutAuto
import Derived.Laws.CopyOwn
import Derived.Deep.AppendSrc
import Derived.Lib.ConvBytes
import Derived.Deep.MidRow
import Derived.Deep.WholeRow
import Derived.Great.Walk
import Derived.Maps.AppendAt
import Derived.Deep.RegionHeld3
import Derived.Deep.QuietTactic
import Derived.BigQuiet
import Derived.Deep.OwnRows
namespace Go.Proofs.YtibmlgkakeakcaaDoor
open Go.RowKit

theorem ret_int {k : IntKind} {a b : Int} (h : a = b) : Ending.returned (.int k a) = .returned (.int k b) := by rw [h]
theorem ret_bool {a b : Bool} (h : a = b) : Ending.returned (.bool a) = .returned (.bool b) := by rw [h]

/-- A number of 32 bits as the model holds it; a plain definition: the walk's simp does not look behind it. -/
def n32 (a : BitVec 32) : Int := (a.toNat : Int)
theorem n32_inj {a b : BitVec 32} (h : n32 a = n32 b) : a = b := by
  apply BitVec.eq_of_toNat_eq; unfold n32 at h; omega
theorem n32_lo (a : BitVec 32) : 0 ≤ n32 a := by unfold n32; omega
theorem n32_hi (a : BitVec 32) : n32 a ≤ 4294967295 := by unfold n32; have := a.isLt; omega
theorem n32_of (n : Int) (h0 : 0 ≤ n) (h1 : n ≤ 4294967295) : ∃ a, n32 a = n := ⟨BitVec.ofNat 32 n.toNat, by unfold n32; simp; omega⟩
theorem n32_lit (n : Nat) (h : n < 4294967296) : n32 (BitVec.ofNat 32 n) = n := by unfold n32; simp; omega
theorem xor32 (a b : BitVec 32) : bits .xor .u32 (n32 a) (n32 b) = n32 (a ^^^ b) := by
  unfold n32; rw [u32_xor_nat _ _ a.isLt b.isLt, BitVec.toNat_xor]
theorem and32 (a b : BitVec 32) : bits .and .u32 (n32 a) (n32 b) = n32 (a &&& b) := by
  unfold n32; rw [u32_and_nat _ _ a.isLt b.isLt, BitVec.toNat_and]
theorem xor32_u8 (a : BitVec 32) (c : UInt8) : bits .xor .u32 (n32 a) (c.toNat : Int) = n32 (a ^^^ (c.toBitVec.setWidth 32)) := by
  have e : (c.toNat : Int) = n32 (c.toBitVec.setWidth 32) := by
    unfold n32
    have e : (c.toBitVec.setWidth 32).toNat = c.toNat := by simp
    rw [e]
  rw [e, xor32]
theorem signed_u8 : IntKind.u8.signed = false := rfl
theorem signed_u32 : IntKind.u32.signed = false := rfl
theorem signed_u64 : IntKind.u64.signed = false := rfl
theorem signed_i64 : IntKind.i64.signed = true := rfl
theorem not32 (a : BitVec 32) : bits .xor .u32 IntKind.u32.max (n32 a) = n32 (~~~ a) := by
  rw [show IntKind.u32.max = n32 (BitVec.allOnes 32) by decide, xor32, BitVec.allOnes_xor]
theorem and32_15 (a : BitVec 32) : bits .and .u32 (n32 a) 15 = n32 (a &&& 15#32) := and32 a 15#32
theorem and32_1 (a : BitVec 32) : bits .and .u32 (n32 a) 1 = n32 (a &&& 1#32) := and32 a 1#32
theorem shr32 (a : BitVec 32) (n : Nat) : n32 a / (2 ^ n : Nat) = n32 (a >>> n) := by
  unfold n32
  rw [BitVec.toNat_ushiftRight, Nat.shiftRight_eq_div_pow]; rfl
theorem shr32_var (a : BitVec 32) (n : Nat) : n32 a / (2 : Int) ^ n = n32 (a >>> n) := by
  rw [← shr32 a n]; congr 1
theorem bit32 (a : BitVec 32) (j : Nat) : (bits .and .u32 (n32 a / (2 : Int) ^ j) (1 : Int) == (1 : Int)) = a.getLsbD j := by
  rw [shr32_var, show (1 : Int) = n32 1#32 from rfl, and32]
  have h : a.getLsbD j = decide (a.toNat / 2 ^ j % 2 = 1) := by rw [BitVec.getLsbD, Nat.testBit_eq_decide_div_mod_eq]
  rw [h, Bool.eq_iff_iff, beq_iff_eq, decide_eq_true_iff]
  unfold n32
  rw [BitVec.toNat_and, BitVec.toNat_ushiftRight, Nat.shiftRight_eq_div_pow]
  have : a.toNat / 2 ^ j &&& (1#32).toNat = a.toNat / 2 ^ j % 2 := Nat.and_two_pow_sub_one_eq_mod _ 1
  rw [this]
  generalize a.toNat / 2 ^ j % 2 = m
  rw [show (1#32).toNat = 1 from rfl]
  omega
theorem shr32_4 (a : BitVec 32) : n32 a / (16 : Int) = n32 (a >>> 4) := by
  have := shr32 a 4
  simpa using this
theorem shr32_1 (a : BitVec 32) : n32 a / (2 : Int) = n32 (a >>> 1) := by
  have := shr32 a 1
  simpa using this
theorem shr32_8 (a : BitVec 32) : n32 a / (256 : Int) = n32 (a >>> 8) := by
  have := shr32 a 8
  simpa using this
theorem shr32_16 (a : BitVec 32) : n32 a / (65536 : Int) = n32 (a >>> 16) := by
  have := shr32 a 16
  simpa using this
theorem shr32_24 (a : BitVec 32) : n32 a / (16777216 : Int) = n32 (a >>> 24) := by
  have := shr32 a 24
  simpa using this
theorem shr32_31 (a : BitVec 32) : n32 a / (2147483648 : Int) = n32 (a >>> 31) := by
  have := shr32 a 31
  simpa using this
theorem shl32_1 (a : BitVec 32) : (n32 a * (2 : Int)) % (4294967296 : Int) = n32 (a <<< 1) := by
  unfold n32
  rw [BitVec.toNat_shiftLeft, Nat.shiftLeft_eq]
  omega
/-- The lowest byte. -/
def byteOf (x : BitVec 32) : UInt8 := ⟨x.setWidth 8⟩
theorem byteOf_mod (x : BitVec 32) : n32 x % (256 : Int) = ((byteOf x).toNat : Int) := by
  unfold n32 byteOf
  show (x.toNat : Int) % 256 = ((x.setWidth 8).toNat : Int)
  rw [BitVec.toNat_setWidth]
  omega
theorem byteOf_tmod (x : BitVec 32) : (n32 x).tmod (256 : Int) % (256 : Int) = ((byteOf x).toNat : Int) := by
  rw [Int.tmod_eq_emod_of_nonneg (n32_lo x), ← byteOf_mod]
  omega
theorem ltu8 (a : UInt8) : (0 : Int) ≤ (a.toNat : Int) ∧ (a.toNat : Int) ≤ 255 := by have := a.toNat_lt; omega


/-- A byte of a list; a plain definition: the walk's simp does not look behind it. -/
def at8 (l : List UInt8) (i : Nat) : UInt8 := l.getD i 0
theorem at8_eq (l : List UInt8) (i : Nat) (h : i < l.length) : at8 l i = l[i] := by
  unfold at8; rw [List.getD_eq_getElem?_getD, List.getElem?_eq_getElem h]; rfl
theorem take_snoc8 (l : List UInt8) (k : Nat) (h : k < l.length) : l.take (k + 1) = l.take k ++ [at8 l k] := by
  rw [List.take_succ_eq_append_getElem h, at8_eq _ _ h]


/-! ### Stops: the walk is left at an operation of a given kind, and taken up again by 'refine hq.out ?_; clear hq'. -/
theorem park {p : Prop} (h : ∀ q : Prop, Hid (p → q) → q) : p := h p (fun x => x)
section
variable {P : Program} {ops : Array Oper} {Q : Exit → Act → World → Prop} {rest : List Oper} {a : Act} {w : World} {d : Option Tmp} {ty : TypeId} {pos : String} {after : Array Edge} {gd : Option (Nat × Bool)}
theorem park_append {xs : Array Operand} {ts : Array TypeId} (hq : ∀ q : Prop, Hid (wpList P ops Q ({ dst := d, op := .call { callee := .builtin .append, args := xs, argTypes := ts }, type := ty, pos := pos, after := after, guard := gd } :: rest) a w → q) → q) : wpList P ops Q ({ dst := d, op := .call { callee := .builtin .append, args := xs, argTypes := ts }, type := ty, pos := pos, after := after, guard := gd } :: rest) a w := park hq
theorem park_copy {xs : Array Operand} {ts : Array TypeId} (hq : ∀ q : Prop, Hid (wpList P ops Q ({ dst := d, op := .call { callee := .builtin .copy, args := xs, argTypes := ts }, type := ty, pos := pos, after := after, guard := gd } :: rest) a w → q) → q) : wpList P ops Q ({ dst := d, op := .call { callee := .builtin .copy, args := xs, argTypes := ts }, type := ty, pos := pos, after := after, guard := gd } :: rest) a w := park hq
theorem park_delete {xs : Array Operand} {ts : Array TypeId} (hq : ∀ q : Prop, Hid (wpList P ops Q ({ dst := d, op := .call { callee := .builtin .delete, args := xs, argTypes := ts }, type := ty, pos := pos, after := after, guard := gd } :: rest) a w → q) → q) : wpList P ops Q ({ dst := d, op := .call { callee := .builtin .delete, args := xs, argTypes := ts }, type := ty, pos := pos, after := after, guard := gd } :: rest) a w := park hq
theorem park_make {t : TypeId} {l c : Operand} (hq : ∀ q : Prop, Hid (wpList P ops Q ({ dst := d, op := .makeSlice t l c, type := ty, pos := pos, after := after, guard := gd } :: rest) a w → q) → q) : wpList P ops Q ({ dst := d, op := .makeSlice t l c, type := ty, pos := pos, after := after, guard := gd } :: rest) a w := park hq
theorem park_makeMap {t : TypeId} {r : Option Operand} (hq : ∀ q : Prop, Hid (wpList P ops Q ({ dst := d, op := .makeMap t r, type := ty, pos := pos, after := after, guard := gd } :: rest) a w → q) → q) : wpList P ops Q ({ dst := d, op := .makeMap t r, type := ty, pos := pos, after := after, guard := gd } :: rest) a w := park hq
theorem park_convert {s t : TypeId} {x : Operand} (hq : ∀ q : Prop, Hid (wpList P ops Q ({ dst := d, op := .convert s t x, type := ty, pos := pos, after := after, guard := gd } :: rest) a w → q) → q) : wpList P ops Q ({ dst := d, op := .convert s t x, type := ty, pos := pos, after := after, guard := gd } :: rest) a w := park hq
theorem park_lookup {t : TypeId} {x i : Operand} {ok : Bool} (hq : ∀ q : Prop, Hid (wpList P ops Q ({ dst := d, op := .lookup t x i ok, type := ty, pos := pos, after := after, guard := gd } :: rest) a w → q) → q) : wpList P ops Q ({ dst := d, op := .lookup t x i ok, type := ty, pos := pos, after := after, guard := gd } :: rest) a w := park hq
theorem park_mapUpdate {t : TypeId} {m k v : Operand} (hq : ∀ q : Prop, Hid (wpList P ops Q ({ dst := d, op := .mapUpdate t m k v, type := ty, pos := pos, after := after, guard := gd } :: rest) a w → q) → q) : wpList P ops Q ({ dst := d, op := .mapUpdate t m k v, type := ty, pos := pos, after := after, guard := gd } :: rest) a w := park hq
theorem park_slice {t : TypeId} {x : Operand} {l h m : Option Operand} (hq : ∀ q : Prop, Hid (wpList P ops Q ({ dst := d, op := .slice t x l h m, type := ty, pos := pos, after := after, guard := gd } :: rest) a w → q) → q) : wpList P ops Q ({ dst := d, op := .slice t x l h m, type := ty, pos := pos, after := after, guard := gd } :: rest) a w := park hq
theorem park_load {t : TypeId} {x : Operand} (hq : ∀ q : Prop, Hid (wpList P ops Q ({ dst := d, op := .load t x, type := ty, pos := pos, after := after, guard := gd } :: rest) a w → q) → q) : wpList P ops Q ({ dst := d, op := .load t x, type := ty, pos := pos, after := after, guard := gd } :: rest) a w := park hq
theorem park_store {t : TypeId} {x v : Operand} (hq : ∀ q : Prop, Hid (wpList P ops Q ({ dst := d, op := .store t x v, type := ty, pos := pos, after := after, guard := gd } :: rest) a w → q) → q) : wpList P ops Q ({ dst := d, op := .store t x v, type := ty, pos := pos, after := after, guard := gd } :: rest) a w := park hq
theorem park_binOp {op : BinOp} {t s : TypeId} {x y : Operand} (hq : ∀ q : Prop, Hid (wpList P ops Q ({ dst := d, op := .binOp op t x y s, type := ty, pos := pos, after := after, guard := gd } :: rest) a w → q) → q) : wpList P ops Q ({ dst := d, op := .binOp op t x y s, type := ty, pos := pos, after := after, guard := gd } :: rest) a w := park hq
theorem park_range {t : TypeId} {x : Operand} (hq : ∀ q : Prop, Hid (wpList P ops Q ({ dst := d, op := .range t x, type := ty, pos := pos, after := after, guard := gd } :: rest) a w → q) → q) : wpList P ops Q ({ dst := d, op := .range t x, type := ty, pos := pos, after := after, guard := gd } :: rest) a w := park hq
theorem park_next {x : Operand} {s : Bool} (hq : ∀ q : Prop, Hid (wpList P ops Q ({ dst := d, op := .next x s, type := ty, pos := pos, after := after, guard := gd } :: rest) a w → q) → q) : wpList P ops Q ({ dst := d, op := .next x s, type := ty, pos := pos, after := after, guard := gd } :: rest) a w := park hq
theorem park_buildSlice {t : TypeId} {n : Nat} {ps : Array (Nat × Operand)} (hq : ∀ q : Prop, Hid (wpList P ops Q ({ dst := d, op := .buildSlice t n ps, type := ty, pos := pos, after := after, guard := gd } :: rest) a w → q) → q) : wpList P ops Q ({ dst := d, op := .buildSlice t n ps, type := ty, pos := pos, after := after, guard := gd } :: rest) a w := park hq
theorem park_build {t : TypeId} {ps : Array (Nat × Operand)} (hq : ∀ q : Prop, Hid (wpList P ops Q ({ dst := d, op := .build t ps, type := ty, pos := pos, after := after, guard := gd } :: rest) a w → q) → q) : wpList P ops Q ({ dst := d, op := .build t ps, type := ty, pos := pos, after := after, guard := gd } :: rest) a w := park hq
theorem park_indexAddr {t : TypeId} {x i : Operand} (hq : ∀ q : Prop, Hid (wpList P ops Q ({ dst := d, op := .indexAddr t x i, type := ty, pos := pos, after := after, guard := gd } :: rest) a w → q) → q) : wpList P ops Q ({ dst := d, op := .indexAddr t x i, type := ty, pos := pos, after := after, guard := gd } :: rest) a w := park hq
end

/-- Bytes that lie in memory, from an address on: what a slice of them reads. -/
def Bytes (w : World) (A : Option Addr) (l : List UInt8) : Prop := ∀ i : Nat, i < l.length → ∃ ad, A = some ad ∧ w.cell? (ad.add i) = some (.int .u8 ((at8 l i).toNat : Int))

theorem u8_add1 (a : UInt8) : ((a.toNat : Int) + (1 : Int)) % (256 : Int) = ((a + 1).toNat : Int) := by
  rw [UInt8.toNat_add]; simp
theorem u8_mod (a : UInt8) : (a.toNat : Int) % (256 : Int) = (a.toNat : Int) := by have := a.toNat_lt; omega
theorem Bytes.nil (w : World) (A : Option Addr) : Bytes w A [] := fun i h => absurd h (by simp)
theorem at8_take (l : List UInt8) (n i : Nat) (h : i < n) : at8 (l.take n) i = at8 l i := by
  unfold at8; rw [List.getD_eq_getElem?_getD, List.getElem?_take, if_pos h, ← List.getD_eq_getElem?_getD]
theorem at8_drop (l : List UInt8) (n i : Nat) : at8 (l.drop n) i = at8 l (n + i) := by
  unfold at8; rw [List.getD_eq_getElem?_getD, List.getElem?_drop, ← List.getD_eq_getElem?_getD]
theorem Bytes.take {w : World} {A : Option Addr} {l : List UInt8} (h : Bytes w A l) (n : Nat) : Bytes w A (l.take n) := by
  intro i hi
  have hn : i < n := by rw [List.length_take] at hi; omega
  have hl : i < l.length := by rw [List.length_take] at hi; omega
  rw [at8_take l n i hn]
  exact h i hl
/-- An address moved on. -/
def moved (A : Option Addr) (n : Nat) : Option Addr := A.map fun ad => ad.add n
theorem add_add (ad : Addr) (n i : Nat) (h : ad.spot = none) : (ad.add n).add i = ad.add (n + i) := by
  obtain ⟨b, o, s⟩ := ad
  simp only at h
  subst h
  simp [Addr.add_lit, Nat.add_assoc]
theorem Bytes.spot {w : World} {A : Option Addr} {l : List UInt8} (h : Bytes w A l) (hl : 0 < l.length) : ∃ b o, A = some ⟨b, o, none⟩ := by
  obtain ⟨ad, hA, hx⟩ := h 0 hl
  obtain ⟨b, o, s⟩ := ad
  refine ⟨b, o, ?_⟩
  rw [hA]
  cases s with
  | none => rfl
  | some s => simp [World.cell?, Addr.add] at hx; split at hx <;> simp at hx
theorem Bytes.drop {w : World} {b o : Nat} {l : List UInt8} (h : Bytes w (some ⟨b, o, none⟩) l) (n : Nat) : Bytes w (some ⟨b, o + n, none⟩) (l.drop n) := by
  intro i hi
  rw [List.length_drop] at hi
  obtain ⟨ad, hA, hx⟩ := h (n + i) (by omega)
  cases hA
  refine ⟨_, rfl, ?_⟩
  rw [at8_drop, ← hx, Addr.add_lit, Addr.add_lit, Nat.add_assoc]
theorem Bytes.dropMap {w : World} {A : Option Addr} {l : List UInt8} (h : Bytes w A l) (n : Nat) : Bytes w (Option.map (fun x => x.add n) A) (l.drop n) := by
  intro i hi
  rw [List.length_drop] at hi
  obtain ⟨b, o, rfl⟩ := h.spot (by omega)
  have e : Option.map (fun x => Addr.add x n) (some (⟨b, o, none⟩ : Addr)) = some ⟨b, o + n, none⟩ := by rw [Option.map_some, Addr.add_lit]
  rw [e]
  exact (h.drop n) i (by rw [List.length_drop]; exact hi)
theorem Bytes.none {w : World} {l : List UInt8} (h : Bytes w none l) : l = [] := by
  cases l with
  | nil => rfl
  | cons x r => obtain ⟨ad, hA, _⟩ := h 0 (by simp); cases hA
theorem Bytes.of_cells {w w' : World} {A : Option Addr} {l : List UInt8} (h : Bytes w A l) (hc : ∀ ad, A = some ad → ∀ i, i < l.length → w'.cell? (ad.add i) = w.cell? (ad.add i)) : Bytes w' A l := by
  intro i hi
  obtain ⟨ad, hA, hx⟩ := h i hi
  exact ⟨ad, hA, (hc ad hA i hi).trans hx⟩
theorem add_block (ad : Addr) (i : Nat) : (ad.add i).block = ad.block := by
  unfold Addr.add; split <;> rfl
theorem Bytes.below {w w' : World} {A : Option Addr} {l : List UInt8} (h : Bytes w A l) (hb : Below w.heap.size w w') : Bytes w' A l := by
  intro i hi
  obtain ⟨ad, hA, hx⟩ := h i hi
  exact ⟨ad, hA, (hb.cell (World.block_lt_of_cell? w _ hx)).trans hx⟩
theorem Bytes.drew {w : World} {A : Option Addr} {l : List UInt8} (h : Bytes w A l) : Bytes w.drew A l := h
theorem Bytes.alloc {w : World} {A : Option Addr} {l : List UInt8} (h : Bytes w A l) (o : Obj) : Bytes (w.alloc o) A l := h.below ((Below.refl _ _).alloc (Nat.le_refl _) _)

/-- Bytes as the model's cells. -/
def cells8 (l : List UInt8) : List Value := l.map fun c => .int .u8 (c.toNat : Int)
theorem cells8_length (l : List UInt8) : (cells8 l).length = l.length := by simp [cells8]
theorem cells8_append (l m : List UInt8) : cells8 (l ++ m) = cells8 l ++ cells8 m := by simp [cells8]
theorem cells8_get (l : List UInt8) (i : Nat) (h : i < l.length) : (cells8 l)[i]? = some (.int .u8 ((at8 l i).toNat : Int)) := by
  simp [cells8, at8_eq _ _ h, List.getElem?_eq_getElem h]
theorem cells8_one (l : List UInt8) : ∀ u ∈ cells8 l, u.oneCell' = true := by
  intro u hu
  simp only [cells8, List.mem_map] at hu
  obtain ⟨c, _, rfl⟩ := hu
  rfl
theorem cells8_set (l : List UInt8) (i : Nat) (c : UInt8) : (cells8 l).set i (.int .u8 (c.toNat : Int)) = cells8 (l.set i c) := by
  simp [cells8, List.map_set]
theorem cells8_take (l : List UInt8) (n : Nat) : (cells8 l).take n = cells8 (l.take n) := by simp [cells8, List.map_take]
theorem cells8_drop (l : List UInt8) (n : Nat) : (cells8 l).drop n = cells8 (l.drop n) := by simp [cells8, List.map_drop]

/-- A string of bytes; a plain definition. -/
def bstr (l : List UInt8) : ByteArray := ⟨l.toArray⟩
theorem bstr_inj {l m : List UInt8} (h : bstr l = bstr m) : l = m := by
  unfold bstr at h
  simpa using h
theorem bstr_toList (l : List UInt8) : (bstr l).toList = l := by unfold bstr; rw [ByteArray.toList_mk]
theorem bstr_size (l : List UInt8) : (bstr l).size = l.length := by simp [bstr, ByteArray.size]

/-- 'string(b)'. -/
theorem run_str {w : World} {A : Option Addr} {m c : Nat} {l : List UInt8} (hm : m = l.length) (hb : Bytes w A l) :
    (convert 30 9 (.slice A m c)).run Tryd.prog w = .ok (.string (bstr l)) w := by
  subst hm
  cases l with
  | nil =>
    cases A with
    | none => exact run_convert_bytes_nil w _ _ Tryd.underlying30 Tryd.underlying5 0 c _ Tryd.underlying9
    | some ad =>
      simp only [List.length_nil]
      rw [run_convert_bytes_string w _ _ _ _ _ c Tryd.underlying30 Tryd.underlying5 Tryd.underlying9, run_bytesToString w ad 0 c [] (by simp [loadCells, loadCellsFrom])]
      rfl
  | cons x r =>
    obtain ⟨b, o, rfl⟩ := hb.spot (by simp)
    have h := run_convert_bytes_arg (P := Tryd.prog) w 30 5 Tryd.underlying30 Tryd.underlying5 b o (x :: r).length c ((x :: r).map fun u => (u.toNat : Int)) (by simp) (fun i hi => by
      obtain ⟨ad, hA, hc⟩ := hb i hi
      cases hA
      rw [Addr.add_lit] at hc
      rw [hc, at8_eq _ _ hi, List.getD_eq_getElem?_getD, List.getElem?_map, List.getElem?_eq_getElem hi]
      rfl) _ Tryd.underlying9
    have key : strOfNums ((x :: r).map fun u => (u.toNat : Int)) = bstr (x :: r) := by
      have e : ∀ l : List UInt8, (l.map fun u => (u.toNat : Int)).map (fun n => UInt8.ofNat n.toNat) = l := by
        intro l
        induction l with
        | nil => rfl
        | cons y l ih => rw [List.map_cons, List.map_cons, ih]; simp
      exact congrArg (fun y : List UInt8 => (⟨y.toArray⟩ : ByteArray)) (e (x :: r))
    rw [key] at h
    exact h

/-- A slice value that owns bytes in a block of its own, from block number base on. -/
def OwnB (w : World) (base : Nat) (v : Value) (l : List UInt8) : Prop := w.ownsRow base 5 1 v l.length (cells8 l)

theorem OwnB.form {w : World} {base : Nat} {v : Value} {l : List UInt8} (h : OwnB w base v l) :
    (v = .slice none 0 0 ∧ l = []) ∨ ∃ g c, v = .slice (some ⟨g, 0, none⟩) l.length c ∧ base ≤ g ∧ g < w.heap.size ∧ l.length ≤ c := by
  rcases h.2 with ⟨h1, h2⟩ | ⟨g, cap, cur, h1, h2, h3, h4, _⟩
  · exact .inl ⟨h1, List.eq_nil_of_length_eq_zero h2⟩
  · refine .inr ⟨g, cap, h1, h2, ?_, h4⟩
    exact (Array.getElem?_eq_some_iff.1 h3).1
theorem OwnB.cells {w : World} {base g n c : Nat} {l : List UInt8} (h : OwnB w base (.slice (some ⟨g, 0, none⟩) n c) l) (i : Nat) (hi : i < l.length) :
    w.cell? ⟨g, i, none⟩ = some (.int .u8 ((at8 l i).toNat : Int)) ∧ w.frozen? ⟨g, i, none⟩ = false := by
  have hn : n = l.length := by
    rcases h.form with ⟨h1, _⟩ | ⟨g', c', h1, _⟩
    · simp at h1
    · simp at h1; exact h1.2.1
  subst hn
  refine ⟨?_, World.ownsRow.frozenAt h i⟩
  rw [World.ownsRow.cellAt h i (by omega), cells8_get l i hi]
theorem OwnB.bytes {w : World} {base n c : Nat} {A : Option Addr} {l : List UInt8} (h : OwnB w base (.slice A n c) l) : Bytes w A l := by
  intro i hi
  rcases h.form with ⟨_, h2⟩ | ⟨g, c', h1, _⟩
  · subst h2; simp at hi
  · obtain ⟨rfl, rfl, rfl⟩ : A = some ⟨g, 0, none⟩ ∧ n = l.length ∧ c = c' := by simpa using h1
    refine ⟨_, rfl, ?_⟩
    rw [Addr.add_lit, Nat.zero_add]
    exact (h.cells i hi).1
theorem OwnB.len {w : World} {base n c : Nat} {A : Option Addr} {l : List UInt8} (h : OwnB w base (.slice A n c) l) : n = l.length := by
  rcases h.form with ⟨h1, h2⟩ | ⟨g, c', h1, _⟩
  · subst h2; simp at h1; exact h1.2.1
  · simp at h1; exact h1.2.1
theorem OwnB.nilcap {w : World} {base n c : Nat} {l : List UInt8} (h : OwnB w base (.slice none n c) l) : n = 0 ∧ c = 0 ∧ l = [] := by
  rcases h.form with ⟨h1, h2⟩ | ⟨g, c', h1, _⟩
  · simp at h1; exact ⟨h1.1, h1.2, h2⟩
  · simp at h1
theorem OwnB.lt {w : World} {base : Nat} {v : Value} {l : List UInt8} (h : OwnB w base v l) : ∀ k, v.ownBlock = some k → base ≤ k ∧ k < w.heap.size := World.ownsRow.lt h
theorem OwnB.below {w w' : World} {base : Nat} {v : Value} {l : List UInt8} (h : OwnB w base v l) (hb : Below w.heap.size w w') : OwnB w' base v l := by
  refine ⟨h.1, ?_⟩
  rcases h.2 with h2 | ⟨g, cap, cur, h1, h2, h3, r⟩
  · exact .inl h2
  · exact .inr ⟨g, cap, cur, h1, h2, by rw [hb.block g ((Array.getElem?_eq_some_iff.1 h3).1)]; exact h3, r⟩
theorem OwnB.base {w : World} {base base' : Nat} {v : Value} {l : List UInt8} (h : OwnB w base v l) (hb : base' ≤ base) : OwnB w base' v l := by
  refine ⟨h.1, ?_⟩
  rcases h.2 with h2 | ⟨g, cap, cur, h1, h2, r⟩
  · exact .inl h2
  · exact .inr ⟨g, cap, cur, h1, by omega, r⟩
theorem OwnB.drew {w : World} {base : Nat} {v : Value} {l : List UInt8} (h : OwnB w base v l) : OwnB w.drew base v l := h
theorem OwnB.alloc {w : World} {base : Nat} {v : Value} {l : List UInt8} (h : OwnB w base v l) (o : Obj) : OwnB (w.alloc o) base v l := h.below ((Below.refl _ _).alloc (Nat.le_refl _) _)
theorem OwnB.grown {w w' : World} {base : Nat} {v : Value} {l : List UInt8} {row : Option Nat} (h : OwnB w base v l) (hg : w.grownBy w' row) (hne : v.ownBlock = none ∨ v.ownBlock ≠ row) : OwnB w' base v l :=
  World.ownsRow.kept h hg hne
theorem OwnB.set {w : World} {base g n c : Nat} {l : List UInt8} (h : OwnB w base (.slice (some ⟨g, 0, none⟩) n c) l) (i : Nat) (x : UInt8) :
    OwnB (w.setCell ⟨g, i, none⟩ (.int .u8 (x.toNat : Int))) base (.slice (some ⟨g, 0, none⟩) n c) (l.set i x) := by
  have hn := h.len
  subst hn
  have := (World.ownsRow.stored h i (.int .u8 (x.toNat : Int))).1
  unfold OwnB
  rw [List.length_set, ← cells8_set]
  exact this

theorem OwnB.lit (w : World) (base : Nat) (hb : base ≤ w.heap.size) (cs : List Value) (l : List UInt8) (h : cs = cells8 l) (n : Nat) (hn : n = l.length) (hm : n ≤ maxLen) :
    OwnB (w.alloc (.cells cs.toArray 5)) base (.slice (some ⟨w.heap.size, 0, none⟩) n n) l := by
  subst hn
  subst h
  have := World.ownsRow_lit (base := base) (e := 5) (size := 1) w (cells8 l).toArray l.length hb hm (by simp [cells8_length])
  simpa [OwnB] using this

theorem info8 : (Tryd.prog.info? 5).map (fun i => (i.zero, i.size, i.bytes)) = some (some (.int .u8 0), 1, 1) := by kernel_rfl

/-- append of any bytes onto bytes of one's own. -/
theorem wpList_append_bytes {w : World} {ops : Array Oper} {rest : List Oper} {o : Oper} {a : Act} {Q : Exit → Act → World → Prop} (hgd : o.guard = none) (s x : Operand)
    (ho : o.op = .call { callee := .builtin .append, args := #[s, x], argTypes := #[30, 30] })
    (base : Nat) (v : Value) (l : List UInt8) (hs : a.eval s = v) (hown : OwnB w base v l)
    (A : Option Addr) (m c : Nat) (l' : List UInt8) (hx : a.eval x = .slice A m c) (hm : m = l'.length) (hnil : A = none → c = 0) (hb : Bytes w A l')
    (hbytes : l.length + l'.length ≤ 140737488355328) (hbase : base ≤ w.heap.size)
    (h : ∀ v' w', OwnB w' base v' (l ++ l') → w.grownBy w' v.ownBlock → (v' = .slice none 0 0 ↔ v = .slice none 0 0 ∧ m = 0) → wpList Tryd.prog ops Q rest (a.put o.dst v') w') : wpList Tryd.prog ops Q (o :: rest) a w := by
  obtain ⟨i, hi, hz0, hz1, hz2⟩ := info_parts info8
  subst hm
  cases A with
  | some ad =>
    refine wpList_append_own w hgd s x _ ho base 5 i (.int .u8 0) 1 1 Tryd.underlying30 hi hz0 hz1 hz2 rfl (by decide) v l.length (cells8 l) hs hown ad l'.length c (cells8 l') hx (by rw [cells8_length, Nat.mul_one]) ?_ (cells8_one l') (by unfold maxLen; omega) (by omega) hbase ?_
    · intro j u hj
      have hlt : j < l'.length := by have := (List.getElem?_eq_some_iff.1 hj).1; rwa [cells8_length] at this
      obtain ⟨ad', hA, hc⟩ := hb j hlt
      cases hA
      rw [cells8_get l' j hlt] at hj
      rw [hc, hj]
    · intro v' w' hown' hg hnn
      refine h v' w' ?_ hg hnn
      unfold OwnB
      rw [List.length_append, cells8_append]
      exact hown'
  | none =>
    have hl : l' = [] := by
      cases l' with
      | nil => rfl
      | cons y r => obtain ⟨ad, hA, _⟩ := hb 0 (by simp); cases hA
    subst hl
    have hc := hnil rfl
    subst hc
    refine wpList_plain hgd fun K hK => ?_
    have hr := run_append_owned_none (P := Tryd.prog) w base 30 o.type 5 i 1 Tryd.underlying30 hi v l.length (cells8 l) hown
    unfold Oper.wp execOp
    simp only [ho, resolve, invoke, builtin, Sem.run_bind, Sem.run_pure, Result.andThen_ok, List.map_toArray, List.map_cons, List.map_nil, hs, hx]
    simp only [List.length_nil, hr, Result.andThen_ok]
    refine hK _ _ (h v w (by simpa using hown) (World.grownBy.refl _ _) (by simp))

/-- make of n bytes 0. -/
theorem wpList_make_bytes {w : World} {ops : Array Oper} {rest : List Oper} {o : Oper} {a : Act} {Q : Exit → Act → World → Prop} (hgd : o.guard = none) (l c : Operand)
    (ho : o.op = Op.makeSlice 30 l c) (base : Nat) (L C : Int) (n : Nat) (hl : a.eval l = .int .i64 L) (hc : a.eval c = .int .i64 C) (hL : L = (n : Int)) (hC : C = (n : Int)) (hn : n ≤ 140737488355328) (hbase : base ≤ w.heap.size)
    (h : ∀ w', OwnB w' base (.slice (some ⟨w.heap.size, 0, none⟩) n n) (List.replicate n 0) → w.grownBy w' none → wpList Tryd.prog ops Q rest (a.put o.dst (.slice (some ⟨w.heap.size, 0, none⟩) n n)) w') : wpList Tryd.prog ops Q (o :: rest) a w := by
  obtain ⟨i, hi, hz0, hz1, hz2⟩ := info_parts info8
  refine wpList_make_full w hgd l c _ ho base 5 i (.int .u8 0) 1 Tryd.underlying30 hi hz0 hz1 .i64 .i64 L C n hl hc hL hC (by rw [hz2]; omega) (by unfold maxLen; omega) hbase ?_
  intro w' hown hg
  refine h w' ?_ hg
  unfold OwnB
  have e : (madeCells (Value.int .u8 0).cells (n * 1)).toList = cells8 (List.replicate n 0) := by
    show (madeCells #[.int .u8 0] (n * 1)).toList = _
    rw [toList_madeCells_one, Nat.mul_one]
    simp [cells8]
  rw [e] at hown
  rw [List.length_replicate]
  exact hown
/-- make of no bytes, with room for n. -/
theorem wpList_make_room {w : World} {ops : Array Oper} {rest : List Oper} {o : Oper} {a : Act} {Q : Exit → Act → World → Prop} (hgd : o.guard = none) (l c : Operand)
    (ho : o.op = Op.makeSlice 30 l c) (base : Nat) (C : Int) (n : Nat) (hl : a.eval l = .int .i64 0) (hc : a.eval c = .int .i64 C) (hC : C = (n : Int)) (hn : n ≤ 140737488355328) (hbase : base ≤ w.heap.size)
    (h : ∀ w', OwnB w' base (.slice (some ⟨w.heap.size, 0, none⟩) 0 n) [] → w.grownBy w' none → wpList Tryd.prog ops Q rest (a.put o.dst (.slice (some ⟨w.heap.size, 0, none⟩) 0 n)) w') : wpList Tryd.prog ops Q (o :: rest) a w := by
  obtain ⟨i, hi, hz0, hz1, hz2⟩ := info_parts info8
  exact wpList_make_own w hgd l c _ ho base 5 i (.int .u8 0) 1 Tryd.underlying30 hi hz0 hz1 .i64 .i64 C n hl hc hC (by rw [hz2]; omega) (by unfold maxLen; omega) hbase h

/-- All is as it was but for the blocks in S (and what is new). -/
structure Kept (S : Nat → Prop) (w w' : World) : Prop where
  os : w'.os = w.os
  tape : w'.tape = w.tape
  output : w'.output = w.output
  size : w.heap.size ≤ w'.heap.size
  block : ∀ k, k < w.heap.size → ¬ S k → w'.heap[k]? = w.heap[k]?
theorem Kept.refl (S : Nat → Prop) (w : World) : Kept S w w := ⟨rfl, rfl, rfl, Nat.le_refl _, fun _ _ _ => rfl⟩
theorem Kept.trans {S : Nat → Prop} {a b c : World} (h : Kept S a b) (k : Kept S b c) : Kept S a c :=
  ⟨k.os.trans h.os, k.tape.trans h.tape, k.output.trans h.output, Nat.le_trans h.size k.size, fun i hi hs => (k.block i (Nat.lt_of_lt_of_le hi h.size) hs).trans (h.block i hi hs)⟩
theorem Kept.mono {S T : Nat → Prop} {w w' : World} (h : Kept S w w') (hs : ∀ k, k < w.heap.size → S k → T k) : Kept T w w' := ⟨h.os, h.tape, h.output, h.size, fun k hk ht => h.block k hk (fun x => ht (hs k hk x))⟩
theorem Kept.of_below {S : Nat → Prop} {w w' : World} (h : Below w.heap.size w w') : Kept S w w' := ⟨h.os, h.tape, h.output, h.size, fun k hk _ => h.block k hk⟩
theorem Kept.of_grown {w w' : World} {row : Option Nat} {S : Nat → Prop} (h : w.grownBy w' row) (hs : ∀ k, row = some k → S k) : Kept S w w' :=
  ⟨h.os, h.tape, h.output, h.size, fun k hk hn => h.block k hk (fun e => hn (hs k e.symm))⟩
theorem Kept.below {S : Nat → Prop} {B : Nat} {w w' : World} (h : Kept S w w') (hB : B ≤ w.heap.size) (hs : ∀ k, k < B → ¬ S k) : Below B w w' :=
  ⟨h.os, h.tape, h.output, h.size, fun k hk => h.block k (by omega) (hs k hk)⟩
theorem Kept.drew {S : Nat → Prop} {a w : World} (h : Kept S a w) : Kept S a w.drew := ⟨h.os, h.tape, h.output, h.size, h.block⟩
theorem Kept.alloc {S : Nat → Prop} {a w : World} (h : Kept S a w) (o : Obj) : Kept S a (w.alloc o) := h.trans (Kept.of_below ((Below.refl _ _).alloc (Nat.le_refl _) _))
theorem Kept.setCell {S : Nat → Prop} {a w : World} (h : Kept S a w) {p : Addr} (hp : S p.block ∨ a.heap.size ≤ p.block) (u : Value) : Kept S a (w.setCell p u) :=
  ⟨h.os, h.tape, h.output, by simpa [World.setCell] using h.size, fun k hk hs => by
    rw [Below.heap_setCell _ _ _ _ (by rintro rfl; rcases hp with hp | hp; exact hs hp; omega)]; exact h.block k hk hs⟩
theorem Kept.cell {S : Nat → Prop} {w w' : World} (h : Kept S w w') {p : Addr} {v : Value} (hc : w.cell? p = some v) (hs : ¬ S p.block) : w'.cell? p = some v :=
  (World.cell?_of_block (h.block p.block (World.block_lt_of_cell? w p hc) hs)).trans hc
theorem Kept.frozen {S : Nat → Prop} {w w' : World} (h : Kept S w w') {p : Addr} (hp : p.block < w.heap.size) (hs : ¬ S p.block) : w'.frozen? p = w.frozen? p :=
  World.frozen?_of_block (h.block p.block hp hs)
theorem OwnB.kept {S : Nat → Prop} {w w' : World} {base : Nat} {v : Value} {l : List UInt8} (h : OwnB w base v l) (hk : Kept S w w') (hs : ∀ k, v.ownBlock = some k → ¬ S k) : OwnB w' base v l := by
  refine ⟨h.1, ?_⟩
  rcases h.2 with h2 | ⟨g, cap, cur, h1, h2, h3, r⟩
  · exact .inl h2
  · exact .inr ⟨g, cap, cur, h1, h2, by rw [hk.block g ((Array.getElem?_eq_some_iff.1 h3).1) (hs g (by rw [h1]; rfl))]; exact h3, r⟩
theorem Bytes.kept {S : Nat → Prop} {w w' : World} {A : Option Addr} {l : List UInt8} (h : Bytes w A l) (hk : Kept S w w') (hs : ∀ ad, A = some ad → ¬ S ad.block) : Bytes w' A l := by
  intro i hi
  obtain ⟨ad, hA, hx⟩ := h i hi
  exact ⟨ad, hA, hk.cell hx (by rw [add_block]; exact hs ad hA)⟩

/-- A contract that makes memory alone, told from an earlier world on. -/
theorem from0 {P : Program} {f : FuncId} {args : Array Value} {w : World} {v : Value} {w0 : World} (h : Hid (Below w0.heap.size w0 w))
    (c : Calls P f args w fun e w' => e = .returned v ∧ Below w.heap.size w w') : Calls P f args w fun e w' => e = .returned v ∧ Hid (Below w0.heap.size w0 w') :=
  c.mono fun _ _ k => ⟨k.1, h.out.trans (k.2.mono h.out.size)⟩
theorem from_same {P : Program} {f : FuncId} {args : Array Value} {w : World} {v : Value}
    (c : Calls P f args w fun e w' => e = .returned v ∧ w = w') : Calls P f args w fun e w' => e = .returned v ∧ Below w.heap.size w w' :=
  c.mono fun _ w' k => ⟨k.1, by rw [← k.2]; exact Below.refl _ _⟩
theorem hid0 (w : World) : Hid (Below w.heap.size w w) := Below.refl _ _

/-- 'int(uint64(x) % uint64(m))': a number below m. -/
theorem mod_pick (x : Int) (m : Nat) (hm : 0 < m) : ∃ n : Nat, n < m ∧ (IntKind.u64.wrap x).tmod (m : Int) = (n : Int) := by
  have h0 : 0 ≤ IntKind.u64.wrap x := by
    simp only [IntKind.wrap, IntKind.bits, IntKind.signed]; simp; omega
  refine ⟨((IntKind.u64.wrap x) % (m : Int)).toNat, ?_, ?_⟩
  · have := Int.emod_lt_of_pos (IntKind.u64.wrap x) (b := (m : Int)) (by omega)
    have := Int.emod_nonneg (IntKind.u64.wrap x) (b := (m : Int)) (by omega)
    omega
  · rw [Int.tmod_eq_emod_of_nonneg h0]
    have := Int.emod_nonneg (IntKind.u64.wrap x) (b := (m : Int)) (by omega)
    omega

/-! ### more stops, and what stays -/
theorem park_at (O : Op) {P : Program} {ops : Array Oper} {Q : Exit → Act → World → Prop} {rest : List Oper} {a : Act} {w : World} {d : Option Tmp} {ty : TypeId} {pos : String} {after : Array Edge} {gd : Option (Nat × Bool)}
    (hq : ∀ q : Prop, Hid (wpList P ops Q ({ dst := d, op := O, type := ty, pos := pos, after := after, guard := gd } :: rest) a w → q) → q) : wpList P ops Q ({ dst := d, op := O, type := ty, pos := pos, after := after, guard := gd } :: rest) a w := park hq
theorem Kept.setRow {r : Nat} (w : World) (cs : Array Value) : Kept (· = r) w (w.setRow r cs) :=
  ⟨rfl, rfl, rfl, by simp [World.setRow], fun k _ hk => setRow_other w r k cs hk⟩
theorem Kept.set1 (w : World) (a i : Nat) (u : Value) : Kept (· = a) w (w.setCell ⟨a, i, none⟩ u) :=
  (Kept.refl (· = a) w).setCell (p := ⟨a, i, none⟩) (Or.inl (rfl : a = a)) u
def zsec : List UInt8 := List.replicate 256 0
theorem zsec_length : zsec.length = 256 := List.length_replicate
end Go.Proofs.YtibmlgkakeakcaaDoor
/- The plain mathematics of the sums (CRC-32, bit by bit): the step down, its powers, the product of two polynomials, bursts. No program is in sight. -/
namespace Go.Proofs.YtibmlgkakeakcaaDoor.Crc

def poly : BitVec 32 := 0xedb88320#32
/-- One bit down. -/
def D (x : BitVec 32) : BitVec 32 := (x >>> 1) ^^^ (if x.getLsbD 0 then poly else 0#32)
def Dn : Nat → BitVec 32 → BitVec 32
  | 0, x => x
  | n + 1, x => Dn n (D x)

theorem ite_xor {c d : Bool} (p : BitVec 32) : (if (c ^^ d) then p else 0#32) = (if c then p else 0#32) ^^^ (if d then p else 0#32) := by
  cases c <;> cases d <;> simp

theorem D_xor (a b : BitVec 32) : D (a ^^^ b) = D a ^^^ D b := by
  unfold D
  rw [BitVec.getLsbD_xor, ite_xor, BitVec.ushiftRight_xor_distrib]
  ac_rfl
theorem D_zero : D 0#32 = 0#32 := by decide
theorem Dn_xor (n : Nat) : ∀ a b : BitVec 32, Dn n (a ^^^ b) = Dn n a ^^^ Dn n b := by
  induction n with
  | zero => intro a b; rfl
  | succ n ih => intro a b; simp only [Dn, D_xor, ih]
theorem Dn_zero (n : Nat) : Dn n 0#32 = 0#32 := by
  induction n with
  | zero => rfl
  | succ n ih => simp only [Dn, D_zero, ih]
theorem Dn_add (m : Nat) : ∀ (n : Nat) (x : BitVec 32), Dn (m + n) x = Dn n (Dn m x) := by
  induction m with
  | zero => intro n x; simp [Dn]
  | succ m ih => intro n x; rw [show m + 1 + n = (m + n) + 1 by omega]; simp only [Dn, ih]
theorem Dn_one (x : BitVec 32) : Dn 1 x = D x := rfl
theorem Dn_succ' (n : Nat) (x : BitVec 32) : Dn (n + 1) x = D (Dn n x) := by rw [Dn_add n 1]; rfl
theorem Dn_D (n : Nat) (x : BitVec 32) : Dn n (D x) = D (Dn n x) := by rw [← Dn_succ']; rfl

theorem D_inj (a : BitVec 32) (h : D a = 0#32) : a = 0#32 := by
  unfold D at h
  by_cases c : a.getLsbD 0 = true
  · rw [if_pos c] at h
    have := congrArg (fun v => BitVec.getLsbD v 31) h
    simp only [BitVec.getLsbD_xor, BitVec.getLsbD_ushiftRight] at this
    have h31 : a.getLsbD (1 + 31) = false := BitVec.getLsbD_of_ge _ _ (by omega)
    rw [h31] at this
    exact absurd this (by decide)
  · rw [if_neg c] at h
    have hz : a >>> 1 = 0#32 := by simpa using h
    apply BitVec.eq_of_getLsbD_eq
    intro i hi
    cases i with
    | zero => simpa using c
    | succ i =>
      have := congrArg (fun v => BitVec.getLsbD v i) hz
      simp only [BitVec.getLsbD_ushiftRight] at this
      rw [Nat.add_comm]
      simpa using this
theorem Dn_inj (n : Nat) : ∀ a : BitVec 32, Dn n a = 0#32 → a = 0#32 := by
  induction n with
  | zero => intro a h; exact h
  | succ n ih => intro a h; exact D_inj _ (ih _ h)

/-! ### the table of sixteen -/
def halfL : List (BitVec 32) := [0x00000000#32, 0x1db71064#32, 0x3b6e20c8#32, 0x26d930ac#32, 0x76dc4190#32, 0x6b6b51f4#32, 0x4db26158#32, 0x5005713c#32,
  0xedb88320#32, 0xf00f9344#32, 0xd6d6a3e8#32, 0xcb61b38c#32, 0x9b64c2b0#32, 0x86d3d2d4#32, 0xa00ae278#32, 0xbdbdf21c#32]
def half (i : Nat) : BitVec 32 := halfL.getD i 0#32
/-- The table's entry for a number's low four bits; a plain definition, that the walk's simp does not look behind. -/
def halfOf (x : BitVec 32) : BitVec 32 := half (x &&& 15#32).toNat
theorem half_ok : ∀ i, i < 16 → Dn 4 (BitVec.ofNat 32 i) = half i := by decide

theorem D_even (a : BitVec 32) (h : a.getLsbD 0 = false) : D a = a >>> 1 := by unfold D; rw [h]; simp
theorem and15_lt (x : BitVec 32) : (x &&& 15#32).toNat < 16 := by
  rw [BitVec.toNat_and]; exact Nat.lt_of_le_of_lt Nat.and_le_right (by decide)
theorem D_low (x : BitVec 32) (k : Nat) (hk : k + 1 ≤ 4) (h : ∀ i, i < 4 - k → (x.getLsbD i) = false) : D x = x >>> 1 :=
  D_even x (h 0 (by omega))

theorem Dn4_high (x : BitVec 32) (h : ∀ i, i < 4 → x.getLsbD i = false) : Dn 4 x = x >>> 4 := by
  simp only [Dn]
  rw [D_even x (h 0 (by omega))]
  rw [D_even (x >>> 1) (by rw [BitVec.getLsbD_ushiftRight]; exact h 1 (by omega))]
  rw [D_even (x >>> 1 >>> 1) (by simp only [BitVec.getLsbD_ushiftRight]; exact h 2 (by omega))]
  rw [D_even (x >>> 1 >>> 1 >>> 1) (by simp only [BitVec.getLsbD_ushiftRight]; exact h 3 (by omega))]
  apply BitVec.eq_of_getLsbD_eq
  intro i hi
  simp only [BitVec.getLsbD_ushiftRight]
  congr 1
  omega

theorem Dn4_eq (x : BitVec 32) : Dn 4 x = (x >>> 4) ^^^ half (x &&& 15#32).toNat := by
  have e : x = (x &&& 0xfffffff0#32) ^^^ (x &&& 15#32) := by
    apply BitVec.eq_of_getLsbD_eq
    intro i hi
    simp only [BitVec.getLsbD_xor, BitVec.getLsbD_and]
    have : ∀ i, i < 32 → (BitVec.getLsbD 0xfffffff0#32 i ^^ BitVec.getLsbD 15#32 i) = true := by decide
    have h3 := this i hi
    revert h3
    generalize BitVec.getLsbD 0xfffffff0#32 i = p
    generalize BitVec.getLsbD 15#32 i = q
    cases p <;> cases q <;> simp
  have h1 : Dn 4 (x &&& 0xfffffff0#32) = x >>> 4 := by
    rw [Dn4_high]
    · apply BitVec.eq_of_getLsbD_eq
      intro i hi
      simp only [BitVec.getLsbD_ushiftRight, BitVec.getLsbD_and]
      by_cases h : 4 + i < 32
      · have : ∀ j, j < 28 → BitVec.getLsbD 0xfffffff0#32 (4 + j) = true := by decide
        rw [this i (by omega)]; simp
      · rw [BitVec.getLsbD_of_ge x _ (by omega)]; simp
    · intro i hi
      have : ∀ j, j < 4 → BitVec.getLsbD 0xfffffff0#32 j = false := by decide
      simp [BitVec.getLsbD_and, this i hi]
  have h2 : Dn 4 (x &&& 15#32) = half (x &&& 15#32).toNat := by
    rw [← half_ok _ (and15_lt x), BitVec.ofNat_toNat, BitVec.setWidth_eq]
  conv => lhs; rw [e, Dn_xor, h1, h2]

/-- A byte taken in. -/
def stepB (h : BitVec 32) (c : UInt8) : BitVec 32 := Dn 8 (h ^^^ c.toBitVec.setWidth 32)
def sumB (h : BitVec 32) (l : List UInt8) : BitVec 32 := l.foldl stepB h
def ones : BitVec 32 := 0xffffffff#32
def crc (l : List UInt8) : BitVec 32 := ~~~ sumB ones l

theorem stepB_eq (h : BitVec 32) (c : UInt8) : stepB h c =
    ((((h ^^^ c.toBitVec.setWidth 32) >>> 4) ^^^ halfOf (h ^^^ c.toBitVec.setWidth 32)) >>> 4) ^^^
      halfOf ((((h ^^^ c.toBitVec.setWidth 32) >>> 4) ^^^ halfOf (h ^^^ c.toBitVec.setWidth 32))) := by
  unfold halfOf
  unfold stepB
  rw [show ∀ x, Dn 8 x = Dn 4 (Dn 4 x) from fun x => Dn_add 4 4 x, Dn4_eq, Dn4_eq]

theorem sumB_append (h : BitVec 32) (a b : List UInt8) : sumB h (a ++ b) = sumB (sumB h a) b := by simp [sumB]
theorem sumB_snoc (h : BitVec 32) (a : List UInt8) (c : UInt8) : sumB h (a ++ [c]) = stepB (sumB h a) c := by simp [sumB]
theorem sumB_cons (h : BitVec 32) (c : UInt8) (l : List UInt8) : sumB h (c :: l) = sumB (stepB h c) l := rfl

/-! ### linear -/
theorem stepB_xor (g h : BitVec 32) (c d : UInt8) : stepB (g ^^^ h) (c ^^^ d) = stepB g c ^^^ stepB h d := by
  unfold stepB
  rw [← Dn_xor]
  congr 1
  rw [UInt8.toBitVec_xor, BitVec.setWidth_xor]
  ac_rfl

def xorL : List UInt8 → List UInt8 → List UInt8
  | a :: l, b :: m => (a ^^^ b) :: xorL l m
  | _, _ => []
theorem sumB_xorL : ∀ (l m : List UInt8) (g h : BitVec 32), l.length = m.length → sumB (g ^^^ h) (xorL l m) = sumB g l ^^^ sumB h m
  | [], [], g, h, _ => rfl
  | a :: l, b :: m, g, h, e => by
    rw [xorL, sumB_cons, sumB_cons, sumB_cons, stepB_xor]
    exact sumB_xorL l m _ _ (by simpa using e)

theorem stepB_zero (h : BitVec 32) : stepB h 0 = Dn 8 h := by unfold stepB; simp
theorem sumB_zeros (n : Nat) : ∀ h, sumB h (List.replicate n 0) = Dn (8 * n) h := by
  induction n with
  | zero => intro h; rfl
  | succ n ih =>
    intro h
    rw [List.replicate_succ, sumB_cons, ih, stepB_zero, ← Dn_add]
    congr 1
    omega

theorem sumB_split (l : List UInt8) (g h : BitVec 32) : sumB (g ^^^ h) l = sumB g l ^^^ Dn (8 * l.length) h := by
  have := sumB_xorL l (List.replicate l.length 0) g h (by simp)
  rw [sumB_zeros] at this
  rw [← this]
  congr 1
  clear this
  induction l with
  | nil => rfl
  | cons a l ih => simp only [List.length_cons, List.replicate_succ, xorL]; rw [← ih]; simp

/-! ### the product -/
def Mt : Nat → BitVec 32 → BitVec 32 → BitVec 32
  | 0, _, _ => 0#32
  | k + 1, a, b => (if a.getLsbD 31 then b else 0#32) ^^^ Mt k (a <<< 1) (D b)
def times (a b : BitVec 32) : BitVec 32 := Mt 32 a b
def e0 : BitVec 32 := 0x80000000#32

theorem Mt_zero (k : Nat) : ∀ b, Mt k 0#32 b = 0#32 := by
  induction k with
  | zero => intro b; rfl
  | succ k ih => intro b; simp only [Mt]; rw [show (0#32 <<< 1) = 0#32 by decide, ih]; simp

theorem Mt_map (F : BitVec 32 → BitVec 32) (hx : ∀ a b, F (a ^^^ b) = F a ^^^ F b) (hz : F 0#32 = 0#32) (hD : ∀ a, F (D a) = D (F a)) (k : Nat) :
    ∀ a b, F (Mt k a b) = Mt k a (F b) := by
  induction k with
  | zero => intro a b; exact hz
  | succ k ih =>
    intro a b
    simp only [Mt]
    rw [hx, ih, hD]
    congr 1
    split <;> simp [hz]

theorem Mt_xor_right (k : Nat) : ∀ a b c, Mt k a (b ^^^ c) = Mt k a b ^^^ Mt k a c := by
  induction k with
  | zero => intro a b c; simp [Mt]
  | succ k ih =>
    intro a b c
    simp only [Mt, D_xor, ih]
    split
    · ac_rfl
    · simp

theorem Mt_xor_left (k : Nat) : ∀ a a' b, Mt k (a ^^^ a') b = Mt k a b ^^^ Mt k a' b := by
  induction k with
  | zero => intro a a' b; simp [Mt]
  | succ k ih =>
    intro a a' b
    simp only [Mt, BitVec.getLsbD_xor, BitVec.shiftLeft_xor_distrib, ih, ite_xor]
    ac_rfl

theorem Mt_end (k : Nat) : ∀ a b, k ≤ 31 → Mt (k + 1) a b = Mt k a b ^^^ (if a.getLsbD (31 - k) then Dn k b else 0#32) := by
  induction k with
  | zero => intro a b _; simp [Mt, Dn]
  | succ k ih =>
    intro a b hk
    rw [Mt, ih _ _ (by omega)]
    conv => rhs; rw [Mt]
    have e : (a <<< 1).getLsbD (31 - k) = a.getLsbD (31 - (k + 1)) := by
      rw [BitVec.getLsbD_shiftLeft]
      have h1 : decide (31 - k < 32) = true := by simp; omega
      have h2 : decide (31 - k < 1) = false := by simp; omega
      rw [h1, h2, show 31 - k - 1 = 31 - (k + 1) by omega]
      simp
    rw [e]
    simp only [Dn]
    ac_rfl

theorem Mt_congr (k : Nat) : ∀ a a' b, k ≤ 32 → (∀ i, 32 - k ≤ i → i < 32 → a.getLsbD i = a'.getLsbD i) → Mt k a b = Mt k a' b := by
  induction k with
  | zero => intro a a' b _ _; rfl
  | succ k ih =>
    intro a a' b hk h
    rw [Mt_end _ _ _ (by omega), Mt_end _ _ _ (by omega), ih a a' b (by omega) (fun i h1 h2 => h i (by omega) h2), h (31 - k) (by omega) (by omega)]

theorem Dn_e0 : ∀ k, k < 32 → Dn k e0 = 1#32 <<< (31 - k) := by decide

theorem Mt_e0_bit (k : Nat) : ∀ a i, k ≤ 32 → i < 32 → (Mt k a e0).getLsbD i = (decide (32 - k ≤ i) && a.getLsbD i) := by
  induction k with
  | zero => intro a i _ hi; simp [Mt]; omega
  | succ k ih =>
    intro a i hk hi
    rw [Mt_end _ _ _ (by omega), BitVec.getLsbD_xor, ih a i (by omega) hi, Dn_e0 k (by omega)]
    by_cases h1 : i = 31 - k
    · subst h1
      have : decide (32 - k ≤ 31 - k) = false := by simp; omega
      rw [this]
      have : decide (32 - (k + 1) ≤ 31 - k) = true := by simp
      rw [this]
      have one : (1#32 <<< (31 - k)).getLsbD (31 - k) = true := by
        rw [BitVec.getLsbD_shiftLeft]; simp; omega
      split <;> simp_all
    · have : (if a.getLsbD (31 - k) = true then 1#32 <<< (31 - k) else 0#32).getLsbD i = false := by
        split
        · rw [BitVec.getLsbD_shiftLeft]
          by_cases h2 : i < 31 - k
          · simp [h2]
          · have : (1#32).getLsbD (i - (31 - k)) = false := by
              have : i - (31 - k) ≠ 0 := by omega
              simp [this]
            rw [this]; simp
        · simp
      rw [this]
      have : decide (32 - k ≤ i) = decide (32 - (k + 1) ≤ i) := by
        apply decide_eq_decide.mpr; omega
      rw [this]; simp

theorem times_e0 (a : BitVec 32) : times a e0 = a := by
  apply BitVec.eq_of_getLsbD_eq
  intro i hi
  rw [times, Mt_e0_bit 32 a i (by omega) hi]; simp

theorem times_poly (b : BitVec 32) : times poly b = Dn 32 b := by
  have h := Mt_map (fun x => times poly x) (fun a b => Mt_xor_right 32 poly a b) (by decide)
    (fun a => (Mt_map D D_xor D_zero (fun _ => rfl) 32 poly a).symm) 32 b e0
  rw [show Mt 32 b e0 = b from times_e0 b, show times poly e0 = Dn 32 e0 by decide] at h
  rw [h, ← Mt_map (Dn 32) (Dn_xor 32) (Dn_zero 32) (fun a => Dn_D 32 a) 32 b e0]
  exact congrArg (Dn 32) (times_e0 b)

theorem times_D (a b : BitVec 32) : times (D a) b = D (times a b) := by
  have h1 : times (a >>> 1) b = Mt 31 a (D b) := by
    unfold times
    rw [Mt]
    have : (a >>> 1).getLsbD 31 = false := by rw [BitVec.getLsbD_ushiftRight]; exact BitVec.getLsbD_of_ge _ _ (by omega)
    rw [this]
    simp only [Bool.false_eq_true, if_false, BitVec.zero_xor]
    apply Mt_congr 31 _ _ _ (by omega)
    intro i hi h2
    rw [BitVec.getLsbD_shiftLeft, BitVec.getLsbD_ushiftRight]
    have e : 1 + (i - 1) = i := by omega
    rw [e]
    simp; omega
  have h2 : D (times a b) = Mt 31 a (D b) ^^^ (if a.getLsbD 0 then Dn 32 b else 0#32) := by
    unfold times
    rw [Mt_map D D_xor D_zero (fun _ => rfl), Mt_end 31 _ _ (by omega)]
    rfl
  rw [h2, ← h1]
  unfold D
  unfold times
  rw [Mt_xor_left]
  congr 1
  cases a.getLsbD 0 with
  | true => exact times_poly b
  | false => exact Mt_zero 32 b

theorem times_Dn (n : Nat) : ∀ a b, times (Dn n a) b = Dn n (times a b) := by
  induction n with
  | zero => intro a b; rfl
  | succ n ih => intro a b; rw [Dn, Dn, ih, times_D]

theorem times_one (b : BitVec 32) : times e0 b = b := by
  unfold times
  rw [Mt, show (e0 <<< 1) = 0#32 by decide, Mt_zero]
  simp [e0]

/-- The power of eight times n. -/
def pow8 (n : Nat) : BitVec 32 := Dn (8 * n) e0
theorem times_pow8 (n : Nat) (b : BitVec 32) : times (pow8 n) b = Dn (8 * n) b := by rw [pow8, times_Dn, times_one]

def noughts (a : BitVec 32) (n : Int) : BitVec 32 := ~~~ Dn (8 * n.toNat) (~~~ a)
def join (a b : BitVec 32) (n : Int) : BitVec 32 := Dn (8 * n.toNat) a ^^^ b

theorem not_eq (a : BitVec 32) : ~~~ a = a ^^^ ones := by
  rw [show ones = BitVec.allOnes 32 by decide, BitVec.xor_allOnes]

theorem noughts_eq (a : BitVec 32) (n : Int) : noughts a n = Dn (8 * n.toNat) a ^^^ noughts 0#32 n := by
  simp only [noughts, not_eq, Dn_xor, Dn_zero]
  simp
  ac_rfl

theorem join_noughts (a b : BitVec 32) (n : Int) : join a b n = noughts a n ^^^ b ^^^ noughts 0#32 n := by
  rw [noughts_eq a, join]
  have : ∀ x y z : BitVec 32, x ^^^ y = x ^^^ z ^^^ y ^^^ z := by
    intro x y z
    have : x ^^^ z ^^^ y ^^^ z = x ^^^ y ^^^ (z ^^^ z) := by ac_rfl
    rw [this]; simp
  exact this _ _ _

theorem noughts_noughts (a : BitVec 32) (n m : Int) (hn : 0 ≤ n) (hm : 0 ≤ m) : noughts (noughts a n) m = noughts a (n + m) := by
  simp only [noughts, BitVec.not_not]
  rw [← Dn_add]
  congr 2
  omega
theorem noughts_none (a : BitVec 32) (n : Int) (h : n ≤ 0) : noughts a n = a := by
  rw [noughts, show n.toNat = 0 by omega]
  simp [Dn]
theorem join_zero (b : BitVec 32) (n : Int) : join 0#32 b n = b := by rw [join, Dn_zero]; simp

theorem crc_append (a b : List UInt8) : crc (a ++ b) = join (crc a) (crc b) b.length := by
  simp only [crc, join, sumB_append, not_eq, Int.toNat_natCast]
  rw [Dn_xor]
  have h := sumB_split b ones (sumB ones a ^^^ ones)
  rw [Dn_xor] at h
  have e : ones ^^^ (sumB ones a ^^^ ones) = sumB ones a := by
    rw [show ones ^^^ (sumB ones a ^^^ ones) = sumB ones a ^^^ (ones ^^^ ones) by ac_rfl]; simp
  rw [e] at h
  rw [h]
  ac_rfl

end Go.Proofs.YtibmlgkakeakcaaDoor.Crc
/- What functions hand back: bytes of one's own. -/
namespace Go.Proofs.YtibmlgkakeakcaaDoor.Crc
open Go.RowKit Go.Proofs.YtibmlgkakeakcaaDoor
set_option linter.unusedSimpArgs false
set_option linter.unusedVariables false
/-- What is handed back: bytes in memory of its own; nothing else has turned. -/
def RetB (w0 : World) (l : List UInt8) (e : Ending) (w' : World) : Prop :=
  ∃ A c, e = .returned (.slice A l.length c) ∧ OwnB w' w0.heap.size (.slice A l.length c) l ∧ Below w0.heap.size w0 w'
theorem RetB.mk {w0 w' : World} {l : List UInt8} {v : Value} (h : OwnB w' w0.heap.size v l) (hb : Below w0.heap.size w0 w') : RetB w0 l (.returned v) w' := by
  rcases h.form with ⟨rfl, rfl⟩ | ⟨g, c, rfl, _⟩
  · exact ⟨none, 0, rfl, h, hb⟩
  · exact ⟨_, c, rfl, h, hb⟩

theorem bytes_of_block {w : World} {b : Nat} {cs : List Value} {T : TypeId} {fr : Nat × Nat} {l : List UInt8} (h : w.heap[b]? = some (.cells cs.toArray T fr)) (hc : cs = cells8 l) : Bytes w (some ⟨b, 0, none⟩) l := by
  intro i hi
  refine ⟨_, rfl, ?_⟩
  rw [Addr.add_lit, Nat.zero_add]
  unfold World.cell?
  simp only [h]
  subst hc
  simpa using cells8_get l i hi

/-- What is handed back: bytes in memory of its own and a number. -/
def RetBN (w0 : World) (l : List UInt8) (n : Int) (e : Ending) (w' : World) : Prop :=
  ∃ A c, e = .returned (.tuple #[.slice A l.length c, .int .i64 n]) ∧ OwnB w' w0.heap.size (.slice A l.length c) l ∧ Below w0.heap.size w0 w'
theorem RetBN.mk {w0 w' : World} {l : List UInt8} {v : Value} {n : Int} (h : OwnB w' w0.heap.size v l) (hb : Below w0.heap.size w0 w') : RetBN w0 l n (.returned (.tuple #[v, .int .i64 n])) w' := by
  rcases h.form with ⟨rfl, rfl⟩ | ⟨g, c, rfl, _⟩
  · exact ⟨none, 0, rfl, h, hb⟩
  · exact ⟨_, c, rfl, h, hb⟩

theorem _root_.Go.Proofs.YtibmlgkakeakcaaDoor.OwnB.nonnil {w : World} {base : Nat} {v : Value} {l : List UInt8} (h : OwnB w base v l) (hn : v ≠ .slice none 0 0) : ∃ g c, v = .slice (some ⟨g, 0, none⟩) l.length c ∧ base ≤ g ∧ g < w.heap.size ∧ l.length ≤ c := by
  rcases h.form with ⟨h1, _⟩ | h1
  · exact absurd h1 hn
  · exact h1
end Go.Proofs.YtibmlgkakeakcaaDoor.Crc
/- The walks of codec: PutFixed, Read, Fixed; the document's Fixed. -/
set_option linter.unusedSimpArgs false
set_option linter.unusedVariables false
namespace Go.Proofs.YtibmlgkakeakcaaDoor
open Go.RowKit Go.Proofs.YtibmlgkakeakcaaDoor.Crc
/-- A number in so many bytes, the highest ahead. -/
def byteAt (n s : Nat) : UInt8 := UInt8.ofNat (n / 256 ^ s)
def fixB (n : Nat) : Nat → List UInt8
  | 0 => []
  | s + 1 => byteAt n s :: fixB n s
theorem fixB_length (n : Nat) : ∀ s, (fixB n s).length = s
  | 0 => rfl
  | s + 1 => by rw [fixB, List.length_cons, fixB_length n s]
theorem byteAt_val (n s : Nat) : (((byteAt n s).toNat : Nat) : Int) = ((n / 256 ^ s : Nat) : Int) % 256 := by
  unfold byteAt; simp
set_option maxRecDepth 10000 in
theorem byteAt_shr (n k : Nat) : (n : Int) / 2 ^ (8 * k) % 256 = ((byteAt n k).toNat : Int) := by
  rw [byteAt_val]
  have e : (2 : Int) ^ (8 * k) = ((256 ^ k : Nat) : Int) := by rw [Int.pow_mul]; push_cast; rfl
  rw [e]; push_cast; rfl
set_option maxHeartbeats 1000000 in
theorem PutFixed_calls (n : Nat) (hn : (n : Int) ≤ 18446744073709551615) (s : Nat) (hs : s ≤ 8) (w : World) :
    Calls Tryd.prog 63 #[.slice none 0 0, .int .u64 (n : Int), .int .i64 (s : Int)] w (RetB w (fixB n s)) := by
  have m1 : max (s : Int) 0 = s := by omega
  have m2 : min (s : Int) 8 = s := by omega
  go_enter Tryd.func63, Tryd.ntmps63
  go_wp2_with fail
  go_loopw [0, 7] (fun v i wr => ∃ (k : Nat) (acc : List UInt8), k ≤ s ∧ i = .int .i64 ((k : Int) - 1) ∧ Hid (acc ++ fixB n k = fixB n s ∧ OwnB wr w.heap.size v acc ∧ Below w.heap.size w wr)) (fun _ i _ => (intOf i + 1).toNat)
  case atStart => exact ⟨s, [], Nat.le_refl _, rfl, rfl, World.ownsRow_nil _ _ _ _, Below.refl _ _⟩
  case round =>
    obtain ⟨k, acc, hk, rfl, HR⟩ := hrel
    by_cases h0 : k = 0
    · subst h0
      go_wp2_with fail
      go_ret
      have h1 := HR.out.1
      rw [fixB, List.append_nil] at h1
      rw [← h1]
      exact RetB.mk HR.out.2.1 HR.out.2.2
    · obtain ⟨k, rfl⟩ : ∃ j, k = j + 1 := ⟨k - 1, by omega⟩
      have HBv := Lib.hid (byteAt_shr n k)
      go_wp2_with (with_reducible refine park_append ?_; intro q hq)
      refine hq.out ?_
      clear hq
      rw [HBv.out]
      have hlen := congrArg List.length HR.out.1
      rw [List.length_append, fixB_length, fixB_length] at hlen
      refine wpList_append_bytes rfl _ _ rfl w.heap.size u0 acc rfl (HR.out.2.1.alloc _) (some ⟨wr.heap.size, 0, none⟩) 1 1 [byteAt n k] rfl rfl (fun h => by cases h) (bytes_of_block (heap_alloc_new wr _) rfl) (by simp; omega) (by have := HR.out.2.2.size; simp; omega) ?_
      intro v2 w2 hown2 hg2 _
      have HN : Hid ((acc ++ [byteAt n k]) ++ fixB n k = fixB n s ∧ OwnB w2 w.heap.size v2 (acc ++ [byteAt n k]) ∧ Below w.heap.size w w2) :=
        ⟨by rw [← HR.out.1, fixB, List.append_assoc]; rfl, hown2, (HR.out.2.2.alloc HR.out.2.2.size _).grown hg2 (by have := HR.out.2.2.size; simp; omega) (fun j hj => (HR.out.2.1.lt j hj).1)⟩
      clear hown2 hg2 HR hlen
      go_wp2
      go_roundw
      case rel => exact ⟨k, _, by omega, by go_num, HN⟩
      case measure => simp [intOf]
/-! ### the reader -/
/-- The number that bytes are, the highest ahead. -/
def natB (l : List UInt8) : Nat := l.foldl (fun n c => n * 256 + c.toNat) 0
theorem natB_snoc (l : List UInt8) (c : UInt8) : natB (l ++ [c]) = natB l * 256 + c.toNat := by simp [natB]
theorem natB_lt (l : List UInt8) : natB l < 256 ^ l.length := by
  suffices h : ∀ l : List UInt8, natB l.reverse < 256 ^ l.length by
    have := h l.reverse
    simpa using this
  intro l
  induction l with
  | nil => simp [natB]
  | cons c l ih =>
    rw [List.reverse_cons, natB_snoc, List.length_cons, Nat.pow_succ]
    have := c.toNat_lt
    omega
def RdAt (w : World) (r : Nat) (A : Option Addr) (n c : Nat) : Prop := w.heap[r]? = some (.cells #[.bool true, .slice A n c, .int .i64 0] 108 (0, 0))
theorem RdAt.cells {w : World} {r n c : Nat} {A : Option Addr} (h : RdAt w r A n c) : w.cell? ⟨r, 0, none⟩ = some (.bool true) ∧ w.cell? ⟨r, 1, none⟩ = some (.slice A n c) ∧ w.cell? ⟨r, 2, none⟩ = some (.int .i64 0) ∧ w.frozen? ⟨r, 1, none⟩ = false :=
  ⟨by rw [cell_of_row _ _ _ _ _ _ h]; rfl, by rw [cell_of_row _ _ _ _ _ _ h]; rfl, by rw [cell_of_row _ _ _ _ _ _ h]; rfl, frozen_of_row _ _ _ _ _ h⟩
/-- A reader that has these bytes to read yet. -/
def RdLB (D : Nat → Prop) (w : World) (r : Nat) (l : List UInt8) : Prop := ∃ A c, RdAt w r A l.length c ∧ Bytes w A l ∧ l.length ≤ c ∧ c ≤ 9223372036854775807 ∧ ∀ ad, A = some ad → ad.block < r ∧ D ad.block
abbrev RdL (w : World) (r : Nat) (l : List UInt8) : Prop := RdLB (· < r) w r l
set_option maxHeartbeats 400000 in
theorem Read_callsB (D : Nat → Prop) (A : Option Addr) (n c : Nat) (l : List UInt8) (w : World) (hn : n = l.length) (hb : Bytes w A l) (hA : ∀ ad, A = some ad → ad.block < w.heap.size ∧ D ad.block) (hc : n ≤ c) (hm : c ≤ 9223372036854775807) :
    Calls Tryd.prog 44 #[.slice A n c] w fun e w' => e = .returned (.pointer (some ⟨w.heap.size, 0, none⟩)) ∧ RdLB D w' w.heap.size l ∧ Below w.heap.size w w' := by
  subst hn
  have HB := Lib.hid hb
  have HA := Lib.hid hA
  clear hb hA
  go_enter Tryd.func44, Tryd.ntmps44
  go_wp2
  go_ret
  exact ⟨rfl, ⟨A, c, heap_alloc_new w _, HB.out.alloc _, hc, hm, fun ad h => HA.out ad h⟩, (Below.refl _ _).alloc (Nat.le_refl _) _⟩
theorem Read_calls (A : Option Addr) (n c : Nat) (l : List UInt8) (w : World) (hn : n = l.length) (hb : Bytes w A l) (hA : ∀ ad, A = some ad → ad.block < w.heap.size) (hc : n ≤ c) (hm : c ≤ 9223372036854775807) :
    Calls Tryd.prog 44 #[.slice A n c] w fun e w' => e = .returned (.pointer (some ⟨w.heap.size, 0, none⟩)) ∧ RdL w' w.heap.size l ∧ Below w.heap.size w w' := Read_callsB (· < w.heap.size) A n c l w hn hb (fun ad h => ⟨hA ad h, hA ad h⟩) hc hm
set_option maxHeartbeats 400000 in
theorem ready_calls {w : World} {r n c : Nat} {A : Option Addr} (h : RdAt w r A n c) : Calls Tryd.prog 77 #[.pointer (some ⟨r, 0, none⟩)] w fun e w' => e = .returned (.bool true) ∧ w = w' := by
  obtain ⟨h0, h1, h2, h3⟩ := h.cells
  have H := Lib.hid h
  clear h
  go_enter Tryd.func77, Tryd.ntmps77
  go_wp2
  go_ret
  exact ⟨rfl, rfl⟩
theorem RdAt.put {w : World} {r n c : Nat} {A : Option Addr} (h : RdAt w r A n c) (A' : Option Addr) (n' c' : Nat) : RdAt (w.setCell ⟨r, 1, none⟩ (.slice A' n' c')) r A' n' c' := by
  have h' : w.heap[r]? = some (.cells #[.bool true, .slice A n c, .int .i64 0] 108 (0, 0)) := h
  show (w.setCell ⟨r, 1, none⟩ (.slice A' n' c')).heap[r]? = _
  simp [World.setCell, Array.getElem?_modify, h']
set_option maxHeartbeats 400000 in
theorem take_calls {D : Nat → Prop} {w : World} {r : Nat} {l : List UInt8} (h : RdLB D w r l) (s : Nat) (hs : s ≤ l.length) : Calls Tryd.prog 78 #[.pointer (some ⟨r, 0, none⟩), .int .i64 (s : Int)] w fun e w' => ∃ A c, e = .returned (.tuple #[.slice A s c, .bool true]) ∧ Bytes w' A (l.take s) ∧ RdLB D w' r (l.drop s) ∧ Kept (· = r) w w' := by
  obtain ⟨A, c, hr, hb, hc, hm, hd⟩ := h
  obtain ⟨h0, h1, h2, h3⟩ := hr.cells
  have HR := Lib.hid hr
  have HB := Lib.hid hb
  have HD := Lib.hid hd
  obtain ⟨n, hn⟩ : ∃ n, l.length = n := ⟨_, rfl⟩
  have HN := Lib.hid hn
  rw [hn] at hs hc h1
  clear hr hb hd hn
  have d1 : decide ((s : Int) > (n : Int)) = false := by simp; omega
  by_cases hcs : c = s
  · obtain rfl : s = n := by omega
    subst hcs
    go_enter Tryd.func78, Tryd.ntmps78
    go_wp2_with fail
    go_ret2
    have hk := Kept.set1 w r 1 (.slice A 0 0)
    refine ⟨A, c, rfl, (HB.out.kept hk (fun ad h => Nat.ne_of_lt (HD.out ad h).1)).take _, ⟨A, 0, ?_, ?_, by rw [← HN.out]; simp, by omega, HD.out⟩, hk⟩
    · rw [← HN.out, List.drop_length]; exact HR.out.put A 0 0
    · rw [← HN.out, List.drop_length]; exact Bytes.nil _ _
  · go_enter Tryd.func78, Tryd.ntmps78
    go_wp2_with fail
    go_ret2
    have hk := Kept.set1 w r 1 (.slice (Option.map (fun x => x.add s) A) (n - s) (c - s))
    have hl : (l.drop s).length = n - s := by rw [List.length_drop, HN.out]
    refine ⟨A, c, rfl, (HB.out.kept hk (fun ad h => Nat.ne_of_lt (HD.out ad h).1)).take _, ⟨Option.map (fun x => x.add s) A, c - s, ?_, (HB.out.kept hk (fun ad h => Nat.ne_of_lt (HD.out ad h).1)).dropMap s, by rw [hl]; omega, by omega, ?_⟩, hk⟩
    · rw [hl]; exact HR.out.put _ _ _
    · intro ad had
      obtain ⟨a0, rfl, rfl⟩ := Option.map_eq_some_iff.1 had
      rw [add_block]; exact HD.out a0 rfl
theorem or_add (x : Nat) (c : UInt8) (h : x < 72057594037927936) : bits .or .u64 (IntKind.u64.wrap ((x : Int) * 256)) (c.toNat : Int) = ((x * 256 + c.toNat : Nat) : Int) := by
  have hc := c.toNat_lt
  have e : IntKind.u64.wrap ((x : Int) * 256) = ((x * 256 : Nat) : Int) := by
    simp only [IntKind.wrap, IntKind.bits, IntKind.signed]; simp; omega
  rw [e, u64_or_nat _ _ (by omega) (by omega)]
  have := Nat.two_pow_add_eq_or_of_lt (i := 8) (b := c.toNat) (by omega) x
  rw [show (2 : Nat) ^ 8 = 256 from rfl, Nat.mul_comm 256 x] at this
  rw [this]
theorem natB_take (l : List UInt8) (k : Nat) (h : k < l.length) : natB (l.take (k + 1)) = natB (l.take k) * 256 + (at8 l k).toNat := by
  rw [take_snoc8 l k h, natB_snoc]
theorem natB_lt7 (l : List UInt8) (h : l.length < 8) : natB l < 72057594037927936 := by
  have := natB_lt l
  have h2 : 256 ^ l.length ≤ 256 ^ 7 := Nat.pow_le_pow_right (by decide) (by omega)
  have h3 : (256 : Nat) ^ 7 = 72057594037927936 := by decide
  omega
set_option maxHeartbeats 1000000 in
theorem Fixed_calls {D : Nat → Prop} {w : World} {r : Nat} {l : List UInt8} (h : RdLB D w r l) (s : Nat) (hs : s ≤ l.length) (h8 : s ≤ 8) : Calls Tryd.prog 46 #[.pointer (some ⟨r, 0, none⟩), .int .i64 (s : Int)] w fun e w' => e = .returned (.int .u64 (natB (l.take s) : Int)) ∧ RdLB D w' r (l.drop s) ∧ Kept (· = r) w w' := by
  have m1 : max (s : Int) 0 = s := by omega
  have m2 : min (s : Int) 8 = s := by omega
  have h' := h
  obtain ⟨A, c, hr, _⟩ := h'
  have HR := Lib.hid (ready_calls hr)
  have HT := Lib.hid (take_calls h s hs)
  have HL : Hid ((l.take s).length = s) := by show _ = _; rw [List.length_take]; omega
  clear h hr hs
  go_enter Tryd.func46, Tryd.ntmps46
  go_wp2_with (first | (go_at_call 77; refine HR.out.mono ?_; rintro e w' ⟨rfl, rfl⟩) | (go_at_call 78; refine HT.out.mono ?_; rintro e w2 ⟨A2, c2, rfl, hb2, hr2, hk2⟩; refine park ?_; intro q hq))
  have HB2 := Lib.hid hb2
  have HR2 := Lib.hid hr2
  have HK2 := Lib.hid hk2
  clear hb2 hr2 hk2 HR HT
  refine hq.out ?_
  clear hq
  obtain ⟨p, hp⟩ : ∃ p, l.take s = p := ⟨_, rfl⟩
  have HP := Lib.hid hp
  rw [hp] at HL HB2
  clear hp
  go_wp2_with fail
  go_loop [7, 23] (fun v i => ∃ k : Nat, k ≤ s ∧ i = .int .i64 k ∧ v = .int .u64 (natB (p.take k) : Int)) (fun _ i => s - (intOf i).toNat)
  case atStart => exact ⟨0, Nat.zero_le _, rfl, rfl⟩
  case round =>
    obtain ⟨k, hk, rfl, rfl⟩ := hrel
    by_cases hlt : k < s
    · have hkp : k < p.length := by rw [HL.out]; exact hlt
      obtain ⟨ad, hA, hx⟩ := HB2.out k hkp
      cases hA
      have HO := Lib.hid (or_add (natB (p.take k)) (at8 p k) (natB_lt7 _ (by rw [List.length_take]; omega)))
      have HN := Lib.hid (natB_take p k hkp)
      obtain ⟨b1, b2⟩ := ltu8 (at8 p k)
      clear hkp
      have e1 := HO.out
      rw [← HN.out] at e1
      go_wp2
      go_round
      case rel => exact ⟨k + 1, by omega, by go_num, rfl⟩
      case measure => simp [intOf]; omega
    · obtain rfl : k = s := by omega
      go_wp2
      go_ret
      refine ⟨?_, HR2.out, HK2.out⟩
      have e : p.take k = p := List.take_of_length_le (by rw [HL.out]; exact Nat.le_refl _)
      rw [HP.out]
      first | rfl | (rw [e]; rfl) | (rw [← e]; rfl)
end Go.Proofs.YtibmlgkakeakcaaDoor
/- The walks of bytes.TrimLeft (one byte), bytes.Equal. -/
set_option linter.unusedSimpArgs false
set_option linter.unusedVariables false
namespace Go.Proofs.YtibmlgkakeakcaaDoor
open Go.RowKit Go.Proofs.YtibmlgkakeakcaaDoor.Crc
def sliceLen_ : Value → Nat
  | .slice _ n _ => n
  | _ => 0
def zeroB (l : List UInt8) : Bool := l.all (· == 0)
theorem dropWhile_zero (l : List UInt8) : ((l.dropWhile (· == 0)).length = 0) ↔ zeroB l = true := by
  unfold zeroB
  induction l with
  | nil => simp
  | cons x l ih =>
    rw [List.dropWhile_cons, List.all_cons]
    cases h : (x == (0 : UInt8))
    · simp
    · simpa using ih
set_option maxHeartbeats 1000000 in
theorem trimByte_calls (A : Option Addr) (n c : Nat) (l : List UInt8) (w : World) (hn : n = l.length) (hb : Bytes w A l) (hc : n ≤ c) (hm : c ≤ 9223372036854775807) :
    Calls Tryd.prog 98 #[.slice A n c, .int .u8 0] w fun e w' => (∃ A' c', e = .returned (.slice A' (l.dropWhile (· == 0)).length c')) ∧ w = w' := by
  subst hn
  have HB := Lib.hid hb
  clear hb
  go_enter Tryd.func98, Tryd.ntmps98
  go_wp2_with fail
  go_loop [0] (fun v => ∃ (A' : Option Addr) (m c' : Nat) (r : List UInt8), v = .slice A' m c' ∧ m ≤ c' ∧ c' ≤ 9223372036854775807 ∧ Hid (m = r.length ∧ Bytes w A' r ∧ r.dropWhile (· == 0) = l.dropWhile (· == 0))) (fun v => sliceLen_ v)
  case atStart => exact ⟨A, l.length, c, l, rfl, hc, hm, rfl, HB.out, rfl⟩
  case round =>
    obtain ⟨A', m, c', r, rfl, hmc, hcm, HR⟩ := hrel
    cases r with
    | nil =>
      obtain rfl : m = 0 := HR.out.1
      go_wp2_with fail
      go_ret
      have e := HR.out.2.2
      refine ⟨⟨none, 0, ?_⟩, rfl⟩
      rw [← e]; rfl
    | cons x r =>
      obtain ⟨b, o, rfl⟩ := HR.out.2.1.spot (by simp)
      have hm0 : 0 < m := by rw [HR.out.1]; simp
      obtain ⟨ad, hA, hx⟩ := HR.out.2.1 0 (by simp)
      cases hA
      rw [Addr.add_lit, Nat.add_zero] at hx
      replace hx : w.cell? ⟨b, o, none⟩ = some (.int .u8 (x.toNat : Int)) := hx
      cases hx0 : (x == (0 : UInt8))
      · have h1 : ((x.toNat : Int) == 0) = false := by
          simp at hx0 ⊢
          intro h
          exact hx0 (UInt8.toNat_inj.1 (by simpa using h))
        have h2 : ((m : Int) == 0) = false := by simp; omega
        have HX := Lib.hid hx0
        clear hx0
        go_wp2_with fail
        go_ret
        have e := HR.out.2.2
        rw [List.dropWhile_cons, HX.out] at e
        refine ⟨⟨some ⟨b, o, none⟩, c', ?_⟩, rfl⟩
        · rw [← e, if_neg (by simp), ← HR.out.1]; rfl
      · obtain rfl : x = 0 := by simpa using hx0
        have hN : Hid (m - 1 = r.length ∧ Bytes w (some ⟨b, o + 1, none⟩) r ∧ r.dropWhile (· == 0) = l.dropWhile (· == 0)) :=
          ⟨by rw [HR.out.1]; simp, by simpa using HR.out.2.1.drop 1, by have := HR.out.2.2; rw [List.dropWhile_cons] at this; simpa using this⟩
        by_cases hc1 : c' = 1
        · obtain rfl : m = 1 := by omega
          have hr : r = [] := by have := HR.out.1; simpa using this
          subst hr
          subst hc1
          have hN2 : Hid (0 = ([] : List UInt8).length ∧ Bytes w (some ⟨b, o, none⟩) [] ∧ ([] : List UInt8).dropWhile (· == 0) = l.dropWhile (· == 0)) := ⟨rfl, Bytes.nil _ _, hN.out.2.2⟩
          clear HR hx0 hN
          go_wp2_with fail
          go_round
          case rel => exact ⟨_, 0, 0, [], rfl, by omega, by omega, hN2⟩
          case measure => simp [sliceLen_]
        · clear HR hx0
          go_wp2_with fail
          go_round
          case rel => exact ⟨_, m - 1, c' - 1, r, rfl, by omega, by omega, hN⟩
          case measure => simp [sliceLen_]; omega
set_option maxHeartbeats 400000 in
set_option maxRecDepth 100000 in
theorem trimLeft_calls (A : Option Addr) (n c : Nat) (l : List UInt8) (w : World) (hn : n = l.length) (hb : Bytes w A l) (hc : n ≤ c) (hm : c ≤ 9223372036854775807) :
    Calls Tryd.prog 95 #[.slice A n c, .string ⟨#[0]⟩] w fun e w' => (∃ A' c', e = .returned (.slice A' (l.dropWhile (· == 0)).length c')) ∧ w = w' := by
  have HC := Lib.hid (trimByte_calls A n c l w hn hb hc hm)
  by_cases h0 : n = 0
  · have hl : l = [] := by rw [h0] at hn; exact List.eq_nil_of_length_eq_zero hn.symm
    subst hl
    subst h0
    clear hb hn
    go_enter Tryd.func95, Tryd.ntmps95
    go_wp2_with fail
    go_ret
    exact ⟨⟨none, 0, rfl⟩, rfl⟩
  · have h2 : ((n : Int) == 0) = false := by simp; omega
    clear hb hn
    go_enter Tryd.func95, Tryd.ntmps95
    go_wp2_with (go_at_call 98; refine HC.out.mono ?_; rintro e w' ⟨⟨A', c', rfl⟩, rfl⟩)
    go_ret
    exact ⟨⟨A', c', rfl⟩, rfl⟩
end Go.Proofs.YtibmlgkakeakcaaDoor
/- Arrays of 256 bytes; copies into bytes. -/
set_option linter.unusedSimpArgs false
set_option linter.unusedVariables false
namespace Go.Proofs.YtibmlgkakeakcaaDoor
open Go.RowKit Go.Proofs.YtibmlgkakeakcaaDoor.Crc
/-- A block that is bytes, whole. -/
def BlkB (w : World) (g : Nat) (t : TypeId) (l : List UInt8) : Prop := w.heap[g]? = some (.cells (cells8 l).toArray t (0, 0))
theorem BlkB.kept {S : Nat → Prop} {w w' : World} {g : Nat} {t : TypeId} {l : List UInt8} (h : BlkB w g t l) (hk : Kept S w w') (hs : ¬ S g) : BlkB w' g t l := by
  unfold BlkB at h ⊢
  rw [hk.block g (Array.getElem?_eq_some_iff.1 h).1 hs]; exact h
theorem BlkB.below {w w' : World} {g : Nat} {t : TypeId} {l : List UInt8} (h : BlkB w g t l) (hk : Below w.heap.size w w') : BlkB w' g t l := h.kept (S := fun _ => False) (Kept.of_below hk) (fun x => x)
theorem BlkB.lt {w : World} {g : Nat} {t : TypeId} {l : List UInt8} (h : BlkB w g t l) : g < w.heap.size := (Array.getElem?_eq_some_iff.1 h).1
theorem BlkB.cell {w : World} {g : Nat} {t : TypeId} {l : List UInt8} (h : BlkB w g t l) (i : Nat) (hi : i < l.length) : w.cell? ⟨g, i, none⟩ = some (.int .u8 ((at8 l i).toNat : Int)) ∧ w.frozen? ⟨g, i, none⟩ = false := by
  refine ⟨?_, frozen_of_row _ _ _ _ _ h⟩
  rw [cell_of_row _ _ _ _ _ _ h]
  simpa using cells8_get l i hi
theorem BlkB.set {w : World} {g : Nat} {t : TypeId} {l : List UInt8} (h : BlkB w g t l) (i : Nat) (x : UInt8) : BlkB (w.setCell ⟨g, i, none⟩ (.int .u8 (x.toNat : Int))) g t (l.set i x) := by
  unfold BlkB at h ⊢
  simp [World.setCell, Array.getElem?_modify, h, ← cells8_set]
theorem BlkB.bytes {w : World} {g : Nat} {t : TypeId} {l : List UInt8} (h : BlkB w g t l) : Bytes w (some ⟨g, 0, none⟩) l := bytes_of_block h rfl
theorem BlkB.from_ {w : World} {g : Nat} {t : TypeId} {l : List UInt8} (h : BlkB w g t l) (n : Nat) : Bytes w (some ⟨g, n, none⟩) (l.drop n) := by
  have := h.bytes.drop n
  rwa [Nat.zero_add] at this
theorem cells8_splice (l m : List UInt8) (off : Nat) : splice (cells8 l) off (cells8 m) = cells8 (splice l off m) := by
  unfold splice
  rw [cells8_length, cells8_take, cells8_drop, cells8_append, cells8_append]
section
variable {ops : Array Oper} {rest : List Oper} {o : Oper} {a : Act} {Q : Exit → Act → World → Prop} {w : World}
/-- copy of bytes into a block that is bytes. -/
theorem wpList_copyB (hg : o.guard = none) (d s : Operand) (ho : o.op = .call { callee := .builtin .copy, args := #[d, s], argTypes := #[30, 30] })
    (g off dLen dCap : Nat) (sp : Option Addr) (sLen sCap : Nat) (hd : a.eval d = .slice (some ⟨g, off, none⟩) dLen dCap) (hs : a.eval s = .slice sp sLen sCap)
    (t : TypeId) (cur l : List UInt8) (hb : BlkB w g t cur) (hl : sLen = l.length) (hsrc : Bytes w sp l) (hfit : off + Nat.min dLen l.length ≤ cur.length)
    (h : ∀ w', BlkB w' g t (splice cur off (l.take dLen)) → Kept (· = g) w w' → wpList Tryd.prog ops Q rest (a.put o.dst (goInt (l.take dLen).length)) w') : wpList Tryd.prog ops Q (o :: rest) a w := by
  subst hl
  have hlen : (cells8 (l.take dLen)).length = Nat.min l.length dLen := by rw [cells8_length, List.length_take, Nat.min_comm]
  have hlen2 : (l.take dLen).length = (cells8 (l.take dLen)).length := by rw [cells8_length]
  by_cases h0 : (l.take dLen).length = 0
  · refine wpList_copy_nothing hg d s _ _ ho 5 Tryd.underlying30 (by kernel_rfl) _ _ dLen dCap l.length sCap hd hs (by rw [← hlen, cells8_length]; exact h0) ?_
    have e : l.take dLen = [] := List.eq_nil_of_length_eq_zero h0
    have := h w (by rw [e]; simpa [splice] using hb) (Kept.refl _ _)
    rw [h0] at this
    exact this
  · obtain ⟨ad, rfl, _⟩ := hsrc 0 (by rw [List.length_take] at h0; omega)
    rw [hlen2] at h
    refine wpList_copy_own hg d s _ _ ho 5 Tryd.underlying30 (by kernel_rfl) g off dLen dCap ad l.length sCap hd hs (cells8 cur).toArray t hb (cells8 (l.take dLen)) hlen ?_ ?_ (cells8_one _) ?_
    · intro j v hj
      have hlt : j < (l.take dLen).length := by have := (List.getElem?_eq_some_iff.1 hj).1; rwa [cells8_length] at this
      obtain ⟨ad', hA, hc⟩ := hsrc.take dLen j hlt
      cases hA
      rw [cells8_get _ j hlt] at hj
      rw [hc, hj]
    · rw [hlen, show Nat.min l.length dLen = Nat.min dLen l.length from Nat.min_comm _ _]
      simpa [cells8_length] using hfit
    · refine h _ ?_ (Kept.setRow w _)
      have := setRow_heap w g (cells8 cur).toArray (splice (cells8 cur) off (cells8 (l.take dLen))).toArray t (0, 0) hb
      unfold BlkB
      rw [← cells8_splice]
      simpa [splice] using this
theorem under256 : Tryd.prog.underlying 141 = some (.array 256 5) := by kernel_rfl
theorem info256 : (Tryd.prog.info? 141).map (fun i => (i.zero, i.size)) = some (some (.agg (cells8 zsec).toArray), 256) := by kernel_rfl
theorem wpList_alloc256 (hg : o.guard = none) (ho : o.op = .alloc 141) (h : BlkB (w.alloc (.cells (cells8 zsec).toArray 141)) w.heap.size 141 zsec → wpList Tryd.prog ops Q rest (a.put o.dst (.pointer (some ⟨w.heap.size, 0, none⟩))) (w.alloc (.cells (cells8 zsec).toArray 141))) : wpList Tryd.prog ops Q (o :: rest) a w := by
  refine Great.wpList_runTo hg _ rfl _ _ ?_ (h (heap_alloc_new w _))
  unfold execOp
  simp only [ho, Instr.alloc, Sem.run_bind, (zero_of_info info256).1 w, Result.andThen_ok, newVar, newRow, run_newObj_alloc, Sem.run_pure]
  rfl
end
end Go.Proofs.YtibmlgkakeakcaaDoor
/- A copy of bytes as one step of a region. -/
set_option linter.unusedSimpArgs false
set_option linter.unusedVariables false
namespace Go.Proofs.YtibmlgkakeakcaaDoor
open Go.RowKit Go.Proofs.YtibmlgkakeakcaaDoor.Crc
theorem step_copyB {ops : Array Oper} {o : Oper} {a : Act} {w : World} {K : Act → World → Prop} {Q : Exit → Act → World → Prop} {E : Prop} (hgd : o.guard = none) (d s : Operand)
    (ho : o.op = .call { callee := .builtin .copy, args := #[d, s], argTypes := #[30, 30] })
    (g off dLen dCap : Nat) (sp : Option Addr) (sLen sCap : Nat) (hd : a.eval d = .slice (some ⟨g, off, none⟩) dLen dCap) (hs : a.eval s = .slice sp sLen sCap)
    (t : TypeId) (cur l : List UInt8) (hb : BlkB w g t cur) (hl : sLen = l.length) (hsrc : Bytes w sp l) (hfit : off + Nat.min dLen l.length ≤ cur.length)
    (h : ∀ w', Hid (BlkB w' g t (splice cur off (l.take dLen)) ∧ Kept (· = g) w w') → K (a.put o.dst (goInt (l.take dLen).length)) w') : if Region.wanted o (yielded ops a.tmps) = true then Oper.wp Tryd.prog o a w K Q else E := by
  subst hl
  have hw : Region.wanted o (yielded ops a.tmps) = true := by simp [Region.wanted, hgd]
  rw [if_pos hw]
  have hlen : (cells8 (l.take dLen)).length = Nat.min l.length dLen := by rw [cells8_length, List.length_take, Nat.min_comm]
  have hlen2 : (l.take dLen).length = (cells8 (l.take dLen)).length := by rw [cells8_length]
  by_cases h0 : (l.take dLen).length = 0
  · have hrun := run_copy_none (P := Tryd.prog) w 30 30 o.type 5 (some ⟨g, off, none⟩) sp dLen dCap l.length sCap Tryd.underlying30 (by kernel_rfl) (by rw [← hlen, cells8_length]; exact h0)
    have e : l.take dLen = [] := List.eq_nil_of_length_eq_zero h0
    have := h w ⟨by rw [e]; simpa [splice] using hb, Kept.refl _ _⟩
    rw [h0] at this
    unfold Oper.wp
    simp [execOp, ho, resolve, invoke, builtin, hd, hs, hrun, Result.andThen]
    exact this
  · obtain ⟨ad, rfl, _⟩ := hsrc 0 (by rw [List.length_take] at h0; omega)
    rw [hlen2] at h
    have hrun := run_copy_row (P := Tryd.prog) w 30 30 o.type 5 g off dLen dCap ad l.length sCap (cells8 cur).toArray t (cells8 (l.take dLen)) Tryd.underlying30 (by kernel_rfl) hb hlen (by
      intro j v hj
      have hlt : j < (l.take dLen).length := by have := (List.getElem?_eq_some_iff.1 hj).1; rwa [cells8_length] at this
      obtain ⟨ad', hA, hc⟩ := hsrc.take dLen j hlt
      cases hA
      rw [cells8_get _ j hlt] at hj
      rw [hc, hj]) (by
      rw [hlen, show Nat.min l.length dLen = Nat.min dLen l.length from Nat.min_comm _ _]
      simpa [cells8_length] using hfit) (cells8_one _)
    have hh : ∀ w', w' = w.setRow g ((cells8 cur).take off ++ (cells8 (l.take dLen) ++ (cells8 cur).drop (off + (cells8 (l.take dLen)).length))).toArray → K (a.put o.dst (goInt (cells8 (l.take dLen)).length)) w' := by
      rintro w' rfl
      refine h _ ⟨?_, Kept.setRow w _⟩
      have := setRow_heap w g (cells8 cur).toArray (splice (cells8 cur) off (cells8 (l.take dLen))).toArray t (0, 0) hb
      unfold BlkB
      rw [← cells8_splice]
      simpa [splice] using this
    unfold Oper.wp
    simp [execOp, ho, resolve, invoke, builtin, hd, hs, hrun, Result.andThen]
    exact hh _ rfl
end Go.Proofs.YtibmlgkakeakcaaDoor
/- Numbers of fixed width as bytes, and back (plain). -/
set_option linter.unusedSimpArgs false
set_option linter.unusedVariables false
namespace Go.Proofs.YtibmlgkakeakcaaDoor
open Go.RowKit Go.Proofs.YtibmlgkakeakcaaDoor.Crc
theorem natB_append (l m : List UInt8) : natB (l ++ m) = natB l * 256 ^ m.length + natB m := by
  suffices h : ∀ m : List UInt8, natB (l ++ m.reverse) = natB l * 256 ^ m.length + natB m.reverse by
    have := h m.reverse
    simpa using this
  intro m
  induction m with
  | nil => simp [natB]
  | cons c m ih =>
    rw [List.reverse_cons, ← List.append_assoc, natB_snoc, natB_snoc, ih, List.length_cons, Nat.pow_succ, Nat.add_mul, Nat.mul_assoc, Nat.add_assoc]
theorem fixB_natB (n : Nat) : ∀ s, natB (fixB n s) = n % 256 ^ s
  | 0 => by simp [fixB, natB, Nat.mod_one]
  | s + 1 => by
    rw [fixB, show byteAt n s :: fixB n s = [byteAt n s] ++ fixB n s from rfl, natB_append, fixB_length, fixB_natB n s]
    have h1 : natB [byteAt n s] = n / 256 ^ s % 256 := by simp [natB, byteAt]
    rw [h1, Nat.pow_succ, Nat.mod_mul]
    rw [Nat.add_comm, Nat.mul_comm (256 ^ s)]
theorem zeroB_natB (l : List UInt8) (h : zeroB l = true) : natB l = 0 := by
  unfold zeroB at h
  induction l with
  | nil => rfl
  | cons c l ih =>
    rw [List.all_cons, Bool.and_eq_true] at h
    rw [show c :: l = [c] ++ l from rfl, natB_append, ih h.2]
    have : c = 0 := by simpa using h.1
    subst this
    simp [natB]
theorem zeroB_fix (st : Nat) (h0 : st ≠ 0) (h : st < 18446744073709551616) : zeroB (fixB st 8) = false := by
  cases hz : zeroB (fixB st 8)
  · rfl
  · have := zeroB_natB _ hz
    rw [fixB_natB, Nat.mod_eq_of_lt (by simpa using h)] at this
    exact absurd this h0
theorem zeroB_replicate (n : Nat) : zeroB (List.replicate n 0) = true := by unfold zeroB; simp
end Go.Proofs.YtibmlgkakeakcaaDoor
/- Pages: words, ends of cells; the walks of page.word, cells, end. -/
set_option linter.unusedSimpArgs false
set_option linter.unusedVariables false
namespace Go.Proofs.YtibmlgkakeakcaaDoor
open Go.RowKit Go.Proofs.YtibmlgkakeakcaaDoor.Crc
/-- A number of two bytes, the higher ahead. -/
def wordB (l : List UInt8) (i : Nat) : Nat := (at8 l i).toNat * 256 + (at8 l (i + 1)).toNat
theorem wordB_le (l : List UInt8) (i : Nat) : wordB l i ≤ 65535 := by
  unfold wordB
  have h1 := (at8 l i).toNat_lt
  have h2 := (at8 l (i + 1)).toNat_lt
  omega
theorem i64_or_nat (a b : Nat) (ha : a < 9223372036854775808) (hb : b < 9223372036854775808) : bits .or .i64 (a : Int) (b : Int) = ((a ||| b : Nat) : Int) := by
  have hx : a ||| b < 2 ^ 63 := Nat.or_lt_two_pow (by omega) (by omega)
  show IntKind.i64.wrap ((BitVec.ofInt 64 (a : Int) ||| BitVec.ofInt 64 (b : Int)).toNat : Int) = _
  rw [BitVec.ofInt_natCast, BitVec.ofInt_natCast, BitVec.toNat_or, BitVec.toNat_ofNat, BitVec.toNat_ofNat, Nat.mod_eq_of_lt (by omega), Nat.mod_eq_of_lt (by omega)]
  exact IntWalk.i64_in _ (by omega)
theorem or_word (x y : UInt8) : bits .or .i64 ((x.toNat : Int) * 256) (y.toNat : Int) = ((x.toNat * 256 + y.toNat : Nat) : Int) := by
  have hx := x.toNat_lt
  have hy := y.toNat_lt
  have h := i64_or_nat (x.toNat * 256) y.toNat (by omega) (by omega)
  rw [Int.natCast_mul] at h
  have h2 := Nat.two_pow_add_eq_or_of_lt (i := 8) (b := y.toNat) (by omega) x.toNat
  rw [show (2 : Nat) ^ 8 = 256 from rfl, Nat.mul_comm 256 x.toNat] at h2
  rw [h2]
  exact h
set_option maxHeartbeats 400000 in
theorem word_calls (A : Option Addr) (n c : Nat) (l : List UInt8) (i : Nat) (w : World) (hn : n = l.length) (hb : Bytes w A l) (hi : i + 1 < n) (hs : n ≤ 140737488355328) :
    Calls Tryd.prog 92 #[.slice A n c, .int .i64 (i : Int)] w fun e w' => e = .returned (.int .i64 (wordB l i : Int)) ∧ ∃ m, w' = w.drewN m := by
  obtain ⟨b, o, rfl⟩ := hb.spot (by omega)
  obtain ⟨ad, h, x1⟩ := hb i (by omega)
  cases h
  obtain ⟨ad, h, x2⟩ := hb (i + 1) (by omega)
  cases h
  rw [Addr.add_lit] at x1 x2
  have HW := Lib.hid (or_word (at8 l i) (at8 l (i + 1)))
  have e1 : IntKind.i64.wrap ((i : Int) + 1) = (i : Int) + 1 := IntWalk.i64_in _ (by omega)
  have e2 : 0 ≤ (i : Int) + 1 := by omega
  have e3 : ((i : Int) + 1).toNat = i + 1 := by omega
  have e4 : (i : Int) + 1 < (n : Int) := by omega
  have e5 : (i : Int) < (n : Int) := by omega
  obtain ⟨u1, u2⟩ := ltu8 (at8 l i)
  obtain ⟨u3, u4⟩ := ltu8 (at8 l (i + 1))
  clear hb hn hi
  unfold wordB
  rw [← HW.out]
  go_enter Tryd.func92, Tryd.ntmps92
  go_wp2_with fail
  go_quiet (fail)
  go_wp2_with fail
  go_ret
  exact ⟨rfl, _, rfl⟩
theorem kept_drewN (w : World) (m : Nat) : Below w.heap.size w (w.drewN m) := below_drewN _ _
set_option maxHeartbeats 400000 in
theorem cellsAt_calls (A : Option Addr) (n c : Nat) (l : List UInt8) (w : World) (hn : n = l.length) (hb : Bytes w A l) (hi : 5 < n) (hs : n ≤ 140737488355328) :
    Calls Tryd.prog 89 #[.slice A n c] w fun e w' => e = .returned (.int .i64 (8 + 2 * ((at8 l 5).toNat : Int))) ∧ w = w' := by
  obtain ⟨b, o, rfl⟩ := hb.spot (by omega)
  obtain ⟨ad, h, x1⟩ := hb 5 (by omega)
  cases h
  rw [Addr.add_lit] at x1
  obtain ⟨u1, u2⟩ := ltu8 (at8 l 5)
  have e4 : (5 : Int) < (n : Int) := by omega
  clear hb hn
  go_enter Tryd.func89, Tryd.ntmps89
  go_wp2_with fail
  go_ret
  exact ⟨rfl, rfl⟩
/-- Where a cell ends. -/
def endB (l : List UInt8) (i : Int) : Nat := if i < 0 then 0 else wordB l (8 + 2 * i.toNat)
theorem endB_le (l : List UInt8) (i : Int) : endB l i ≤ 65535 := by
  unfold endB; split
  · omega
  · exact wordB_le _ _
set_option maxHeartbeats 400000 in
theorem end_calls (A : Option Addr) (n c : Nat) (l : List UInt8) (i : Int) (w : World) (hn : n = l.length) (hb : Bytes w A l) (hi : -1 ≤ i) (hi2 : i < 0 ∨ 9 + 2 * i < n) (hs : n ≤ 140737488355328) :
    Calls Tryd.prog 90 #[.slice A n c, .int .i64 i] w fun e w' => e = .returned (.int .i64 (endB l i : Int)) ∧ ∃ m, w' = w.drewN m := by
  by_cases h0 : i < 0
  · have d1 : decide (i < 0) = true := by simpa using h0
    have e : endB l i = 0 := by unfold endB; rw [if_pos h0]
    rw [e]
    clear hb hn h0 e hi2
    go_enter Tryd.func90, Tryd.ntmps90
    go_wp2_with fail
    go_ret
    exact ⟨rfl, 0, rfl⟩
  · have d1 : decide (i < 0) = false := by simpa using h0
    have e : endB l i = wordB l (8 + 2 * i.toNat) := by unfold endB; rw [if_neg h0]
    rw [e]
    obtain ⟨k, rfl⟩ := Int.eq_ofNat_of_zero_le (Int.not_lt.1 h0)
    rw [Int.toNat_natCast]
    have hw := word_calls A n c l (8 + 2 * k) w hn hb (by omega) hs
    have e2 : (((8 + 2 * k : Nat)) : Int) = 8 + 2 * (k : Int) := by omega
    rw [e2] at hw
    have HW := Lib.hid hw
    clear hw hb hn h0 e e2
    go_enter Tryd.func90, Tryd.ntmps90
    go_wp2_with (go_at_call 92; refine HW.out.mono ?_; rintro e w' ⟨rfl, m, rfl⟩)
    go_ret
    exact ⟨rfl, m, rfl⟩
end Go.Proofs.YtibmlgkakeakcaaDoor
/- Pages: what a page is; the walk of page.sound. -/
set_option linter.unusedSimpArgs false
set_option linter.unusedVariables false
namespace Go.Proofs.YtibmlgkakeakcaaDoor
open Go.RowKit Go.Proofs.YtibmlgkakeakcaaDoor.Crc
def cntB (l : List UInt8) : Nat := (at8 l 5).toNat
def sizB (l : List UInt8) : Nat := wordB l 6
def riseB (l : List UInt8) (k : Nat) : Bool := (List.range k).all fun i => decide (endB l ((i : Int) - 1) ≤ endB l (i : Int))
def soundB (l : List UInt8) : Bool :=
  decide (l.length = 256) && (decide ((at8 l 0).toNat ≤ 127) && (decide (at8 l 4 ≠ 0) && (decide (2 * cntB l + sizB l ≤ 244) && (decide (endB l ((cntB l : Int) - 1) = sizB l) && (riseB l (cntB l) && zeroB ((l.take 252).drop (8 + 2 * cntB l + sizB l)))))))
theorem riseB_succ (l : List UInt8) (k : Nat) : riseB l (k + 1) = (riseB l k && decide (endB l ((k : Int) - 1) ≤ endB l (k : Int))) := by
  unfold riseB; rw [List.range_succ, List.all_append]; simp
theorem riseB_le (l : List UInt8) (k m : Nat) (hm : k ≤ m) (h : riseB l m = true) : riseB l k = true := by
  unfold riseB at h ⊢
  rw [List.all_eq_true] at h ⊢
  intro i hi
  exact h i (by rw [List.mem_range] at hi ⊢; omega)
set_option maxRecDepth 100000 in
set_option maxHeartbeats 600000 in
theorem sound_calls (A : Option Addr) (n c : Nat) (l : List UInt8) (w : World) (hn : n = l.length) (hb : Bytes w A l) (hc : n ≤ c) (hm : c ≤ 9223372036854775807) (hs : n ≤ 140737488355328) :
    Calls Tryd.prog 73 #[.slice A n c] w fun e w' => e = .returned (.bool (soundB l)) ∧ ∃ m, w' = w.drewN m := by
  by_cases h256 : l.length = 256
  · obtain ⟨b, o, rfl⟩ := hb.spot (by omega)
    have hn' : n = 256 := by omega
    subst hn'
    have cellAt : ∀ i, i < 256 → w.cell? ⟨b, o + i, none⟩ = some (.int .u8 ((at8 l i).toNat : Int)) := fun i hi => by
      obtain ⟨ad, h, hx⟩ := hb i (by omega)
      cases h
      rw [Addr.add_lit] at hx
      exact hx
    have x0 := cellAt 0 (by decide)
    rw [Nat.add_zero] at x0
    have x4 := cellAt 4 (by decide)
    have x5 := cellAt 5 (by decide)
    have HB := Lib.hid hb
    have HL := Lib.hid h256
    obtain ⟨u1, u2⟩ := ltu8 (at8 l 0)
    obtain ⟨u3, u4⟩ := ltu8 (at8 l 4)
    obtain ⟨u5, u6⟩ := ltu8 (at8 l 5)
    clear hb cellAt
    by_cases h0 : (at8 l 0).toNat ≤ 127
    · have d0 : decide (((at8 l 0).toNat : Int) > 127) = false := by simp; omega
      by_cases h4 : at8 l 4 = 0
      · have d4 : (((at8 l 4).toNat : Int) == 0) = true := by rw [h4]; rfl
        have e : soundB l = false := by unfold soundB; simp [h256, h0, h4]
        rw [e]
        clear e hn h256 h0 h4
        go_enter Tryd.func73, Tryd.ntmps73
        go_wp2_with fail
        go_ret
        exact ⟨rfl, 0, rfl⟩
      · have d4 : (((at8 l 4).toNat : Int) == 0) = false := by
          rw [beq_eq_false_iff_ne]; intro h; exact h4 (UInt8.toNat_inj.1 (by simpa using h))
        have e : soundB l = (decide (2 * cntB l + sizB l ≤ 244) && (decide (endB l ((cntB l : Int) - 1) = sizB l) && (riseB l (cntB l) && zeroB ((l.take 252).drop (8 + 2 * cntB l + sizB l))))) := by unfold soundB; simp [h256, h0, h4]
        have E := Lib.hid e
        have E0 := Lib.hid e
        rw [e]
        have hwd := word_calls (some ⟨b, o, none⟩) 256 c l 6
        rw [show ((6 : Nat) : Int) = 6 from rfl] at hwd
        have HWd := Lib.hid (fun (w' : World) (h : Bytes w' (some ⟨b, o, none⟩) l) => hwd w' HL.out.symm h (by decide) (by decide))
        clear e hn h256 h0 h4 hwd
        go_enter Tryd.func73, Tryd.ntmps73
        go_wp2_with fail
        go_quiet ((go_at_call 92; exact Calls.quiet_of (HWd.out _ (by exact HB.out))))
        obtain ⟨N, hN⟩ : ∃ N, (at8 l 5).toNat = N := ⟨_, rfl⟩
        obtain ⟨S, hS⟩ : ∃ S, wordB l 6 = S := ⟨_, rfl⟩
        have HNN := Lib.hid hN
        have hE : soundB l = (decide (2 * N + S ≤ 244) && (decide (endB l ((N : Int) - 1) = S) && (riseB l N && zeroB ((l.take 252).drop (8 + 2 * N + S))))) := by
          have := E.out
          unfold cntB sizB at this
          rw [hN, hS] at this
          exact this
        have HE := Lib.hid hE
        have hS2 := wordB_le l 6
        rw [hN] at u5 u6 x5 ⊢
        rw [hS] at hS2 ⊢
        have HEnd := Lib.hid (fun (m : Nat) (i : Int) (h1 : -1 ≤ i) (h2 : i < 0 ∨ 9 + 2 * i < (256 : Nat)) => end_calls (some ⟨b, o, none⟩) 256 c l i (w.drewN m) HL.out.symm (HB.out.below (kept_drewN w m)) h1 h2 (by decide))
        clear hE E HWd hN hS x0 x4 x5 u1 u2 u3 u4 d0 d4
        by_cases h244 : 2 * N + S ≤ 244
        · have d1 : decide (2 * (N : Int) + (S : Int) > 244) = false := by simp; omega
          have d3 : decide (8 + 2 * (N : Int) ≤ 252) = true := by simp; omega
          have hEn := Lib.hid (HEnd.out nq ((N : Int) - 1) (by omega) (by omega))
          go_wp2_with (go_at_call 90; refine hEn.out.mono ?_; rintro e w2 ⟨rfl, m2, rfl⟩; refine park ?_; intro q hq)
          clear hEn
          refine hq.out ?_
          clear hq
          by_cases hes : endB l ((N : Int) - 1) = S
          · rw [hes]
            have d2 : ((S : Int) != (S : Int)) = false := by simp
            have HES : Hid (soundB l = (riseB l N && zeroB ((l.take 252).drop (8 + 2 * N + S)))) := by
              show _ = _
              rw [HE.out]; simp [h244, hes]
            rw [World.drewN_drewN]
            clear hes HE
            generalize nq + m2 = m3
            go_wp2_with fail
            go_loopw [48] (fun i wr => ∃ k : Nat, k ≤ N ∧ i = .int .i64 k ∧ Hid (riseB l k = true ∧ ∃ m, wr = w.drewN m)) (fun i _ => N - (intOf i).toNat)
            case atStart => exact ⟨0, Nat.zero_le _, rfl, rfl, m3, rfl⟩
            case round =>
              obtain ⟨k, hk, rfl, HR⟩ := hrel
              obtain ⟨m, rfl⟩ := HR.out.2
              have HRi := Lib.hid HR.out.1
              clear HR
              by_cases hlt : k < N
              · have hE1 := Lib.hid (HEnd.out m (k : Int) (by omega) (by omega))
                go_wp2_with (go_at_call 90; refine hE1.out.mono ?_; rintro e w2 ⟨rfl, m4, rfl⟩; refine park ?_; intro q hq)
                refine hq.out ?_
                clear hq hE1
                rw [World.drewN_drewN]
                generalize m + m4 = m5
                have hE2 := Lib.hid (HEnd.out m5 ((k : Int) - 1) (by omega) (by omega))
                go_wp2_with (go_at_call 90; refine hE2.out.mono ?_; rintro e w2 ⟨rfl, m6, rfl⟩; refine park ?_; intro q hq)
                refine hq.out ?_
                clear hq hE2
                rw [World.drewN_drewN]
                generalize m5 + m6 = m7
                have hsu := riseB_succ l k
                rw [HRi.out, Bool.true_and] at hsu
                have hq1 := endB_le l (k : Int)
                have hq2 := endB_le l ((k : Int) - 1)
                by_cases hle : endB l ((k : Int) - 1) ≤ endB l (k : Int)
                · have d5 : decide (endB l (k : Int) < endB l ((k : Int) - 1)) = false := by simp; omega
                  have HN : Hid (riseB l (k + 1) = true ∧ ∃ m, w.drewN m7 = w.drewN m) := ⟨by rw [hsu]; simpa using hle, m7, rfl⟩
                  clear hsu hle HRi
                  go_wp2_with fail
                  go_roundw
                  case rel => exact ⟨k + 1, by omega, by go_num, HN⟩
                  case measure => simp [intOf]; omega
                · have d5 : decide (endB l (k : Int) < endB l ((k : Int) - 1)) = true := by simp; omega
                  have HF : Hid (soundB l = false) := by
                    show _ = _
                    rw [HES.out]
                    have : riseB l N = false := by
                      cases hr : riseB l N
                      · rfl
                      · have h3 := riseB_le l (k + 1) N (by omega) hr
                        rw [hsu] at h3
                        exact absurd (by simpa using h3) hle
                    rw [this]; rfl
                  clear hsu hle HRi
                  go_wp2_with fail
                  go_ret
                  exact ⟨by rw [← E0.out, HF.out]; rfl, m7, rfl⟩
              · obtain rfl : k = N := by omega
                have hCe := cellsAt_calls (some ⟨b, o, none⟩) 256 c l (w.drewN m) HL.out.symm (HB.out.below (kept_drewN w m)) (by decide) (by decide)
                rw [HNN.out] at hCe
                have HCe := Lib.hid hCe
                clear hCe
                have hzl : ((l.take 252).drop (8 + 2 * k + S)).length = 252 - (8 + 2 * k + S) := by
                  have h6 : l.length = 256 := HL.out
                  rw [List.length_drop, List.length_take, h6]; omega
                have hbt := ((HB.out.below (kept_drewN w m)).take 252).drop (8 + 2 * k + S)
                have hT := trimLeft_calls (some ⟨b, o + (8 + 2 * k + S), none⟩) (252 - (8 + 2 * k + S)) (c - (8 + 2 * k + S)) ((l.take 252).drop (8 + 2 * k + S)) (w.drewN m) hzl.symm hbt (by omega) (by omega)
                obtain ⟨dl, hdl⟩ : ∃ d, (((l.take 252).drop (8 + 2 * k + S)).dropWhile (· == 0)).length = d := ⟨_, rfl⟩
                have ez : ((dl : Int) == 0) = zeroB ((l.take 252).drop (8 + 2 * k + S)) := by
                  rw [Bool.eq_iff_iff, ← dropWhile_zero, hdl]; simp
                rw [hdl] at hT
                have HT := Lib.hid hT
                have EZ := Lib.hid ez
                have hne : ¬ c = 8 + 2 * k + S := by omega
                have f1 : (8 + 2 * (k : Int) + (S : Int)).toNat = 8 + 2 * k + S := by omega
                have f2 : 8 + 2 * (k : Int) + (S : Int) ≤ 252 := by omega
                have f3 : IntKind.i64.wrap (8 + 2 * (k : Int) + (S : Int)) = 8 + 2 * (k : Int) + (S : Int) := IntWalk.i64_in _ (by omega)
                clear hT ez hdl hbt hzl
                go_wp2_with (go_at_call 89; refine HCe.out.mono ?_; rintro e w' ⟨rfl, rfl⟩)
                go_at_call 95
                refine HT.out.mono ?_
                rintro e w' ⟨⟨A', c', rfl⟩, rfl⟩
                go_wp2_with fail
                go_ret
                refine ⟨?_, m, rfl⟩
                rw [← E0.out, HES.out, HRi.out, Bool.true_and, ← EZ.out]
                rfl
          · have d2 : (((endB l ((N : Int) - 1) : Nat) : Int) != (S : Int)) = true := by simp; omega
            have e : soundB l = false := by rw [HE.out]; simp [hes]
            have HF := Lib.hid e
            clear e hes
            go_wp2_with fail
            go_ret
            exact ⟨by rw [← E0.out, HF.out]; rfl, nq + m2, rfl⟩
        · have d1 : decide (2 * (N : Int) + (S : Int) > 244) = true := by simp; omega
          have e : soundB l = false := by rw [HE.out]; simp [h244]
          have HF := Lib.hid e
          clear e h244
          go_wp2_with fail
          go_ret
          exact ⟨by rw [← E0.out, HF.out]; rfl, nq, rfl⟩
    · have d0 : decide (((at8 l 0).toNat : Int) > 127) = true := by simp; omega
      have e : soundB l = false := by unfold soundB; simp [h256, h0]
      rw [e]
      clear e hn h256 h0
      go_enter Tryd.func73, Tryd.ntmps73
      go_wp2_with fail
      go_ret
      exact ⟨rfl, 0, rfl⟩
  · have e : soundB l = false := by unfold soundB; simp [h256]
    rw [e]
    have h2 : ((n : Int) != 256) = true := by simp; omega
    clear e hb hn h256
    go_enter Tryd.func73, Tryd.ntmps73
    go_wp2_with fail
    go_ret
    exact ⟨rfl, 0, rfl⟩
end Go.Proofs.YtibmlgkakeakcaaDoor
/- Pages: the walks of page.own, Kind, Count. -/
set_option linter.unusedSimpArgs false
set_option linter.unusedVariables false
namespace Go.Proofs.YtibmlgkakeakcaaDoor
open Go.RowKit Go.Proofs.YtibmlgkakeakcaaDoor.Crc
theorem below_keep2 {r : Nat} {w a b : World} (hr : w.heap.size = r) (h : Below r w a) (k : Kept (· = r) a b) : Below r w b := h.trans (k.below (by have := h.size; omega) (fun k hk e => by omega))
section
variable {ops : Array Oper} {rest : List Oper} {o : Oper} {a : Act} {Q : Exit → Act → World → Prop} {w : World}
/-- make of 256 bytes. -/
theorem wpList_make256 (hg : o.guard = none) (l c : Operand) (ho : o.op = Op.makeSlice 30 l c) (hl : a.eval l = .int .i64 256) (hc : a.eval c = .int .i64 256)
    (h : ∀ w', BlkB w' w.heap.size 5 zsec → Below w.heap.size w w' → wpList Tryd.prog ops Q rest (a.put o.dst (.slice (some ⟨w.heap.size, 0, none⟩) 256 256)) w') : wpList Tryd.prog ops Q (o :: rest) a w := by
  obtain ⟨i, hi, hz0, hz1, hz2⟩ := info_parts info8
  refine wpList_make_row w hg l c _ ho 5 i (.int .u8 0) Tryd.underlying30 hi hz0 hz1 rfl .i64 .i64 256 hl hc (by rw [hz2]; decide) (by decide) ?_
  refine h _ ?_ ((Below.refl _ _).alloc (Nat.le_refl _) _)
  have e : madeCells #[Value.int .u8 0] 256 = (cells8 zsec).toArray := by kernel_rfl
  rw [e]
  exact heap_alloc_new w _
end
def ownP (l : List UInt8) : List UInt8 := l.take 252 ++ [0, 0, 0, 0]
theorem ownP_len (l : List UInt8) (h : 252 ≤ l.length) : (ownP l).length = 256 := by
  unfold ownP; rw [List.length_append, List.length_take, Nat.min_eq_left h]; rfl
theorem splice_own (l : List UInt8) (h : 252 ≤ l.length) : splice zsec 0 ((l.take 252).take 256) = ownP l := by
  unfold splice ownP
  have h1 : (l.take 252).length = 252 := by rw [List.length_take, Nat.min_eq_left h]
  have h2 : ((l.take 252).take 256) = l.take 252 := List.take_of_length_le (by omega)
  rw [h2, h1]
  rfl
set_option maxRecDepth 100000 in
set_option maxHeartbeats 400000 in
theorem own_calls (A : Option Addr) (n c : Nat) (l : List UInt8) (w : World) (hn : n = l.length) (hb : Bytes w A l) (h252 : 252 ≤ n) (hc : n ≤ c) (hm : c ≤ 9223372036854775807) :
    Calls Tryd.prog 88 #[.slice A n c] w fun e w' => ∃ r, e = .returned (.slice (some ⟨r, 0, none⟩) 256 256) ∧ w.heap.size ≤ r ∧ BlkB w' r 5 (ownP l) ∧ Below w.heap.size w w' := by
  have HB := Lib.hid hb
  obtain ⟨b, o, rfl⟩ := hb.spot (by omega)
  have HL : Hid (252 ≤ l.length) := by show 252 ≤ _; omega
  have f1 : 252 ≤ c := by omega
  clear hb hn
  go_enter Tryd.func88, Tryd.ntmps88
  go_wp2_with (with_reducible refine park_make ?_; intro q hq)
  refine hq.out ?_
  clear hq
  refine wpList_make256 rfl _ _ rfl rfl rfl ?_
  intro w1 hA1 hk1
  have HA1 := Lib.hid hA1
  have HK1 := Lib.hid hk1
  have HB1 := Lib.hid (HB.out.below hk1)
  clear hA1 hk1
  obtain ⟨r, hr⟩ : ∃ r, w.heap.size = r := ⟨_, rfl⟩
  have HR := Lib.hid hr
  rw [hr] at HA1 ⊢
  clear hr
  go_wp2_with (with_reducible refine park_copy ?_; intro q hq)
  refine hq.out ?_
  clear hq
  have hl2 : (l.take 252).length = 252 := by rw [List.length_take, Nat.min_eq_left HL.out]
  refine wpList_copyB rfl _ _ rfl r 0 256 256 (some ⟨b, o, none⟩) 252 c rfl rfl _ zsec (l.take 252) HA1.out hl2.symm (HB1.out.take 252) (by rw [hl2]; decide) ?_
  intro w2 hA2 hk2
  rw [splice_own l HL.out] at hA2
  have HA2 := Lib.hid hA2
  have HK2 := Lib.hid hk2
  rw [List.length_take, hl2]
  clear hA2 hk2 hl2
  go_wp2_with fail
  go_ret
  exact ⟨r, rfl, Nat.le_of_eq HR.out, HA2.out, below_keep2 rfl HK1.out (by rw [HR.out]; exact HK2.out)⟩
end Go.Proofs.YtibmlgkakeakcaaDoor
/- Pages: the walks of Count, left, Free. -/
set_option linter.unusedSimpArgs false
set_option linter.unusedVariables false
namespace Go.Proofs.YtibmlgkakeakcaaDoor
open Go.RowKit Go.Proofs.YtibmlgkakeakcaaDoor.Crc
theorem soundB_len (l : List UInt8) (h : soundB l = true) : l.length = 256 := by
  unfold soundB at h
  simp only [Bool.and_eq_true, decide_eq_true_eq] at h
  exact h.1
theorem soundB_room (l : List UInt8) (h : soundB l = true) : 2 * cntB l + sizB l ≤ 244 := by
  unfold soundB at h
  simp only [Bool.and_eq_true, decide_eq_true_eq] at h
  exact h.2.2.2.1
def countP (l : List UInt8) : Nat := if soundB l = true then cntB l else 0
set_option maxHeartbeats 400000 in
theorem Count_calls (A : Option Addr) (n c : Nat) (l : List UInt8) (w : World) (hn : n = l.length) (hb : Bytes w A l) (hc : n ≤ c) (hm : c ≤ 9223372036854775807) (hs : n ≤ 140737488355328) :
    Calls Tryd.prog 74 #[.slice A n c] w fun e w' => e = .returned (.int .i64 (countP l : Int)) ∧ ∃ m, w' = w.drewN m := by
  have HS := Lib.hid (sound_calls A n c l w hn hb hc hm hs)
  by_cases hS : soundB l = true
  · rw [hS] at HS
    have h256 := soundB_len l hS
    obtain ⟨b, o, rfl⟩ := hb.spot (by omega)
    have x4 : ∀ m, (w.drewN m).cell? ⟨b, o + 5, none⟩ = some (.int .u8 ((at8 l 5).toNat : Int)) := fun m => by
      obtain ⟨ad, h, hx⟩ := (hb.below (kept_drewN w m)) 5 (by omega)
      cases h
      rw [Addr.add_lit] at hx
      exact hx
    obtain ⟨u1, u2⟩ := ltu8 (at8 l 5)
    have e : countP l = (at8 l 5).toNat := by unfold countP cntB; rw [if_pos hS]
    rw [e]
    have h4 : (5 : Int) < (n : Int) := by omega
    have HX := Lib.hid x4
    clear hb hn e hS h256 x4
    go_enter Tryd.func74, Tryd.ntmps74
    go_wp2_with (go_at_call 73; refine HS.out.mono ?_; rintro e w2 ⟨rfl, m2, rfl⟩; refine park ?_; intro q hq)
    have x4 := HX.out m2
    refine hq.out ?_
    clear hq
    go_wp2_with fail
    go_ret
    exact ⟨rfl, m2, rfl⟩
  · have hS' : soundB l = false := by simpa using hS
    rw [hS'] at HS
    have e : countP l = 0 := by unfold countP; rw [if_neg hS]
    rw [e]
    clear hb hn e hS hS'
    go_enter Tryd.func74, Tryd.ntmps74
    go_wp2_with (go_at_call 73; refine HS.out.mono ?_; rintro e w2 ⟨rfl, m2, rfl⟩)
    go_ret
    exact ⟨rfl, _, rfl⟩
end Go.Proofs.YtibmlgkakeakcaaDoor
/- Pages: the walks of page.left, Free. -/
set_option linter.unusedSimpArgs false
set_option linter.unusedVariables false
namespace Go.Proofs.YtibmlgkakeakcaaDoor
open Go.RowKit Go.Proofs.YtibmlgkakeakcaaDoor.Crc
/-- How many bytes of a sound page's room are left. -/
def leftP (l : List UInt8) : Nat := 244 - (2 * cntB l + sizB l)
def freeP (l : List UInt8) : Int := if soundB l = true then (if leftP l < 2 then -1 else (leftP l : Int) - 2) else -1
set_option maxHeartbeats 400000 in
theorem left_calls (A : Option Addr) (n c : Nat) (l : List UInt8) (w : World) (hn : n = l.length) (hb : Bytes w A l) (hS : soundB l = true) :
    Calls Tryd.prog 87 #[.slice A n c] w fun e w' => e = .returned (.int .i64 (leftP l : Int)) ∧ ∃ m, w' = w.drewN m := by
  have h256 := soundB_len l hS
  have hroom := soundB_room l hS
  obtain ⟨b, o, rfl⟩ := hb.spot (by omega)
  obtain ⟨ad, h, x5⟩ := hb 5 (by omega)
  cases h
  rw [Addr.add_lit] at x5
  obtain ⟨u1, u2⟩ := ltu8 (at8 l 5)
  have hwd := word_calls (some ⟨b, o, none⟩) n c l 6
  rw [show ((6 : Nat) : Int) = 6 from rfl] at hwd
  obtain ⟨S, hS6⟩ : ∃ S, wordB l 6 = S := ⟨_, rfl⟩
  rw [hS6] at hwd
  have HWd := Lib.hid (fun (w' : World) (h : Bytes w' (some ⟨b, o, none⟩) l) => hwd w' hn h (by omega) (by omega))
  have HB := Lib.hid hb
  obtain ⟨N, hN⟩ : ∃ N, (at8 l 5).toNat = N := ⟨_, rfl⟩
  have hlp : (leftP l : Int) = 244 - 2 * (N : Int) - (S : Int) := by
    have h1 : 2 * (at8 l 5).toNat + wordB l 6 ≤ 244 := hroom
    show ((244 - (2 * (at8 l 5).toNat + wordB l 6) : Nat) : Int) = _
    rw [hN, hS6] at h1 ⊢
    omega
  have HLP := Lib.hid hlp
  have hroom2 : 2 * N + S ≤ 244 := by unfold cntB sizB at hroom; rw [hN, hS6] at hroom; exact hroom
  rw [hN] at x5 u1 u2
  have h4 : (5 : Int) < (n : Int) := by omega
  rw [HLP.out]
  clear hb hn hwd h256 hroom hS hN hS6 hlp
  go_enter Tryd.func87, Tryd.ntmps87
  go_wp2_with fail
  go_quiet ((go_at_call 92; exact Calls.quiet_of (HWd.out _ (by exact HB.out))))
  go_wp2_with fail
  go_ret
  exact ⟨rfl, _, rfl⟩
end Go.Proofs.YtibmlgkakeakcaaDoor
/- Pages: the walks of page.setWord, New. -/
set_option linter.unusedSimpArgs false
set_option linter.unusedVariables false
namespace Go.Proofs.YtibmlgkakeakcaaDoor
open Go.RowKit Go.Proofs.YtibmlgkakeakcaaDoor.Crc
/-- A number of two bytes set. -/
def setW (l : List UInt8) (i n : Nat) : List UInt8 := (l.set i (UInt8.ofNat (n / 256))).set (i + 1) (UInt8.ofNat n)
set_option maxHeartbeats 400000 in
theorem setWord_calls (g : Nat) (l : List UInt8) (i n : Nat) (w : World) (hb : BlkB w g 5 l) (hl : l.length = 256) (hi : i + 1 < 256) (hn : n < 65536) :
    Calls Tryd.prog 91 #[.slice (some ⟨g, 0, none⟩) 256 256, .int .i64 (i : Int), .int .i64 (n : Int)] w fun e w' => e = .returned (.tuple #[]) ∧ BlkB w' g 5 (setW l i n) ∧ Kept (· = g) w w' := by
  have e1 : IntKind.i64.wrap ((i : Int) + 1) = (i : Int) + 1 := IntWalk.i64_in _ (by omega)
  have e2 : 0 ≤ (i : Int) + 1 := by omega
  have e3 : ((i : Int) + 1).toNat = i + 1 := by omega
  have e4 : (i : Int) + 1 < 256 := by omega
  have e5 : (i : Int) < 256 := by omega
  have e6 : IntKind.u8.wrap ((n : Int) / 256) = ((UInt8.ofNat (n / 256)).toNat : Int) := by
    simp only [IntKind.wrap, IntKind.bits, IntKind.signed]; simp
  have e7 : IntKind.u8.wrap (n : Int) = ((UInt8.ofNat n).toNat : Int) := by
    simp only [IntKind.wrap, IntKind.bits, IntKind.signed]; simp
  have HA := Lib.hid (((hb.set i (UInt8.ofNat (n / 256))).set (i + 1) (UInt8.ofNat n)))
  have HK : Hid (Kept (· = g) w ((w.setCell ⟨g, i, none⟩ (.int .u8 ((UInt8.ofNat (n / 256)).toNat : Int))).setCell ⟨g, i + 1, none⟩ (.int .u8 ((UInt8.ofNat n).toNat : Int)))) := (Kept.set1 w g i _).trans (Kept.set1 _ g (i + 1) _)
  obtain ⟨x1, x2⟩ := hb.cell i (by omega)
  obtain ⟨x3, x4⟩ := (hb.set i (UInt8.ofNat (n / 256))).cell (i + 1) (by rw [List.length_set]; omega)
  generalize hA : (UInt8.ofNat (n / 256)).toNat = a at *
  generalize hB : (UInt8.ofNat n).toNat = b at *
  unfold setW
  clear hb hA hB
  go_enter Tryd.func91, Tryd.ntmps91
  go_wp2_with fail
  go_end0
  exact ⟨rfl, HA.out, HK.out⟩
def newB (no : Nat) (k : UInt8) : List UInt8 := fixB no 4 ++ k :: List.replicate 251 0
theorem splice_new (no : Nat) (k : UInt8) : (splice zsec 0 ((fixB no 4).take 256)).set 4 k = newB no k := by
  have h1 : (fixB no 4).length = 4 := fixB_length no 4
  have h2 : (fixB no 4).take 256 = fixB no 4 := List.take_of_length_le (by omega)
  unfold splice newB
  rw [h2, h1]
  show ([] ++ (fixB no 4 ++ List.drop (0 + 4) zsec)).set 4 k = _
  rw [List.nil_append, List.set_append_right _ _ (by omega), h1]
  rfl
/-- What New tells. -/
def newP (no : Int) (k : UInt8) : List UInt8 × Int := if no < 0 ∨ 2147483647 < no ∨ k = 0 then ([], 2) else (newB no.toNat k, 0)
set_option maxRecDepth 100000 in
set_option maxHeartbeats 400000 in
theorem New_calls (no : Nat) (k : UInt8) (w : World) (h1 : no ≤ 2147483647) (h2 : ¬ k = 0) :
    Calls Tryd.prog 64 #[.int .i64 (no : Int), .int .u8 (k.toNat : Int)] w fun e w' => ∃ r, e = .returned (.tuple #[.slice (some ⟨r, 0, none⟩) 256 256, .int .i64 0]) ∧ w.heap.size ≤ r ∧ BlkB w' r 5 (newB no k) ∧ Below w.heap.size w w' := by
  have d1 : decide ((no : Int) < 0) = false := by simp
  have d2 : decide ((no : Int) > 2147483647) = false := by simp; omega
  have d3 : ((k.toNat : Int) == 0) = false := by
    rw [beq_eq_false_iff_ne]; intro h; exact h2 (UInt8.toNat_inj.1 (by simpa using h))
  have d4 : IntKind.u64.wrap (no : Int) = (no : Int) := by simp only [IntKind.wrap, IntKind.bits, IntKind.signed]; simp; omega
  obtain ⟨u1, u2⟩ := ltu8 k
  have HP := Lib.hid (fun w => PutFixed_calls no (by omega) 4 (by decide) w)
  rw [show ((4 : Nat) : Int) = 4 from rfl] at HP
  clear h1 h2
  go_enter Tryd.func64, Tryd.ntmps64
  go_wp2_with (with_reducible refine park_make ?_; intro q hq)
  refine hq.out ?_
  clear hq
  refine wpList_make256 rfl _ _ rfl rfl rfl ?_
  intro w1 hA1 hk1
  have HA1 := Lib.hid hA1
  have HK1 := Lib.hid hk1
  clear hA1 hk1
  obtain ⟨r, hr⟩ : ∃ r, w.heap.size = r := ⟨_, rfl⟩
  have HR := Lib.hid hr
  rw [hr] at HA1 ⊢
  clear hr
  go_wp2_with (go_at_call 63; refine (HP.out _).mono ?_; rintro e w2 ⟨Am, cm, rfl, hOm, hb2⟩; refine park ?_; intro q hq)
  have HA2 := Lib.hid (HA1.out.below hb2)
  have HB2 : Hid (Below w.heap.size w w2) := HK1.out.trans (hb2.mono HK1.out.size)
  have HM2 := Lib.hid hOm.bytes
  clear hOm hb2
  refine hq.out ?_
  clear hq
  go_wp2_with (with_reducible refine park_copy ?_; intro q hq)
  refine hq.out ?_
  clear hq
  refine wpList_copyB rfl _ _ rfl r 0 256 256 Am (fixB no 4).length cm rfl rfl _ zsec (fixB no 4) HA2.out rfl HM2.out (by rw [fixB_length]; decide) ?_
  intro w3 hA3 hk3
  have hl3 : (splice zsec 0 ((fixB no 4).take 256)).length = 256 := by unfold splice; simp [fixB_length, zsec_length]
  obtain ⟨x1, x2⟩ := hA3.cell 4 (by rw [hl3]; decide)
  have hA4 := hA3.set 4 k
  rw [splice_new] at hA4
  have HA4 := Lib.hid hA4
  have HK4 : Hid (Kept (· = r) w2 (w3.setCell ⟨r, 4, none⟩ (.int .u8 (k.toNat : Int)))) := hk3.trans (Kept.set1 w3 r 4 _)
  have hlt : (List.take 256 (fixB no 4)).length = 4 := by simp [fixB_length]
  rw [hlt]
  clear hA3 hk3 hA4 hl3 hlt
  go_wp2_with fail
  go_ret2
  exact ⟨r, rfl, Nat.le_of_eq HR.out, HA4.out, below_keep2 rfl HB2.out (by rw [HR.out]; exact HK4.out)⟩
end Go.Proofs.YtibmlgkakeakcaaDoor
/- Pages: the walk of page.cell. -/
set_option linter.unusedSimpArgs false
set_option linter.unusedVariables false
namespace Go.Proofs.YtibmlgkakeakcaaDoor
open Go.RowKit Go.Proofs.YtibmlgkakeakcaaDoor.Crc
set_option maxRecDepth 100000 in
set_option maxHeartbeats 200000 in
theorem cell_calls (b o n c : Nat) (l : List UInt8) (i : Nat) (w : World) (hn : n = l.length) (hb : Bytes w (some ⟨b, o, none⟩) l) (h256 : l.length = 256) (hc : n ≤ c) (hm : c ≤ 9223372036854775807) (hi : 8 + 2 * i < 255)
    (N E0 E1 : Nat) (hN : (at8 l 5).toNat = N) (hE0 : endB l ((i : Int) - 1) = E0) (hE1 : endB l (i : Int) = E1) (h01 : E0 ≤ E1) (hfit : 8 + 2 * N + E1 ≤ 252) :
    Calls Tryd.prog 75 #[.slice (some ⟨b, o, none⟩) n c, .int .i64 (i : Int)] w fun e w' => e = .returned (.slice (some ⟨b, o + (8 + 2 * N + E0), none⟩) (E1 - E0) (c - (8 + 2 * N + E0))) ∧ ∃ m, w' = w.drewN m := by
  have hCe := cellsAt_calls (some ⟨b, o, none⟩) n c l w hn hb (by omega) (by omega)
  rw [hN] at hCe
  have hCe2 : Calls Tryd.prog 89 #[.slice (some ⟨b, o, none⟩) n c] w fun e w' => e = .returned (.int .i64 ((8 + 2 * N : Nat) : Int)) ∧ w = w' := by
    have e : ((8 + 2 * N : Nat) : Int) = 8 + 2 * (N : Int) := by omega
    rw [e]; exact hCe
  obtain ⟨B, hB⟩ : ∃ B, 8 + 2 * N = B := ⟨_, rfl⟩
  rw [hB] at hCe2 hfit ⊢
  have HCe := Lib.hid hCe2
  have h1 := fun (w' : World) (h : Bytes w' (some ⟨b, o, none⟩) l) => end_calls (some ⟨b, o, none⟩) n c l ((i : Int) - 1) w' hn h (by omega) (by omega) (by omega)
  have h2 := fun (w' : World) (h : Bytes w' (some ⟨b, o, none⟩) l) => end_calls (some ⟨b, o, none⟩) n c l (i : Int) w' hn h (by omega) (by omega) (by omega)
  rw [hE0] at h1
  rw [hE1] at h2
  have H1 := Lib.hid h1
  have H2 := Lib.hid h2
  have HB := Lib.hid hb
  have HBd := Lib.hid (fun m => hb.below (kept_drewN w m))
  have hn2 : n = 256 := by omega
  subst hn2
  clear hCe hCe2 h1 h2 hb hn h256 hN hE0 hE1
  have f1 : E1 - E0 = (B + E1) - (B + E0) := by omega
  rw [f1]
  clear f1
  obtain ⟨F, hF⟩ : ∃ F, B + E0 = F := ⟨_, rfl⟩
  obtain ⟨G, hG⟩ : ∃ G, B + E1 = G := ⟨_, rfl⟩
  rw [hF, hG]
  have g1 : IntKind.i64.wrap ((B : Int) + (E0 : Int)) = (F : Int) := by rw [← hF]; exact IntWalk.i64_in _ (by omega)
  have g2 : IntKind.i64.wrap ((B : Int) + (E1 : Int)) = (G : Int) := by rw [← hG]; exact IntWalk.i64_in _ (by omega)
  have g3 : F ≤ G := by omega
  have g4 : G ≤ 252 := by omega
  go_enter Tryd.func75, Tryd.ntmps75
  go_wp2_with (first | (go_at_call 89; refine HCe.out.mono ?_; rintro e w' ⟨rfl, rfl⟩) | (go_at_call 90; with_reducible refine (H1.out _ HB.out).mono ?_; rintro e w2 ⟨rfl, m2, rfl⟩) | (go_at_call 90; with_reducible refine (H2.out _ (HBd.out _)).mono ?_; rintro e w2 ⟨rfl, m3, rfl⟩; rw [World.drewN_drewN]))
  go_ret
  exact ⟨rfl, _, rfl⟩
end Go.Proofs.YtibmlgkakeakcaaDoor
/- Pages: words that are set, plain. -/
set_option linter.unusedSimpArgs false
set_option linter.unusedVariables false
namespace Go.Proofs.YtibmlgkakeakcaaDoor
open Go.RowKit Go.Proofs.YtibmlgkakeakcaaDoor.Crc
theorem setW_len (l : List UInt8) (i n : Nat) : (setW l i n).length = l.length := by unfold setW; simp
theorem at8_set_ne (l : List UInt8) (i j : Nat) (x : UInt8) (h : i ≠ j) : at8 (l.set i x) j = at8 l j := by
  unfold at8; simp [List.getElem?_set_ne h]
theorem at8_set_eq (l : List UInt8) (i : Nat) (x : UInt8) (h : i < l.length) : at8 (l.set i x) i = x := by
  unfold at8; simp [h]
theorem wordB_setW_ne (l : List UInt8) (i j n : Nat) (h : j + 1 < i ∨ i + 1 < j) : wordB (setW l i n) j = wordB l j := by
  unfold wordB setW
  rw [at8_set_ne _ _ _ _ (by omega), at8_set_ne _ _ _ _ (by omega), at8_set_ne _ _ _ _ (by omega), at8_set_ne _ _ _ _ (by omega)]
theorem wordB_setW_eq (l : List UInt8) (i n : Nat) (h : i + 1 < l.length) (hn : n < 65536) : wordB (setW l i n) i = n := by
  unfold wordB setW
  rw [at8_set_ne _ _ _ _ (by omega), at8_set_eq _ _ _ (by omega), at8_set_eq _ _ _ (by rw [List.length_set]; omega)]
  simp only [UInt8.toNat_ofNat']
  omega
/-- The ends from i on, m of them, moved by d. -/
def shiftB (l : List UInt8) (i : Nat) (d : Int) : Nat → List UInt8
  | 0 => l
  | m + 1 => setW (shiftB l i d m) (8 + 2 * (i + m)) ((endB l ((i + m : Nat) : Int) : Int) + d).toNat
theorem shiftB_len (l : List UInt8) (i : Nat) (d : Int) (m : Nat) : (shiftB l i d m).length = l.length := by
  induction m with
  | zero => rfl
  | succ m ih => show (setW _ _ _).length = _; rw [setW_len, ih]
theorem shiftB_word (l : List UInt8) (i : Nat) (d : Int) (m j : Nat) (h : j + 1 < 8 + 2 * i ∨ 8 + 2 * (i + m) ≤ j) : wordB (shiftB l i d m) j = wordB l j := by
  induction m with
  | zero => rfl
  | succ m ih => show wordB (setW _ _ _) j = _; rw [wordB_setW_ne _ _ _ _ (by omega), ih (by omega)]
end Go.Proofs.YtibmlgkakeakcaaDoor
/- Pages: the walk of page.shift. -/
set_option linter.unusedSimpArgs false
set_option linter.unusedVariables false
namespace Go.Proofs.YtibmlgkakeakcaaDoor
open Go.RowKit Go.Proofs.YtibmlgkakeakcaaDoor.Crc
theorem shiftB_at (l : List UInt8) (i : Nat) (d : Int) (m j : Nat) (h : j < 8) : at8 (shiftB l i d m) j = at8 l j := by
  induction m with
  | zero => rfl
  | succ m ih =>
    show at8 (setW _ _ _) j = _
    unfold setW
    rw [at8_set_ne _ _ _ _ (by omega), at8_set_ne _ _ _ _ (by omega), ih]
theorem endB_nat (l : List UInt8) (k : Nat) : endB l (k : Int) = wordB l (8 + 2 * k) := by
  unfold endB; rw [if_neg (by omega)]; rfl
set_option maxRecDepth 100000 in
set_option maxHeartbeats 400000 in
theorem shift_calls (g : Nat) (l : List UInt8) (i N : Nat) (d : Int) (w : World) (hb : BlkB w g 5 l) (hl : l.length = 256) (hN : (at8 l 5).toNat = N) (hi : i ≤ N) (hfit : N ≤ 122)
    (he : ∀ k : Nat, i ≤ k → k < N → 0 ≤ (endB l (k : Int) : Int) + d ∧ (endB l (k : Int) : Int) + d < 65536) (h6 : 0 ≤ (wordB l 6 : Int) + d ∧ (wordB l 6 : Int) + d < 65536) :
    Calls Tryd.prog 93 #[.slice (some ⟨g, 0, none⟩) 256 256, .int .i64 (i : Int), .int .i64 d] w fun e w' => e = .returned (.tuple #[]) ∧ BlkB w' g 5 (setW (shiftB l i d (N - i)) 6 ((wordB l 6 : Int) + d).toNat) ∧ Kept (· = g) w w' := by
  have HI : Hid (BlkB w g 5 (shiftB l i d 0) ∧ Kept (· = g) w w) := ⟨hb, Kept.refl _ _⟩
  have HL := Lib.hid hl
  have HN := Lib.hid hN
  have HE := Lib.hid he
  have H6 := Lib.hid h6
  clear hb hl hN he h6
  go_enter Tryd.func93, Tryd.ntmps93
  go_wp2_with fail
  go_loopw [1] (fun v wr => ∃ k : Nat, i + k ≤ N ∧ v = .int .i64 ((i + k : Nat) : Int) ∧ Hid (BlkB wr g 5 (shiftB l i d k) ∧ Kept (· = g) w wr)) (fun v _ => N - (intOf v).toNat)
  case atStart => exact ⟨0, by omega, rfl, HI⟩
  case round =>
    obtain ⟨k, hk, rfl, HR⟩ := hrel
    have x5 := (HR.out.1.cell 5 (by rw [shiftB_len, HL.out]; decide)).1
    rw [shiftB_at _ _ _ _ _ (by decide), HN.out] at x5
    obtain ⟨j, hj⟩ : ∃ j, i + k = j := ⟨_, rfl⟩
    rw [hj] at hk ⊢
    have c1 : IntKind.i64.wrap (N : Int) = (N : Int) := IntWalk.i64_in _ (by omega)
    by_cases hlt : j < N
    · have hw : endB (shiftB l i d k) (j : Int) = endB l (j : Int) := by
        rw [endB_nat, endB_nat, shiftB_word _ _ _ _ _ (by omega)]
      have h1 := end_calls (some ⟨g, 0, none⟩) 256 256 (shiftB l i d k) (j : Int) wr (by rw [shiftB_len, HL.out]) HR.out.1.bytes (by omega) (by omega) (by decide)
      rw [hw] at h1
      have H1 := Lib.hid h1
      obtain ⟨E, hE⟩ : ∃ E : Nat, ((endB l (j : Int) : Int) + d) = (E : Int) := ⟨((endB l (j : Int) : Int) + d).toNat, by have := (HE.out j (by omega) hlt).1; omega⟩
      have hE2 : E < 65536 := by have := (HE.out j (by omega) hlt).2; omega
      have c2 : IntKind.i64.wrap ((endB l (j : Int) : Int) + d) = (E : Int) := by rw [hE]; exact IntWalk.i64_in _ (by omega)
      have HS := Lib.hid (fun m => setWord_calls g (shiftB l i d k) (8 + 2 * j) E (wr.drewN m) (HR.out.1.below (kept_drewN wr m)) (by rw [shiftB_len, HL.out]) (by omega) hE2)
      clear h1 hw
      go_wp2_with (first | (go_at_call 90; with_reducible refine H1.out.mono ?_; rintro e w2 ⟨rfl, m2, rfl⟩) | (go_at_call 91; refine (HS.out _).mono ?_; rintro e w3 ⟨rfl, hA, hk3⟩))
      refine ⟨⟨k + 1, by omega, by rw [show ((i + (k + 1) : Nat) : Int) = (j : Int) + 1 from by omega], ?_⟩, by simp [intOf]; omega⟩
      have e : shiftB l i d (k + 1) = setW (shiftB l i d k) (8 + 2 * j) E := by
        show setW _ _ _ = _
        rw [hj, hE]; rfl
      exact ⟨by rw [e]; exact hA, (HR.out.2.trans (Kept.of_below (kept_drewN wr m2))).trans hk3⟩
    · have hjN : j = N := by omega
      subst hjN
      have hkk : k = j - i := by omega
      subst hkk
      have hw : wordB (shiftB l i d (j - i)) 6 = wordB l 6 := shiftB_word _ _ _ _ _ (by omega)
      have h1 := word_calls (some ⟨g, 0, none⟩) 256 256 (shiftB l i d (j - i)) 6 wr (by rw [shiftB_len, HL.out]) HR.out.1.bytes (by decide) (by decide)
      rw [hw, show ((6 : Nat) : Int) = 6 from rfl] at h1
      have H1 := Lib.hid h1
      obtain ⟨E, hE⟩ : ∃ E : Nat, ((wordB l 6 : Int) + d) = (E : Int) := ⟨((wordB l 6 : Int) + d).toNat, by have := H6.out.1; omega⟩
      have hE2 : E < 65536 := by have := H6.out.2; omega
      have c2 : IntKind.i64.wrap ((wordB l 6 : Int) + d) = (E : Int) := by rw [hE]; exact IntWalk.i64_in _ (by omega)
      have hs := fun m => setWord_calls g (shiftB l i d (j - i)) 6 E (wr.drewN m) (HR.out.1.below (kept_drewN wr m)) (by rw [shiftB_len, HL.out]) (by omega) hE2
      rw [show ((6 : Nat) : Int) = 6 from rfl] at hs
      have HS := Lib.hid hs
      have HE3 := Lib.hid hE
      clear h1 hw hE hs
      go_wp2_with (first | (go_at_call 92; with_reducible refine H1.out.mono ?_; rintro e w2 ⟨rfl, m2, rfl⟩) | (go_at_call 91; refine (HS.out _).mono ?_; rintro e w3 ⟨rfl, hA, hk3⟩))
      go_end0
      refine ⟨rfl, ?_, (HR.out.2.trans (Kept.of_below (kept_drewN wr m2))).trans hk3⟩
      rw [HE3.out]; exact hA
end Go.Proofs.YtibmlgkakeakcaaDoor
/- Pages, plain: a page as its number, its kind and its cells. -/
set_option linter.unusedSimpArgs false
set_option linter.unusedVariables false
namespace Go.Proofs.YtibmlgkakeakcaaDoor
open Go.RowKit Go.Proofs.YtibmlgkakeakcaaDoor.Crc
def sizC (cs : List (List UInt8)) : Nat := (cs.map List.length).sum
theorem sizC_nil : sizC [] = 0 := rfl
theorem sizC_cons (c : List UInt8) (cs : List (List UInt8)) : sizC (c :: cs) = c.length + sizC cs := rfl
theorem sizC_append (a b : List (List UInt8)) : sizC (a ++ b) = sizC a + sizC b := by unfold sizC; rw [List.map_append, List.sum_append]
theorem sizC_flatten (cs : List (List UInt8)) : cs.flatten.length = sizC cs := by unfold sizC; rw [List.length_flatten]
def w2 (n : Nat) : List UInt8 := [UInt8.ofNat (n / 256), UInt8.ofNat n]
theorem w2_length (n : Nat) : (w2 n).length = 2 := rfl
def endsB (t : Nat) : List (List UInt8) → List UInt8
  | [] => []
  | c :: cs => w2 (t + c.length) ++ endsB (t + c.length) cs
theorem endsB_length (t : Nat) (cs : List (List UInt8)) : (endsB t cs).length = 2 * cs.length := by
  induction cs generalizing t with
  | nil => rfl
  | cons c cs ih => rw [endsB, List.length_append, ih, w2_length, List.length_cons]; omega
theorem endsB_append (t : Nat) (a b : List (List UInt8)) : endsB t (a ++ b) = endsB t a ++ endsB (t + sizC a) b := by
  induction a generalizing t with
  | nil => rfl
  | cons c a ih => rw [List.cons_append, endsB, endsB, ih, sizC_cons, List.append_assoc, Nat.add_assoc]
def headPg (no : Nat) (k : UInt8) (n s : Nat) : List UInt8 := fixB no 4 ++ (k :: UInt8.ofNat n :: w2 s)
theorem headPg_length (no : Nat) (k : UInt8) (n s : Nat) : (headPg no k n s).length = 8 := by
  unfold headPg; rw [List.length_append, fixB_length]; rfl
/-- The first 252 bytes of a page, and all of one without a sum. -/
def bodyB (no : Nat) (k : UInt8) (cs : List (List UInt8)) : List UInt8 :=
  headPg no k cs.length (sizC cs) ++ (endsB 0 cs ++ (cs.flatten ++ List.replicate (244 - (2 * cs.length + sizC cs)) 0))
def pageB (no : Nat) (k : UInt8) (cs : List (List UInt8)) : List UInt8 := bodyB no k cs ++ [0, 0, 0, 0]
def fitC (cs : List (List UInt8)) : Prop := 2 * cs.length + sizC cs ≤ 244
theorem bodyB_length (no : Nat) (k : UInt8) (cs : List (List UInt8)) (h : fitC cs) : (bodyB no k cs).length = 252 := by
  unfold fitC at h
  unfold bodyB
  simp only [List.length_append, headPg_length, endsB_length, sizC_flatten, List.length_replicate]
  omega
theorem pageB_length (no : Nat) (k : UInt8) (cs : List (List UInt8)) (h : fitC cs) : (pageB no k cs).length = 256 := by
  unfold pageB; rw [List.length_append, bodyB_length _ _ _ h]; rfl
/-- Bytes that are a page, whatever its last four. -/
def PgL (l : List UInt8) (no : Nat) (k : UInt8) (cs : List (List UInt8)) : Prop := fitC cs ∧ ∃ t : List UInt8, t.length = 4 ∧ l = bodyB no k cs ++ t
theorem PgL.len {l : List UInt8} {no : Nat} {k : UInt8} {cs : List (List UInt8)} (h : PgL l no k cs) : l.length = 256 := by
  obtain ⟨hf, t, ht, rfl⟩ := h
  rw [List.length_append, bodyB_length _ _ _ hf, ht]
theorem PgL.take {l : List UInt8} {no : Nat} {k : UInt8} {cs : List (List UInt8)} (h : PgL l no k cs) : l.take 252 = bodyB no k cs := by
  obtain ⟨hf, t, ht, rfl⟩ := h
  rw [List.take_left' (bodyB_length _ _ _ hf)]
theorem PgL.own {l : List UInt8} {no : Nat} {k : UInt8} {cs : List (List UInt8)} (h : PgL l no k cs) : ownP l = pageB no k cs := by
  unfold ownP pageB; rw [h.take]
theorem pgl_page (no : Nat) (k : UInt8) (cs : List (List UInt8)) (h : fitC cs) : PgL (pageB no k cs) no k cs := ⟨h, _, rfl, rfl⟩
theorem u8_ofNat (n : Nat) : (UInt8.ofNat n).toNat = n % 256 := by simp
theorem at8_append_left (a b : List UInt8) (i : Nat) (h : i < a.length) : at8 (a ++ b) i = at8 a i := by
  unfold at8; simp [List.getElem?_append_left h]
theorem at8_append_right (a b : List UInt8) (i : Nat) : at8 (a ++ b) (a.length + i) = at8 b i := by
  unfold at8; simp [List.getElem?_append_right]
theorem wordB_mid (a b : List UInt8) (n : Nat) (h : n < 65536) (i : Nat) (hi : i = a.length) : wordB (a ++ (w2 n ++ b)) i = n := by
  subst hi
  unfold wordB
  rw [show a.length = a.length + 0 from rfl, Nat.add_assoc, at8_append_right, at8_append_right]
  show (UInt8.ofNat (n / 256)).toNat * 256 + (UInt8.ofNat n).toNat = n
  rw [u8_ofNat, u8_ofNat]; omega
/-- What a page has, told by its bytes. -/
theorem PgL.count {l : List UInt8} {no : Nat} {k : UInt8} {cs : List (List UInt8)} (h : PgL l no k cs) : cntB l = cs.length := by
  obtain ⟨hf, t, ht, rfl⟩ := h
  unfold cntB bodyB headPg
  rw [List.append_assoc, List.append_assoc]
  have := at8_append_right (fixB no 4) ((k :: UInt8.ofNat cs.length :: w2 (sizC cs)) ++ ((endsB 0 cs ++ (cs.flatten ++ List.replicate (244 - (2 * cs.length + sizC cs)) 0)) ++ t)) 1
  rw [fixB_length] at this
  rw [this]
  show (UInt8.ofNat cs.length).toNat = _
  unfold fitC at hf
  rw [u8_ofNat]; omega
theorem PgL.kind {l : List UInt8} {no : Nat} {k : UInt8} {cs : List (List UInt8)} (h : PgL l no k cs) : at8 l 4 = k := by
  obtain ⟨hf, t, ht, rfl⟩ := h
  unfold bodyB headPg
  rw [List.append_assoc, List.append_assoc]
  have := at8_append_right (fixB no 4) ((k :: UInt8.ofNat cs.length :: w2 (sizC cs)) ++ ((endsB 0 cs ++ (cs.flatten ++ List.replicate (244 - (2 * cs.length + sizC cs)) 0)) ++ t)) 0
  rw [fixB_length] at this
  rw [this]; rfl
theorem PgL.size {l : List UInt8} {no : Nat} {k : UInt8} {cs : List (List UInt8)} (h : PgL l no k cs) : sizB l = sizC cs := by
  obtain ⟨hf, t, ht, rfl⟩ := h
  unfold sizB bodyB headPg
  rw [show (fixB no 4 ++ (k :: UInt8.ofNat cs.length :: w2 (sizC cs)) ++ (endsB 0 cs ++ (cs.flatten ++ List.replicate (244 - (2 * cs.length + sizC cs)) 0)) ++ t) = (fixB no 4 ++ [k, UInt8.ofNat cs.length]) ++ (w2 (sizC cs) ++ ((endsB 0 cs ++ (cs.flatten ++ List.replicate (244 - (2 * cs.length + sizC cs)) 0)) ++ t)) by simp]
  exact wordB_mid _ _ _ (by unfold fitC at hf; omega) _ (by rw [List.length_append, fixB_length]; rfl)
/-- Where a cell ends, in a list whose ends begin at 8. -/
theorem end_mid (H : List UInt8) (hH : H.length = 8) (t0 : Nat) (xs : List (List UInt8)) (c : List UInt8) (ys : List (List UInt8)) (R : List UInt8) (hs : t0 + sizC xs + c.length < 65536) :
    endB (H ++ (endsB t0 (xs ++ c :: ys) ++ R)) (xs.length : Int) = t0 + sizC xs + c.length := by
  rw [endB_nat, endsB_append, endsB]
  rw [show H ++ (endsB t0 xs ++ (w2 (t0 + sizC xs + c.length) ++ endsB (t0 + sizC xs + c.length) ys) ++ R) = (H ++ endsB t0 xs) ++ (w2 (t0 + sizC xs + c.length) ++ (endsB (t0 + sizC xs + c.length) ys ++ R)) by simp]
  exact wordB_mid _ _ _ hs _ (by rw [List.length_append, hH, endsB_length])
theorem PgL.endAt {l : List UInt8} {no : Nat} {k : UInt8} {cs : List (List UInt8)} (h : PgL l no k cs) (i : Nat) (hi : i ≤ cs.length) : endB l ((i : Int) - 1) = sizC (cs.take i) := by
  obtain ⟨hf, t, ht, rfl⟩ := h
  cases i with
  | zero => rfl
  | succ i =>
    have e : ((i + 1 : Nat) : Int) - 1 = (i : Int) := by omega
    rw [e]
    have hc : cs = cs.take i ++ cs[i] :: cs.drop (i + 1) := by rw [← List.drop_eq_getElem_cons (by omega), List.take_append_drop]
    have hlt : (cs.take i).length = i := by rw [List.length_take]; omega
    have hs : sizC (cs.take i) + cs[i].length ≤ sizC cs := by
      have := congrArg sizC hc
      rw [sizC_append, sizC_cons] at this
      omega
    unfold fitC at hf
    have := end_mid (headPg no k cs.length (sizC cs)) (headPg_length _ _ _ _) 0 (cs.take i) cs[i] (cs.drop (i + 1)) (cs.flatten ++ List.replicate (244 - (2 * cs.length + sizC cs)) 0 ++ t) (by omega)
    rw [← hc, hlt] at this
    have e2 : cs.take (i + 1) = cs.take i ++ [cs[i]] := by rw [List.take_succ_eq_append_getElem (by omega)]
    rw [e2, sizC_append]
    unfold bodyB
    simp only [List.append_assoc] at this ⊢
    rw [this, sizC_cons, sizC_nil]; omega
theorem sizC_take_le (cs : List (List UInt8)) (i j : Nat) (h : i ≤ j) : sizC (cs.take i) ≤ sizC (cs.take j) := by
  have : cs.take j = cs.take i ++ (cs.take j).drop i := by
    have := List.take_append_drop i (cs.take j)
    rw [List.take_take, Nat.min_eq_left h] at this
    exact this.symm
  rw [this, sizC_append]; omega
theorem PgL.sound {l : List UInt8} {no : Nat} {k : UInt8} {cs : List (List UInt8)} (h : PgL l no k cs) (hno : no ≤ 2147483647) (hk : k ≠ 0) : soundB l = true := by
  have hl := h.len
  have hc := h.count
  have hz := h.size
  have hki := h.kind
  have he := h.endAt
  have ht := h.take
  have h0 : (at8 l 0).toNat ≤ 127 := by
    obtain ⟨hf, t, _, rfl⟩ := h
    show (UInt8.ofNat (no / 256 ^ 3)).toNat ≤ 127
    rw [u8_ofNat]; omega
  have hf : 2 * cs.length + sizC cs ≤ 244 := h.1
  have e1 : endB l ((cntB l : Int) - 1) = sizB l := by rw [hc, hz, he _ (Nat.le_refl _), List.take_length]
  have e2 : riseB l (cntB l) = true := by
    unfold riseB
    rw [List.all_eq_true]
    intro i hi
    rw [List.mem_range, hc] at hi
    rw [decide_eq_true_eq]
    have h1 := he i (by omega)
    have h2 := he (i + 1) (by omega)
    rw [show ((i + 1 : Nat) : Int) - 1 = (i : Int) by omega] at h2
    rw [h1, h2]
    exact sizC_take_le _ _ _ (by omega)
  have e3 : zeroB ((l.take 252).drop (8 + 2 * cntB l + sizB l)) = true := by
    rw [ht, hc, hz]
    unfold bodyB
    rw [← List.append_assoc, ← List.append_assoc, List.drop_left' (by simp only [List.length_append, headPg_length, endsB_length, sizC_flatten])]
    exact zeroB_replicate _
  unfold soundB
  rw [e1, e2, e3]
  have hk' : decide (k ≠ 0) = true := by simpa using hk
  simp only [hl, h0, hki, hk', hc, hz, hf]
  rfl
/-- The bytes of a cell. -/
theorem PgL.cellAt {l : List UInt8} {no : Nat} {k : UInt8} {cs : List (List UInt8)} (h : PgL l no k cs) (i : Nat) (hi : i < cs.length) :
    (l.drop (8 + 2 * cs.length + sizC (cs.take i))).take (sizC (cs.take (i + 1)) - sizC (cs.take i)) = cs[i] := by
  obtain ⟨hf, t, ht, rfl⟩ := h
  have hc : cs = cs.take i ++ cs[i] :: cs.drop (i + 1) := by rw [← List.drop_eq_getElem_cons (by omega), List.take_append_drop]
  have e2 : cs.take (i + 1) = cs.take i ++ [cs[i]] := by rw [List.take_succ_eq_append_getElem (by omega)]
  have e3 : sizC (cs.take (i + 1)) - sizC (cs.take i) = cs[i].length := by rw [e2, sizC_append, sizC_cons, sizC_nil]; omega
  rw [e3]
  have e4 : cs.flatten = (cs.take i).flatten ++ (cs[i] ++ (cs.drop (i + 1)).flatten) := by
    conv => lhs; rw [hc]
    rw [List.flatten_append, List.flatten_cons]
  unfold bodyB
  rw [e4]
  rw [show headPg no k cs.length (sizC cs) ++ (endsB 0 cs ++ ((cs.take i).flatten ++ (cs[i] ++ (cs.drop (i + 1)).flatten) ++ List.replicate (244 - (2 * cs.length + sizC cs)) 0)) ++ t = (headPg no k cs.length (sizC cs) ++ endsB 0 cs ++ (cs.take i).flatten) ++ (cs[i] ++ ((cs.drop (i + 1)).flatten ++ List.replicate (244 - (2 * cs.length + sizC cs)) 0 ++ t)) by simp]
  rw [List.drop_left' (by simp only [List.length_append, headPg_length, endsB_length, sizC_flatten]), List.take_left' rfl]
end Go.Proofs.YtibmlgkakeakcaaDoor
/- The walk of page's Kind. -/
set_option linter.unusedSimpArgs false
set_option linter.unusedVariables false
namespace Go.Proofs.YtibmlgkakeakcaaDoor
open Go.RowKit Go.Proofs.YtibmlgkakeakcaaDoor.Crc
/-- The kind that Kind tells. -/
def kindP (l : List UInt8) : UInt8 := if soundB l then at8 l 4 else 0
theorem PgL.kindP {l : List UInt8} {no : Nat} {k : UInt8} {cs : List (List UInt8)} (h : PgL l no k cs) (hno : no ≤ 2147483647) (hk : k ≠ 0) : kindP l = k := by
  unfold Proofs.YtibmlgkakeakcaaDoor.kindP; rw [if_pos (h.sound hno hk), h.kind]
set_option maxHeartbeats 400000 in
theorem Kind_calls (A : Option Addr) (n c : Nat) (l : List UInt8) (w : World) (hn : n = l.length) (hb : Bytes w A l) (hc : n ≤ c) (hm : c ≤ 9223372036854775807) (hs : n ≤ 140737488355328) :
    Calls Tryd.prog 42 #[.slice A n c] w fun e w' => e = .returned (.int .u8 ((kindP l).toNat : Int)) ∧ ∃ m, w' = w.drewN m := by
  have HS := Lib.hid (sound_calls A n c l w hn hb hc hm hs)
  by_cases hS : soundB l = true
  · rw [hS] at HS
    have h256 := soundB_len l hS
    obtain ⟨b, o, rfl⟩ := hb.spot (by omega)
    have x4 : ∀ m, (w.drewN m).cell? ⟨b, o + 4, none⟩ = some (.int .u8 ((at8 l 4).toNat : Int)) := fun m => by
      obtain ⟨ad, h, hx⟩ := (hb.below (kept_drewN w m)) 4 (by omega)
      cases h
      rw [Addr.add_lit] at hx
      exact hx
    have e : kindP l = at8 l 4 := by unfold kindP; rw [if_pos hS]
    rw [e]
    have h4 : (4 : Int) < (n : Int) := by omega
    have HX := Lib.hid x4
    clear hb hn e hS h256 x4
    go_enter Tryd.func42, Tryd.ntmps42
    go_wp2_with (go_at_call 73; refine HS.out.mono ?_; rintro e w2 ⟨rfl, m2, rfl⟩; refine park ?_; intro q hq)
    have x4 := HX.out m2
    refine hq.out ?_
    clear hq
    go_wp2_with fail
    go_ret
    exact ⟨rfl, m2, rfl⟩
  · have hS' : soundB l = false := by simpa using hS
    rw [hS'] at HS
    have e : kindP l = 0 := by unfold kindP; rw [if_neg hS]
    rw [e]
    clear hb hn e hS hS'
    go_enter Tryd.func42, Tryd.ntmps42
    go_wp2_with (go_at_call 73; refine HS.out.mono ?_; rintro e w2 ⟨rfl, m2, rfl⟩)
    go_ret
    exact ⟨rfl, _, rfl⟩
end Go.Proofs.YtibmlgkakeakcaaDoor
