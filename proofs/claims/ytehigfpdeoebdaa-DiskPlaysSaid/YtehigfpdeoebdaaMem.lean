/- Small words of our own: numbers of fixed width as the model spells them; bytes in memory; append and make of bytes as the walk takes them. -/
import Derived.Test.YtehigfpdeoebdaaProg
import Derived.WalkKit
import Derived.WalkSpells
import Derived.WalkLawsBesides
import Derived.KernelRfl
import Derived.Lib.Hide
import Derived.Deep.LoopGhost
import Derived.Deep.DeepCutAuto
import Derived.Laws.CopyOwn
import Derived.Deep.AppendSrc
import Derived.Lib.ConvBytes
namespace Go.Proofs.Ytehigfpdeoebdaa
open Go.RowKit

theorem ret_int {k : IntKind} {a b : Int} (h : a = b) : Ending.returned (.int k a) = .returned (.int k b) := by rw [h]
theorem ret_bool {a b : Bool} (h : a = b) : Ending.returned (.bool a) = .returned (.bool b) := by rw [h]

/-- A number of 32 bits as the model holds it; a plain definition: the walk's simp does not look behind it. -/
def n32 (a : BitVec 32) : Int := (a.toNat : Int)
theorem n32_inj {a b : BitVec 32} (h : n32 a = n32 b) : a = b := by
  apply BitVec.eq_of_toNat_eq; unfold n32 at h; omega
theorem n32_lo (a : BitVec 32) : 0 ≤ n32 a := by unfold n32; omega
theorem n32_hi (a : BitVec 32) : n32 a ≤ 4294967295 := by unfold n32; have := a.isLt; omega
theorem n32_of (n : Int) (h0 : 0 ≤ n) (h1 : n ≤ 4294967295) : ∃ a, n32 a = n := ⟨BitVec.ofNat 32 n.toNat, by unfold n32; simp; omega⟩
theorem n32_lit (n : Nat) (h : n < 4294967296) : n32 (BitVec.ofNat 32 n) = n := by unfold n32; simp; omega
theorem xor32 (a b : BitVec 32) : bits .xor .u32 (n32 a) (n32 b) = n32 (a ^^^ b) := by
  unfold n32; rw [u32_xor_nat _ _ a.isLt b.isLt, BitVec.toNat_xor]
theorem and32 (a b : BitVec 32) : bits .and .u32 (n32 a) (n32 b) = n32 (a &&& b) := by
  unfold n32; rw [u32_and_nat _ _ a.isLt b.isLt, BitVec.toNat_and]
theorem xor32_u8 (a : BitVec 32) (c : UInt8) : bits .xor .u32 (n32 a) (c.toNat : Int) = n32 (a ^^^ (c.toBitVec.setWidth 32)) := by
  have e : (c.toNat : Int) = n32 (c.toBitVec.setWidth 32) := by
    unfold n32
    have e : (c.toBitVec.setWidth 32).toNat = c.toNat := by simp
    rw [e]
  rw [e, xor32]
theorem signed_u8 : IntKind.u8.signed = false := rfl
theorem signed_u32 : IntKind.u32.signed = false := rfl
theorem signed_u64 : IntKind.u64.signed = false := rfl
theorem signed_i64 : IntKind.i64.signed = true := rfl
theorem not32 (a : BitVec 32) : bits .xor .u32 IntKind.u32.max (n32 a) = n32 (~~~ a) := by
  rw [show IntKind.u32.max = n32 (BitVec.allOnes 32) by decide, xor32, BitVec.allOnes_xor]
theorem and32_15 (a : BitVec 32) : bits .and .u32 (n32 a) 15 = n32 (a &&& 15#32) := and32 a 15#32
theorem and32_1 (a : BitVec 32) : bits .and .u32 (n32 a) 1 = n32 (a &&& 1#32) := and32 a 1#32
theorem shr32 (a : BitVec 32) (n : Nat) : n32 a / (2 ^ n : Nat) = n32 (a >>> n) := by
  unfold n32
  rw [BitVec.toNat_ushiftRight, Nat.shiftRight_eq_div_pow]; rfl
theorem shr32_var (a : BitVec 32) (n : Nat) : n32 a / (2 : Int) ^ n = n32 (a >>> n) := by
  rw [← shr32 a n]; congr 1
theorem bit32 (a : BitVec 32) (j : Nat) : (bits .and .u32 (n32 a / (2 : Int) ^ j) (1 : Int) == (1 : Int)) = a.getLsbD j := by
  rw [shr32_var, show (1 : Int) = n32 1#32 from rfl, and32]
  have h : a.getLsbD j = decide (a.toNat / 2 ^ j % 2 = 1) := by rw [BitVec.getLsbD, Nat.testBit_eq_decide_div_mod_eq]
  rw [h, Bool.eq_iff_iff, beq_iff_eq, decide_eq_true_iff]
  unfold n32
  rw [BitVec.toNat_and, BitVec.toNat_ushiftRight, Nat.shiftRight_eq_div_pow]
  have : a.toNat / 2 ^ j &&& (1#32).toNat = a.toNat / 2 ^ j % 2 := Nat.and_two_pow_sub_one_eq_mod _ 1
  rw [this]
  generalize a.toNat / 2 ^ j % 2 = m
  rw [show (1#32).toNat = 1 from rfl]
  omega
theorem shr32_4 (a : BitVec 32) : n32 a / (16 : Int) = n32 (a >>> 4) := by
  have := shr32 a 4
  simpa using this
theorem shr32_1 (a : BitVec 32) : n32 a / (2 : Int) = n32 (a >>> 1) := by
  have := shr32 a 1
  simpa using this
theorem shr32_8 (a : BitVec 32) : n32 a / (256 : Int) = n32 (a >>> 8) := by
  have := shr32 a 8
  simpa using this
theorem shr32_16 (a : BitVec 32) : n32 a / (65536 : Int) = n32 (a >>> 16) := by
  have := shr32 a 16
  simpa using this
theorem shr32_24 (a : BitVec 32) : n32 a / (16777216 : Int) = n32 (a >>> 24) := by
  have := shr32 a 24
  simpa using this
theorem shr32_31 (a : BitVec 32) : n32 a / (2147483648 : Int) = n32 (a >>> 31) := by
  have := shr32 a 31
  simpa using this
theorem shl32_1 (a : BitVec 32) : (n32 a * (2 : Int)) % (4294967296 : Int) = n32 (a <<< 1) := by
  unfold n32
  rw [BitVec.toNat_shiftLeft, Nat.shiftLeft_eq]
  omega
/-- The lowest byte. -/
def byteOf (x : BitVec 32) : UInt8 := ⟨x.setWidth 8⟩
theorem byteOf_mod (x : BitVec 32) : n32 x % (256 : Int) = ((byteOf x).toNat : Int) := by
  unfold n32 byteOf
  show (x.toNat : Int) % 256 = ((x.setWidth 8).toNat : Int)
  rw [BitVec.toNat_setWidth]
  omega
theorem byteOf_tmod (x : BitVec 32) : (n32 x).tmod (256 : Int) % (256 : Int) = ((byteOf x).toNat : Int) := by
  rw [Int.tmod_eq_emod_of_nonneg (n32_lo x), ← byteOf_mod]
  omega
theorem ltu8 (a : UInt8) : (0 : Int) ≤ (a.toNat : Int) ∧ (a.toNat : Int) ≤ 255 := by have := a.toNat_lt; omega


/-- A byte of a list; a plain definition: the walk's simp does not look behind it. -/
def at8 (l : List UInt8) (i : Nat) : UInt8 := l.getD i 0
theorem at8_eq (l : List UInt8) (i : Nat) (h : i < l.length) : at8 l i = l[i] := by
  unfold at8; rw [List.getD_eq_getElem?_getD, List.getElem?_eq_getElem h]; rfl
theorem take_snoc8 (l : List UInt8) (k : Nat) (h : k < l.length) : l.take (k + 1) = l.take k ++ [at8 l k] := by
  rw [List.take_succ_eq_append_getElem h, at8_eq _ _ h]


/-! ### Stops: the walk is left at an operation of a given kind, and taken up again by 'refine hq.out ?_; clear hq'. -/
theorem park {p : Prop} (h : ∀ q : Prop, Hid (p → q) → q) : p := h p (fun x => x)
section
variable {P : Program} {ops : Array Oper} {Q : Exit → Act → World → Prop} {rest : List Oper} {a : Act} {w : World} {d : Option Tmp} {ty : TypeId} {pos : String} {after : Array Edge} {gd : Option (Nat × Bool)}
theorem park_append {xs : Array Operand} {ts : Array TypeId} (hq : ∀ q : Prop, Hid (wpList P ops Q ({ dst := d, op := .call { callee := .builtin .append, args := xs, argTypes := ts }, type := ty, pos := pos, after := after, guard := gd } :: rest) a w → q) → q) : wpList P ops Q ({ dst := d, op := .call { callee := .builtin .append, args := xs, argTypes := ts }, type := ty, pos := pos, after := after, guard := gd } :: rest) a w := park hq
theorem park_copy {xs : Array Operand} {ts : Array TypeId} (hq : ∀ q : Prop, Hid (wpList P ops Q ({ dst := d, op := .call { callee := .builtin .copy, args := xs, argTypes := ts }, type := ty, pos := pos, after := after, guard := gd } :: rest) a w → q) → q) : wpList P ops Q ({ dst := d, op := .call { callee := .builtin .copy, args := xs, argTypes := ts }, type := ty, pos := pos, after := after, guard := gd } :: rest) a w := park hq
theorem park_delete {xs : Array Operand} {ts : Array TypeId} (hq : ∀ q : Prop, Hid (wpList P ops Q ({ dst := d, op := .call { callee := .builtin .delete, args := xs, argTypes := ts }, type := ty, pos := pos, after := after, guard := gd } :: rest) a w → q) → q) : wpList P ops Q ({ dst := d, op := .call { callee := .builtin .delete, args := xs, argTypes := ts }, type := ty, pos := pos, after := after, guard := gd } :: rest) a w := park hq
theorem park_make {t : TypeId} {l c : Operand} (hq : ∀ q : Prop, Hid (wpList P ops Q ({ dst := d, op := .makeSlice t l c, type := ty, pos := pos, after := after, guard := gd } :: rest) a w → q) → q) : wpList P ops Q ({ dst := d, op := .makeSlice t l c, type := ty, pos := pos, after := after, guard := gd } :: rest) a w := park hq
theorem park_makeMap {t : TypeId} {r : Option Operand} (hq : ∀ q : Prop, Hid (wpList P ops Q ({ dst := d, op := .makeMap t r, type := ty, pos := pos, after := after, guard := gd } :: rest) a w → q) → q) : wpList P ops Q ({ dst := d, op := .makeMap t r, type := ty, pos := pos, after := after, guard := gd } :: rest) a w := park hq
theorem park_convert {s t : TypeId} {x : Operand} (hq : ∀ q : Prop, Hid (wpList P ops Q ({ dst := d, op := .convert s t x, type := ty, pos := pos, after := after, guard := gd } :: rest) a w → q) → q) : wpList P ops Q ({ dst := d, op := .convert s t x, type := ty, pos := pos, after := after, guard := gd } :: rest) a w := park hq
theorem park_lookup {t : TypeId} {x i : Operand} {ok : Bool} (hq : ∀ q : Prop, Hid (wpList P ops Q ({ dst := d, op := .lookup t x i ok, type := ty, pos := pos, after := after, guard := gd } :: rest) a w → q) → q) : wpList P ops Q ({ dst := d, op := .lookup t x i ok, type := ty, pos := pos, after := after, guard := gd } :: rest) a w := park hq
theorem park_mapUpdate {t : TypeId} {m k v : Operand} (hq : ∀ q : Prop, Hid (wpList P ops Q ({ dst := d, op := .mapUpdate t m k v, type := ty, pos := pos, after := after, guard := gd } :: rest) a w → q) → q) : wpList P ops Q ({ dst := d, op := .mapUpdate t m k v, type := ty, pos := pos, after := after, guard := gd } :: rest) a w := park hq
theorem park_slice {t : TypeId} {x : Operand} {l h m : Option Operand} (hq : ∀ q : Prop, Hid (wpList P ops Q ({ dst := d, op := .slice t x l h m, type := ty, pos := pos, after := after, guard := gd } :: rest) a w → q) → q) : wpList P ops Q ({ dst := d, op := .slice t x l h m, type := ty, pos := pos, after := after, guard := gd } :: rest) a w := park hq
theorem park_load {t : TypeId} {x : Operand} (hq : ∀ q : Prop, Hid (wpList P ops Q ({ dst := d, op := .load t x, type := ty, pos := pos, after := after, guard := gd } :: rest) a w → q) → q) : wpList P ops Q ({ dst := d, op := .load t x, type := ty, pos := pos, after := after, guard := gd } :: rest) a w := park hq
theorem park_store {t : TypeId} {x v : Operand} (hq : ∀ q : Prop, Hid (wpList P ops Q ({ dst := d, op := .store t x v, type := ty, pos := pos, after := after, guard := gd } :: rest) a w → q) → q) : wpList P ops Q ({ dst := d, op := .store t x v, type := ty, pos := pos, after := after, guard := gd } :: rest) a w := park hq
theorem park_binOp {op : BinOp} {t s : TypeId} {x y : Operand} (hq : ∀ q : Prop, Hid (wpList P ops Q ({ dst := d, op := .binOp op t x y s, type := ty, pos := pos, after := after, guard := gd } :: rest) a w → q) → q) : wpList P ops Q ({ dst := d, op := .binOp op t x y s, type := ty, pos := pos, after := after, guard := gd } :: rest) a w := park hq
theorem park_range {t : TypeId} {x : Operand} (hq : ∀ q : Prop, Hid (wpList P ops Q ({ dst := d, op := .range t x, type := ty, pos := pos, after := after, guard := gd } :: rest) a w → q) → q) : wpList P ops Q ({ dst := d, op := .range t x, type := ty, pos := pos, after := after, guard := gd } :: rest) a w := park hq
theorem park_next {x : Operand} {s : Bool} (hq : ∀ q : Prop, Hid (wpList P ops Q ({ dst := d, op := .next x s, type := ty, pos := pos, after := after, guard := gd } :: rest) a w → q) → q) : wpList P ops Q ({ dst := d, op := .next x s, type := ty, pos := pos, after := after, guard := gd } :: rest) a w := park hq
theorem park_buildSlice {t : TypeId} {n : Nat} {ps : Array (Nat × Operand)} (hq : ∀ q : Prop, Hid (wpList P ops Q ({ dst := d, op := .buildSlice t n ps, type := ty, pos := pos, after := after, guard := gd } :: rest) a w → q) → q) : wpList P ops Q ({ dst := d, op := .buildSlice t n ps, type := ty, pos := pos, after := after, guard := gd } :: rest) a w := park hq
theorem park_build {t : TypeId} {ps : Array (Nat × Operand)} (hq : ∀ q : Prop, Hid (wpList P ops Q ({ dst := d, op := .build t ps, type := ty, pos := pos, after := after, guard := gd } :: rest) a w → q) → q) : wpList P ops Q ({ dst := d, op := .build t ps, type := ty, pos := pos, after := after, guard := gd } :: rest) a w := park hq
theorem park_indexAddr {t : TypeId} {x i : Operand} (hq : ∀ q : Prop, Hid (wpList P ops Q ({ dst := d, op := .indexAddr t x i, type := ty, pos := pos, after := after, guard := gd } :: rest) a w → q) → q) : wpList P ops Q ({ dst := d, op := .indexAddr t x i, type := ty, pos := pos, after := after, guard := gd } :: rest) a w := park hq
end

/-- Bytes that lie in memory, from an address on: what a slice of them reads. -/
def Bytes (w : World) (A : Option Addr) (l : List UInt8) : Prop := ∀ i : Nat, i < l.length → ∃ ad, A = some ad ∧ w.cell? (ad.add i) = some (.int .u8 ((at8 l i).toNat : Int))

theorem u8_add1 (a : UInt8) : ((a.toNat : Int) + (1 : Int)) % (256 : Int) = ((a + 1).toNat : Int) := by
  rw [UInt8.toNat_add]; simp
theorem u8_mod (a : UInt8) : (a.toNat : Int) % (256 : Int) = (a.toNat : Int) := by have := a.toNat_lt; omega
theorem Bytes.nil (w : World) (A : Option Addr) : Bytes w A [] := fun i h => absurd h (by simp)
theorem at8_take (l : List UInt8) (n i : Nat) (h : i < n) : at8 (l.take n) i = at8 l i := by
  unfold at8; rw [List.getD_eq_getElem?_getD, List.getElem?_take, if_pos h, ← List.getD_eq_getElem?_getD]
theorem at8_drop (l : List UInt8) (n i : Nat) : at8 (l.drop n) i = at8 l (n + i) := by
  unfold at8; rw [List.getD_eq_getElem?_getD, List.getElem?_drop, ← List.getD_eq_getElem?_getD]
theorem Bytes.take {w : World} {A : Option Addr} {l : List UInt8} (h : Bytes w A l) (n : Nat) : Bytes w A (l.take n) := by
  intro i hi
  have hn : i < n := by rw [List.length_take] at hi; omega
  have hl : i < l.length := by rw [List.length_take] at hi; omega
  rw [at8_take l n i hn]
  exact h i hl
/-- An address moved on. -/
def moved (A : Option Addr) (n : Nat) : Option Addr := A.map fun ad => ad.add n
theorem add_add (ad : Addr) (n i : Nat) (h : ad.spot = none) : (ad.add n).add i = ad.add (n + i) := by
  obtain ⟨b, o, s⟩ := ad
  simp only at h
  subst h
  simp [Addr.add_lit, Nat.add_assoc]
theorem Bytes.spot {w : World} {A : Option Addr} {l : List UInt8} (h : Bytes w A l) (hl : 0 < l.length) : ∃ b o, A = some ⟨b, o, none⟩ := by
  obtain ⟨ad, hA, hx⟩ := h 0 hl
  obtain ⟨b, o, s⟩ := ad
  refine ⟨b, o, ?_⟩
  rw [hA]
  cases s with
  | none => rfl
  | some s => simp [World.cell?, Addr.add] at hx; split at hx <;> simp at hx
theorem Bytes.drop {w : World} {b o : Nat} {l : List UInt8} (h : Bytes w (some ⟨b, o, none⟩) l) (n : Nat) : Bytes w (some ⟨b, o + n, none⟩) (l.drop n) := by
  intro i hi
  rw [List.length_drop] at hi
  obtain ⟨ad, hA, hx⟩ := h (n + i) (by omega)
  cases hA
  refine ⟨_, rfl, ?_⟩
  rw [at8_drop, ← hx, Addr.add_lit, Addr.add_lit, Nat.add_assoc]
theorem Bytes.dropMap {w : World} {A : Option Addr} {l : List UInt8} (h : Bytes w A l) (n : Nat) : Bytes w (Option.map (fun x => x.add n) A) (l.drop n) := by
  intro i hi
  rw [List.length_drop] at hi
  obtain ⟨b, o, rfl⟩ := h.spot (by omega)
  have e : Option.map (fun x => Addr.add x n) (some (⟨b, o, none⟩ : Addr)) = some ⟨b, o + n, none⟩ := by rw [Option.map_some, Addr.add_lit]
  rw [e]
  exact (h.drop n) i (by rw [List.length_drop]; exact hi)
theorem Bytes.none {w : World} {l : List UInt8} (h : Bytes w none l) : l = [] := by
  cases l with
  | nil => rfl
  | cons x r => obtain ⟨ad, hA, _⟩ := h 0 (by simp); cases hA
theorem Bytes.of_cells {w w' : World} {A : Option Addr} {l : List UInt8} (h : Bytes w A l) (hc : ∀ ad, A = some ad → ∀ i, i < l.length → w'.cell? (ad.add i) = w.cell? (ad.add i)) : Bytes w' A l := by
  intro i hi
  obtain ⟨ad, hA, hx⟩ := h i hi
  exact ⟨ad, hA, (hc ad hA i hi).trans hx⟩
theorem add_block (ad : Addr) (i : Nat) : (ad.add i).block = ad.block := by
  unfold Addr.add; split <;> rfl
theorem Bytes.below {w w' : World} {A : Option Addr} {l : List UInt8} (h : Bytes w A l) (hb : Below w.heap.size w w') : Bytes w' A l := by
  intro i hi
  obtain ⟨ad, hA, hx⟩ := h i hi
  exact ⟨ad, hA, (hb.cell (World.block_lt_of_cell? w _ hx)).trans hx⟩
theorem Bytes.drew {w : World} {A : Option Addr} {l : List UInt8} (h : Bytes w A l) : Bytes w.drew A l := h
theorem Bytes.alloc {w : World} {A : Option Addr} {l : List UInt8} (h : Bytes w A l) (o : Obj) : Bytes (w.alloc o) A l := h.below ((Below.refl _ _).alloc (Nat.le_refl _) _)

/-- Bytes as the model's cells. -/
def cells8 (l : List UInt8) : List Value := l.map fun c => .int .u8 (c.toNat : Int)
theorem cells8_length (l : List UInt8) : (cells8 l).length = l.length := by simp [cells8]
theorem cells8_append (l m : List UInt8) : cells8 (l ++ m) = cells8 l ++ cells8 m := by simp [cells8]
theorem cells8_get (l : List UInt8) (i : Nat) (h : i < l.length) : (cells8 l)[i]? = some (.int .u8 ((at8 l i).toNat : Int)) := by
  simp [cells8, at8_eq _ _ h, List.getElem?_eq_getElem h]
theorem cells8_one (l : List UInt8) : ∀ u ∈ cells8 l, u.oneCell' = true := by
  intro u hu
  simp only [cells8, List.mem_map] at hu
  obtain ⟨c, _, rfl⟩ := hu
  rfl
theorem cells8_set (l : List UInt8) (i : Nat) (c : UInt8) : (cells8 l).set i (.int .u8 (c.toNat : Int)) = cells8 (l.set i c) := by
  simp [cells8, List.map_set]
theorem cells8_take (l : List UInt8) (n : Nat) : (cells8 l).take n = cells8 (l.take n) := by simp [cells8, List.map_take]
theorem cells8_drop (l : List UInt8) (n : Nat) : (cells8 l).drop n = cells8 (l.drop n) := by simp [cells8, List.map_drop]

/-- A string of bytes; a plain definition. -/
def bstr (l : List UInt8) : ByteArray := ⟨l.toArray⟩
theorem bstr_inj {l m : List UInt8} (h : bstr l = bstr m) : l = m := by
  unfold bstr at h
  simpa using h
theorem bstr_toList (l : List UInt8) : (bstr l).toList = l := by unfold bstr; rw [ByteArray.toList_mk]
theorem bstr_size (l : List UInt8) : (bstr l).size = l.length := by simp [bstr, ByteArray.size]

/-- 'string(b)'. -/
theorem run_str {w : World} {A : Option Addr} {m c : Nat} {l : List UInt8} (hm : m = l.length) (hb : Bytes w A l) :
    (convert 36 9 (.slice A m c)).run Try.prog w = .ok (.string (bstr l)) w := by
  subst hm
  cases l with
  | nil =>
    cases A with
    | none => exact run_convert_bytes_nil w _ _ Try.underlying36 Try.underlying5 0 c _ Try.underlying9
    | some ad =>
      simp only [List.length_nil]
      rw [run_convert_bytes_string w _ _ _ _ _ c Try.underlying36 Try.underlying5 Try.underlying9, run_bytesToString w ad 0 c [] (by simp [loadCells, loadCellsFrom])]
      rfl
  | cons x r =>
    obtain ⟨b, o, rfl⟩ := hb.spot (by simp)
    have h := run_convert_bytes_arg (P := Try.prog) w 36 5 Try.underlying36 Try.underlying5 b o (x :: r).length c ((x :: r).map fun u => (u.toNat : Int)) (by simp) (fun i hi => by
      obtain ⟨ad, hA, hc⟩ := hb i hi
      cases hA
      rw [Addr.add_lit] at hc
      rw [hc, at8_eq _ _ hi, List.getD_eq_getElem?_getD, List.getElem?_map, List.getElem?_eq_getElem hi]
      rfl) _ Try.underlying9
    have key : strOfNums ((x :: r).map fun u => (u.toNat : Int)) = bstr (x :: r) := by
      have e : ∀ l : List UInt8, (l.map fun u => (u.toNat : Int)).map (fun n => UInt8.ofNat n.toNat) = l := by
        intro l
        induction l with
        | nil => rfl
        | cons y l ih => rw [List.map_cons, List.map_cons, ih]; simp
      exact congrArg (fun y : List UInt8 => (⟨y.toArray⟩ : ByteArray)) (e (x :: r))
    rw [key] at h
    exact h

/-- A slice value that owns bytes in a block of its own, from block number base on. -/
def OwnB (w : World) (base : Nat) (v : Value) (l : List UInt8) : Prop := w.ownsRow base 5 1 v l.length (cells8 l)

theorem OwnB.form {w : World} {base : Nat} {v : Value} {l : List UInt8} (h : OwnB w base v l) :
    (v = .slice none 0 0 ∧ l = []) ∨ ∃ g c, v = .slice (some ⟨g, 0, none⟩) l.length c ∧ base ≤ g ∧ g < w.heap.size ∧ l.length ≤ c := by
  rcases h.2 with ⟨h1, h2⟩ | ⟨g, cap, cur, h1, h2, h3, h4, _⟩
  · exact .inl ⟨h1, List.eq_nil_of_length_eq_zero h2⟩
  · refine .inr ⟨g, cap, h1, h2, ?_, h4⟩
    exact (Array.getElem?_eq_some_iff.1 h3).1
theorem OwnB.cells {w : World} {base g n c : Nat} {l : List UInt8} (h : OwnB w base (.slice (some ⟨g, 0, none⟩) n c) l) (i : Nat) (hi : i < l.length) :
    w.cell? ⟨g, i, none⟩ = some (.int .u8 ((at8 l i).toNat : Int)) ∧ w.frozen? ⟨g, i, none⟩ = false := by
  have hn : n = l.length := by
    rcases h.form with ⟨h1, _⟩ | ⟨g', c', h1, _⟩
    · simp at h1
    · simp at h1; exact h1.2.1
  subst hn
  refine ⟨?_, World.ownsRow.frozenAt h i⟩
  rw [World.ownsRow.cellAt h i (by omega), cells8_get l i hi]
theorem OwnB.bytes {w : World} {base n c : Nat} {A : Option Addr} {l : List UInt8} (h : OwnB w base (.slice A n c) l) : Bytes w A l := by
  intro i hi
  rcases h.form with ⟨_, h2⟩ | ⟨g, c', h1, _⟩
  · subst h2; simp at hi
  · obtain ⟨rfl, rfl, rfl⟩ : A = some ⟨g, 0, none⟩ ∧ n = l.length ∧ c = c' := by simpa using h1
    refine ⟨_, rfl, ?_⟩
    rw [Addr.add_lit, Nat.zero_add]
    exact (h.cells i hi).1
theorem OwnB.len {w : World} {base n c : Nat} {A : Option Addr} {l : List UInt8} (h : OwnB w base (.slice A n c) l) : n = l.length := by
  rcases h.form with ⟨h1, h2⟩ | ⟨g, c', h1, _⟩
  · subst h2; simp at h1; exact h1.2.1
  · simp at h1; exact h1.2.1
theorem OwnB.nilcap {w : World} {base n c : Nat} {l : List UInt8} (h : OwnB w base (.slice none n c) l) : n = 0 ∧ c = 0 ∧ l = [] := by
  rcases h.form with ⟨h1, h2⟩ | ⟨g, c', h1, _⟩
  · simp at h1; exact ⟨h1.1, h1.2, h2⟩
  · simp at h1
theorem OwnB.lt {w : World} {base : Nat} {v : Value} {l : List UInt8} (h : OwnB w base v l) : ∀ k, v.ownBlock = some k → base ≤ k ∧ k < w.heap.size := World.ownsRow.lt h
theorem OwnB.below {w w' : World} {base : Nat} {v : Value} {l : List UInt8} (h : OwnB w base v l) (hb : Below w.heap.size w w') : OwnB w' base v l := by
  refine ⟨h.1, ?_⟩
  rcases h.2 with h2 | ⟨g, cap, cur, h1, h2, h3, r⟩
  · exact .inl h2
  · exact .inr ⟨g, cap, cur, h1, h2, by rw [hb.block g ((Array.getElem?_eq_some_iff.1 h3).1)]; exact h3, r⟩
theorem OwnB.base {w : World} {base base' : Nat} {v : Value} {l : List UInt8} (h : OwnB w base v l) (hb : base' ≤ base) : OwnB w base' v l := by
  refine ⟨h.1, ?_⟩
  rcases h.2 with h2 | ⟨g, cap, cur, h1, h2, r⟩
  · exact .inl h2
  · exact .inr ⟨g, cap, cur, h1, by omega, r⟩
theorem OwnB.drew {w : World} {base : Nat} {v : Value} {l : List UInt8} (h : OwnB w base v l) : OwnB w.drew base v l := h
theorem OwnB.alloc {w : World} {base : Nat} {v : Value} {l : List UInt8} (h : OwnB w base v l) (o : Obj) : OwnB (w.alloc o) base v l := h.below ((Below.refl _ _).alloc (Nat.le_refl _) _)
theorem OwnB.grown {w w' : World} {base : Nat} {v : Value} {l : List UInt8} {row : Option Nat} (h : OwnB w base v l) (hg : w.grownBy w' row) (hne : v.ownBlock = none ∨ v.ownBlock ≠ row) : OwnB w' base v l :=
  World.ownsRow.kept h hg hne
theorem OwnB.set {w : World} {base g n c : Nat} {l : List UInt8} (h : OwnB w base (.slice (some ⟨g, 0, none⟩) n c) l) (i : Nat) (x : UInt8) :
    OwnB (w.setCell ⟨g, i, none⟩ (.int .u8 (x.toNat : Int))) base (.slice (some ⟨g, 0, none⟩) n c) (l.set i x) := by
  have hn := h.len
  subst hn
  have := (World.ownsRow.stored h i (.int .u8 (x.toNat : Int))).1
  unfold OwnB
  rw [List.length_set, ← cells8_set]
  exact this

theorem OwnB.lit (w : World) (base : Nat) (hb : base ≤ w.heap.size) (cs : List Value) (l : List UInt8) (h : cs = cells8 l) (n : Nat) (hn : n = l.length) (hm : n ≤ maxLen) :
    OwnB (w.alloc (.cells cs.toArray 5)) base (.slice (some ⟨w.heap.size, 0, none⟩) n n) l := by
  subst hn
  subst h
  have := World.ownsRow_lit (base := base) (e := 5) (size := 1) w (cells8 l).toArray l.length hb hm (by simp [cells8_length])
  simpa [OwnB] using this

theorem info8 : (Try.prog.info? 5).map (fun i => (i.zero, i.size, i.bytes)) = some (some (.int .u8 0), 1, 1) := by kernel_rfl

/-- append of any bytes onto bytes of one's own. -/
theorem wpList_append_bytes {w : World} {ops : Array Oper} {rest : List Oper} {o : Oper} {a : Act} {Q : Exit → Act → World → Prop} (hgd : o.guard = none) (s x : Operand)
    (ho : o.op = .call { callee := .builtin .append, args := #[s, x], argTypes := #[36, 36] })
    (base : Nat) (v : Value) (l : List UInt8) (hs : a.eval s = v) (hown : OwnB w base v l)
    (A : Option Addr) (m c : Nat) (l' : List UInt8) (hx : a.eval x = .slice A m c) (hm : m = l'.length) (hnil : A = none → c = 0) (hb : Bytes w A l')
    (hbytes : l.length + l'.length ≤ 140737488355328) (hbase : base ≤ w.heap.size)
    (h : ∀ v' w', OwnB w' base v' (l ++ l') → w.grownBy w' v.ownBlock → (v' = .slice none 0 0 ↔ v = .slice none 0 0 ∧ m = 0) → wpList Try.prog ops Q rest (a.put o.dst v') w') : wpList Try.prog ops Q (o :: rest) a w := by
  obtain ⟨i, hi, hz0, hz1, hz2⟩ := info_parts info8
  subst hm
  cases A with
  | some ad =>
    refine wpList_append_own w hgd s x _ ho base 5 i (.int .u8 0) 1 1 Try.underlying36 hi hz0 hz1 hz2 rfl (by decide) v l.length (cells8 l) hs hown ad l'.length c (cells8 l') hx (by rw [cells8_length, Nat.mul_one]) ?_ (cells8_one l') (by unfold maxLen; omega) (by omega) hbase ?_
    · intro j u hj
      have hlt : j < l'.length := by have := (List.getElem?_eq_some_iff.1 hj).1; rwa [cells8_length] at this
      obtain ⟨ad', hA, hc⟩ := hb j hlt
      cases hA
      rw [cells8_get l' j hlt] at hj
      rw [hc, hj]
    · intro v' w' hown' hg hnn
      refine h v' w' ?_ hg hnn
      unfold OwnB
      rw [List.length_append, cells8_append]
      exact hown'
  | none =>
    have hl : l' = [] := by
      cases l' with
      | nil => rfl
      | cons y r => obtain ⟨ad, hA, _⟩ := hb 0 (by simp); cases hA
    subst hl
    have hc := hnil rfl
    subst hc
    refine wpList_plain hgd fun K hK => ?_
    have hr := run_append_owned_none (P := Try.prog) w base 36 o.type 5 i 1 Try.underlying36 hi v l.length (cells8 l) hown
    unfold Oper.wp execOp
    simp only [ho, resolve, invoke, builtin, Sem.run_bind, Sem.run_pure, Result.andThen_ok, List.map_toArray, List.map_cons, List.map_nil, hs, hx]
    simp only [List.length_nil, hr, Result.andThen_ok]
    refine hK _ _ (h v w (by simpa using hown) (World.grownBy.refl _ _) (by simp))

/-- make of n bytes 0. -/
theorem wpList_make_bytes {w : World} {ops : Array Oper} {rest : List Oper} {o : Oper} {a : Act} {Q : Exit → Act → World → Prop} (hgd : o.guard = none) (l c : Operand)
    (ho : o.op = Op.makeSlice 36 l c) (base : Nat) (L C : Int) (n : Nat) (hl : a.eval l = .int .i64 L) (hc : a.eval c = .int .i64 C) (hL : L = (n : Int)) (hC : C = (n : Int)) (hn : n ≤ 140737488355328) (hbase : base ≤ w.heap.size)
    (h : ∀ w', OwnB w' base (.slice (some ⟨w.heap.size, 0, none⟩) n n) (List.replicate n 0) → w.grownBy w' none → wpList Try.prog ops Q rest (a.put o.dst (.slice (some ⟨w.heap.size, 0, none⟩) n n)) w') : wpList Try.prog ops Q (o :: rest) a w := by
  obtain ⟨i, hi, hz0, hz1, hz2⟩ := info_parts info8
  refine wpList_make_full w hgd l c _ ho base 5 i (.int .u8 0) 1 Try.underlying36 hi hz0 hz1 .i64 .i64 L C n hl hc hL hC (by rw [hz2]; omega) (by unfold maxLen; omega) hbase ?_
  intro w' hown hg
  refine h w' ?_ hg
  unfold OwnB
  have e : (madeCells (Value.int .u8 0).cells (n * 1)).toList = cells8 (List.replicate n 0) := by
    show (madeCells #[.int .u8 0] (n * 1)).toList = _
    rw [toList_madeCells_one, Nat.mul_one]
    simp [cells8]
  rw [e] at hown
  rw [List.length_replicate]
  exact hown
/-- make of no bytes, with room for n. -/
theorem wpList_make_room {w : World} {ops : Array Oper} {rest : List Oper} {o : Oper} {a : Act} {Q : Exit → Act → World → Prop} (hgd : o.guard = none) (l c : Operand)
    (ho : o.op = Op.makeSlice 36 l c) (base : Nat) (C : Int) (n : Nat) (hl : a.eval l = .int .i64 0) (hc : a.eval c = .int .i64 C) (hC : C = (n : Int)) (hn : n ≤ 140737488355328) (hbase : base ≤ w.heap.size)
    (h : ∀ w', OwnB w' base (.slice (some ⟨w.heap.size, 0, none⟩) 0 n) [] → w.grownBy w' none → wpList Try.prog ops Q rest (a.put o.dst (.slice (some ⟨w.heap.size, 0, none⟩) 0 n)) w') : wpList Try.prog ops Q (o :: rest) a w := by
  obtain ⟨i, hi, hz0, hz1, hz2⟩ := info_parts info8
  exact wpList_make_own w hgd l c _ ho base 5 i (.int .u8 0) 1 Try.underlying36 hi hz0 hz1 .i64 .i64 C n hl hc hC (by rw [hz2]; omega) (by unfold maxLen; omega) hbase h

/-- All is as it was but for the blocks in S (and what is new). -/
structure Kept (S : Nat → Prop) (w w' : World) : Prop where
  os : w'.os = w.os
  tape : w'.tape = w.tape
  output : w'.output = w.output
  size : w.heap.size ≤ w'.heap.size
  block : ∀ k, k < w.heap.size → ¬ S k → w'.heap[k]? = w.heap[k]?
theorem Kept.refl (S : Nat → Prop) (w : World) : Kept S w w := ⟨rfl, rfl, rfl, Nat.le_refl _, fun _ _ _ => rfl⟩
theorem Kept.trans {S : Nat → Prop} {a b c : World} (h : Kept S a b) (k : Kept S b c) : Kept S a c :=
  ⟨k.os.trans h.os, k.tape.trans h.tape, k.output.trans h.output, Nat.le_trans h.size k.size, fun i hi hs => (k.block i (Nat.lt_of_lt_of_le hi h.size) hs).trans (h.block i hi hs)⟩
theorem Kept.mono {S T : Nat → Prop} {w w' : World} (h : Kept S w w') (hs : ∀ k, k < w.heap.size → S k → T k) : Kept T w w' := ⟨h.os, h.tape, h.output, h.size, fun k hk ht => h.block k hk (fun x => ht (hs k hk x))⟩
theorem Kept.of_below {S : Nat → Prop} {w w' : World} (h : Below w.heap.size w w') : Kept S w w' := ⟨h.os, h.tape, h.output, h.size, fun k hk _ => h.block k hk⟩
theorem Kept.of_grown {w w' : World} {row : Option Nat} {S : Nat → Prop} (h : w.grownBy w' row) (hs : ∀ k, row = some k → S k) : Kept S w w' :=
  ⟨h.os, h.tape, h.output, h.size, fun k hk hn => h.block k hk (fun e => hn (hs k e.symm))⟩
theorem Kept.below {S : Nat → Prop} {B : Nat} {w w' : World} (h : Kept S w w') (hB : B ≤ w.heap.size) (hs : ∀ k, k < B → ¬ S k) : Below B w w' :=
  ⟨h.os, h.tape, h.output, h.size, fun k hk => h.block k (by omega) (hs k hk)⟩
theorem Kept.drew {S : Nat → Prop} {a w : World} (h : Kept S a w) : Kept S a w.drew := ⟨h.os, h.tape, h.output, h.size, h.block⟩
theorem Kept.alloc {S : Nat → Prop} {a w : World} (h : Kept S a w) (o : Obj) : Kept S a (w.alloc o) := h.trans (Kept.of_below ((Below.refl _ _).alloc (Nat.le_refl _) _))
theorem Kept.setCell {S : Nat → Prop} {a w : World} (h : Kept S a w) {p : Addr} (hp : S p.block ∨ a.heap.size ≤ p.block) (u : Value) : Kept S a (w.setCell p u) :=
  ⟨h.os, h.tape, h.output, by simpa [World.setCell] using h.size, fun k hk hs => by
    rw [Below.heap_setCell _ _ _ _ (by rintro rfl; rcases hp with hp | hp; exact hs hp; omega)]; exact h.block k hk hs⟩
theorem Kept.cell {S : Nat → Prop} {w w' : World} (h : Kept S w w') {p : Addr} {v : Value} (hc : w.cell? p = some v) (hs : ¬ S p.block) : w'.cell? p = some v :=
  (World.cell?_of_block (h.block p.block (World.block_lt_of_cell? w p hc) hs)).trans hc
theorem Kept.frozen {S : Nat → Prop} {w w' : World} (h : Kept S w w') {p : Addr} (hp : p.block < w.heap.size) (hs : ¬ S p.block) : w'.frozen? p = w.frozen? p :=
  World.frozen?_of_block (h.block p.block hp hs)
theorem OwnB.kept {S : Nat → Prop} {w w' : World} {base : Nat} {v : Value} {l : List UInt8} (h : OwnB w base v l) (hk : Kept S w w') (hs : ∀ k, v.ownBlock = some k → ¬ S k) : OwnB w' base v l := by
  refine ⟨h.1, ?_⟩
  rcases h.2 with h2 | ⟨g, cap, cur, h1, h2, h3, r⟩
  · exact .inl h2
  · exact .inr ⟨g, cap, cur, h1, h2, by rw [hk.block g ((Array.getElem?_eq_some_iff.1 h3).1) (hs g (by rw [h1]; rfl))]; exact h3, r⟩
theorem Bytes.kept {S : Nat → Prop} {w w' : World} {A : Option Addr} {l : List UInt8} (h : Bytes w A l) (hk : Kept S w w') (hs : ∀ ad, A = some ad → ¬ S ad.block) : Bytes w' A l := by
  intro i hi
  obtain ⟨ad, hA, hx⟩ := h i hi
  exact ⟨ad, hA, hk.cell hx (by rw [add_block]; exact hs ad hA)⟩

/-- A contract that makes memory alone, told from an earlier world on. -/
theorem from0 {P : Program} {f : FuncId} {args : Array Value} {w : World} {v : Value} {w0 : World} (h : Hid (Below w0.heap.size w0 w))
    (c : Calls P f args w fun e w' => e = .returned v ∧ Below w.heap.size w w') : Calls P f args w fun e w' => e = .returned v ∧ Hid (Below w0.heap.size w0 w') :=
  c.mono fun _ _ k => ⟨k.1, h.out.trans (k.2.mono h.out.size)⟩
theorem from_same {P : Program} {f : FuncId} {args : Array Value} {w : World} {v : Value}
    (c : Calls P f args w fun e w' => e = .returned v ∧ w = w') : Calls P f args w fun e w' => e = .returned v ∧ Below w.heap.size w w' :=
  c.mono fun _ w' k => ⟨k.1, by rw [← k.2]; exact Below.refl _ _⟩
theorem hid0 (w : World) : Hid (Below w.heap.size w w) := Below.refl _ _

/-- 'int(uint64(x) % uint64(m))': a number below m. -/
theorem mod_pick (x : Int) (m : Nat) (hm : 0 < m) : ∃ n : Nat, n < m ∧ (IntKind.u64.wrap x).tmod (m : Int) = (n : Int) := by
  have h0 : 0 ≤ IntKind.u64.wrap x := by
    simp only [IntKind.wrap, IntKind.bits, IntKind.signed]; simp; omega
  refine ⟨((IntKind.u64.wrap x) % (m : Int)).toNat, ?_, ?_⟩
  · have := Int.emod_lt_of_pos (IntKind.u64.wrap x) (b := (m : Int)) (by omega)
    have := Int.emod_nonneg (IntKind.u64.wrap x) (b := (m : Int)) (by omega)
    omega
  · rw [Int.tmod_eq_emod_of_nonneg h0]
    have := Int.emod_nonneg (IntKind.u64.wrap x) (b := (m : Int)) (by omega)
    omega

/-! ### more stops, and what stays -/
theorem park_at (O : Op) {P : Program} {ops : Array Oper} {Q : Exit → Act → World → Prop} {rest : List Oper} {a : Act} {w : World} {d : Option Tmp} {ty : TypeId} {pos : String} {after : Array Edge} {gd : Option (Nat × Bool)}
    (hq : ∀ q : Prop, Hid (wpList P ops Q ({ dst := d, op := O, type := ty, pos := pos, after := after, guard := gd } :: rest) a w → q) → q) : wpList P ops Q ({ dst := d, op := O, type := ty, pos := pos, after := after, guard := gd } :: rest) a w := park hq
theorem Kept.setRow {r : Nat} (w : World) (cs : Array Value) : Kept (· = r) w (w.setRow r cs) :=
  ⟨rfl, rfl, rfl, by simp [World.setRow], fun k _ hk => setRow_other w r k cs hk⟩
theorem Kept.set1 (w : World) (a i : Nat) (u : Value) : Kept (· = a) w (w.setCell ⟨a, i, none⟩ u) :=
  (Kept.refl (· = a) w).setCell (p := ⟨a, i, none⟩) (Or.inl (rfl : a = a)) u
def zsec : List UInt8 := List.replicate 256 0
theorem zsec_length : zsec.length = 256 := List.length_replicate
end Go.Proofs.Ytehigfpdeoebdaa
