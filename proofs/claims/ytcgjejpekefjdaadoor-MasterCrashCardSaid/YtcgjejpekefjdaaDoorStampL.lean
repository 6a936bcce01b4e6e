/- Stamped sectors: what is wrapped is opened (plain); the walk of the chapter's example. -/
import Derived.Test.YtcgjejpekefjdaaDoorStampO
set_option linter.unusedSimpArgs false
set_option linter.unusedVariables false
namespace Go.Proofs.YtcgjejpekefjdaaDoor
open Go.RowKit Go.Proofs.YtcgjejpekefjdaaDoor.Crc
theorem natB_append (l m : List UInt8) : natB (l ++ m) = natB l * 256 ^ m.length + natB m := by
  suffices h : ∀ m : List UInt8, natB (l ++ m.reverse) = natB l * 256 ^ m.length + natB m.reverse by
    have := h m.reverse
    simpa using this
  intro m
  induction m with
  | nil => simp [natB]
  | cons c m ih =>
    rw [List.reverse_cons, ← List.append_assoc, natB_snoc, natB_snoc, ih, List.length_cons, Nat.pow_succ, Nat.add_mul, Nat.mul_assoc, Nat.add_assoc]
theorem fixB_natB (n : Nat) : ∀ s, natB (fixB n s) = n % 256 ^ s
  | 0 => by simp [fixB, natB, Nat.mod_one]
  | s + 1 => by
    rw [fixB, show byteAt n s :: fixB n s = [byteAt n s] ++ fixB n s from rfl, natB_append, fixB_length, fixB_natB n s]
    have h1 : natB [byteAt n s] = n / 256 ^ s % 256 := by simp [natB, byteAt]
    rw [h1, Nat.pow_succ, Nat.mod_mul]
    rw [Nat.add_comm, Nat.mul_comm (256 ^ s)]
theorem zeroB_natB (l : List UInt8) (h : zeroB l = true) : natB l = 0 := by
  unfold zeroB at h
  induction l with
  | nil => rfl
  | cons c l ih =>
    rw [List.all_cons, Bool.and_eq_true] at h
    rw [show c :: l = [c] ++ l from rfl, natB_append, ih h.2]
    have : c = 0 := by simpa using h.1
    subst this
    simp [natB]
theorem zeroB_fix (st : Nat) (h0 : st ≠ 0) (h : st < 18446744073709551616) : zeroB (fixB st 8) = false := by
  cases hz : zeroB (fixB st 8)
  · rfl
  · have := zeroB_natB _ hz
    rw [fixB_natB, Nat.mod_eq_of_lt (by simpa using h)] at this
    exact absurd this h0
theorem openB_seal (l : List UInt8) : openB (sealB l) = (l, 0) := by
  have hl := sealB_length l
  have hd : (sealB l).drop ((sealB l).length - 4) = le4 (crc l) := by
    rw [hl, Nat.add_sub_cancel]; unfold sealB
    rw [List.drop_append_of_le_length (Nat.le_refl _), List.drop_length, List.nil_append]
  have ht : (sealB l).take ((sealB l).length - 4) = l := by
    rw [hl, Nat.add_sub_cancel]; unfold sealB
    rw [List.take_append_of_le_length (Nat.le_refl _), List.take_length]
  unfold openB
  rw [if_neg (by omega), hd, ht, if_pos rfl]
theorem wrap_take8 (st : Nat) (k : UInt8) (b : List UInt8) : (wrapB st k b).take 8 = fixB st 8 := by
  unfold wrapB sealB headB
  rw [List.append_assoc, List.append_assoc, List.take_append_of_le_length (by rw [fixB_length]; exact Nat.le_refl _), take_fix]
theorem wrap_drop248 (st : Nat) (k : UInt8) (b : List UInt8) (h : b.length ≤ 234) : (wrapB st k b).drop 248 = fixB st 8 := by
  unfold wrapB
  have hs : (sealB (headB st k b)).length = 248 := by rw [sealB_length, headB_length st k b h]
  rw [← hs, List.drop_append_of_le_length (Nat.le_refl _), List.drop_length, List.nil_append]
theorem wrap_take248 (st : Nat) (k : UInt8) (b : List UInt8) (h : b.length ≤ 234) : (wrapB st k b).take 248 = sealB (headB st k b) := by
  unfold wrapB
  have hs : (sealB (headB st k b)).length = 248 := by rw [sealB_length, headB_length st k b h]
  rw [← hs, List.take_append_of_le_length (Nat.le_refl _), List.take_length]
theorem wrap_take244 (st : Nat) (k : UInt8) (b : List UInt8) (h : b.length ≤ 234) : (wrapB st k b).take 244 = headB st k b := by
  have hl := headB_length st k b h
  unfold wrapB sealB
  rw [List.append_assoc, ← hl, List.take_append_of_le_length (Nat.le_refl _), List.take_length]
theorem head_drop (st : Nat) (k : UInt8) (b : List UInt8) (n : Nat) : (headB st k b).drop (10 + n) = (b ++ List.replicate (234 - b.length) 0).drop n := by
  have e : headB st k b = (fixB st 8 ++ [k, lenB b]) ++ (b ++ List.replicate (234 - b.length) 0) := by unfold headB; rw [List.append_assoc]
  have hl : (fixB st 8 ++ [k, lenB b]).length = 10 := by rw [List.length_append, fixB_length]; rfl
  rw [e, ← List.drop_drop, ← hl, List.drop_append_of_le_length (Nat.le_refl _), List.drop_length, List.nil_append]
theorem head_at (st : Nat) (k : UInt8) (b : List UInt8) : at8 (headB st k b) 8 = k ∧ at8 (headB st k b) 9 = lenB b := by
  unfold headB at8
  have h8 := fixB_length st 8
  constructor <;> rw [List.getD_eq_getElem?_getD, List.getElem?_append_right (by omega), h8] <;> rfl
theorem lenB_toNat (b : List UInt8) (h : b.length ≤ 255) : (lenB b).toNat = b.length := by
  unfold lenB; simp; omega
theorem zeroB_replicate (n : Nat) : zeroB (List.replicate n 0) = true := by unfold zeroB; simp
/-- What is wrapped is opened. -/
theorem open_wrap (st : Nat) (k : UInt8) (b : List UInt8) (h0 : st ≠ 0) (h1 : st < 18446744073709551616) (hk : k ≠ 0) (hb : b.length ≤ 233) : openS (wrapB st k b) = (st, k, b, 0) := by
  have hl := wrapB_length st k b (by omega)
  have h244 := wrap_take244 st k b (by omega)
  have a8 : at8 (wrapB st k b) 8 = k := by rw [← at8_take _ 244 8 (by decide), h244]; exact (head_at st k b).1
  have a9 : at8 (wrapB st k b) 9 = lenB b := by rw [← at8_take _ 244 9 (by decide), h244]; exact (head_at st k b).2
  have hn := lenB_toNat b (by omega)
  unfold openS
  rw [if_neg (by simpa using hl), wrap_take8, zeroB_fix st h0 h1, if_neg (by decide), wrap_drop248 st k b (by omega), if_neg (by simp), wrap_take248 st k b (by omega), openB_seal, if_neg (by simp), a8, a9, hn, h244, head_drop, if_neg, fixB_natB, Nat.mod_eq_of_lt (by simpa using h1)]
  · have := head_drop st k b 0
    rw [Nat.add_zero, List.drop_zero] at this
    rw [this, List.take_append_of_le_length (Nat.le_refl _), List.take_length]
  · rw [List.drop_append_of_le_length (Nat.le_refl _), List.drop_length, List.nil_append, zeroB_replicate]
    rintro (h | h | h)
    · exact hk h
    · omega
    · cases h
theorem open_zero : openS zsec = (0, 0, [], 40) := by
  unfold openS
  rw [if_neg (by rw [zsec_length]; simp), show zsec.take 8 = List.replicate 8 0 by unfold zsec; rw [List.take_replicate]; rfl, zeroB_replicate, if_pos rfl]
theorem wrap_at (st : Nat) (k : UInt8) (b : List UInt8) (h : b.length ≤ 233) : at8 (wrapB st k b) 7 = byteAt st 0 ∧ at8 (wrapB st k b) 8 = k ∧ at8 (wrapB st k b) 9 = lenB b ∧ at8 (wrapB st k b) 255 = byteAt st 0 := by
  have h244 := wrap_take244 st k b (by omega)
  refine ⟨?_, ?_, ?_, ?_⟩
  · rw [← at8_take _ 8 7 (by decide), wrap_take8]; rfl
  · rw [← at8_take _ 244 8 (by decide), h244]; exact (head_at st k b).1
  · rw [← at8_take _ 244 9 (by decide), h244]; exact (head_at st k b).2
  · have := at8_drop (wrapB st k b) 248 7
    rw [wrap_drop248 st k b (by omega)] at this
    rw [← this]; rfl
end Go.Proofs.YtcgjejpekefjdaaDoor
