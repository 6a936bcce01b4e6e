/- Stamped sectors: what is wrapped is opened (plain); the walk of the chapter's example. -/
import Derived.Test.YtibhoekbjgoanaaDoorStampO
set_option linter.unusedSimpArgs false
set_option linter.unusedVariables false
namespace Go.Proofs.YtibhoekbjgoanaaDoor
open Go.RowKit Go.Proofs.YtibhoekbjgoanaaDoor.Crc
theorem natB_append (l m : List UInt8) : natB (l ++ m) = natB l * 256 ^ m.length + natB m := by
  suffices h : ∀ m : List UInt8, natB (l ++ m.reverse) = natB l * 256 ^ m.length + natB m.reverse by
    have := h m.reverse
    simpa using this
  intro m
  induction m with
  | nil => simp [natB]
  | cons c m ih =>
    rw [List.reverse_cons, ← List.append_assoc, natB_snoc, natB_snoc, ih, List.length_cons, Nat.pow_succ, Nat.add_mul, Nat.mul_assoc, Nat.add_assoc]
theorem fixB_natB (n : Nat) : ∀ s, natB (fixB n s) = n % 256 ^ s
  | 0 => by simp [fixB, natB, Nat.mod_one]
  | s + 1 => by
    rw [fixB, show byteAt n s :: fixB n s = [byteAt n s] ++ fixB n s from rfl, natB_append, fixB_length, fixB_natB n s]
    have h1 : natB [byteAt n s] = n / 256 ^ s % 256 := by simp [natB, byteAt]
    rw [h1, Nat.pow_succ, Nat.mod_mul]
    rw [Nat.add_comm, Nat.mul_comm (256 ^ s)]
theorem zeroB_natB (l : List UInt8) (h : zeroB l = true) : natB l = 0 := by
  unfold zeroB at h
  induction l with
  | nil => rfl
  | cons c l ih =>
    rw [List.all_cons, Bool.and_eq_true] at h
    rw [show c :: l = [c] ++ l from rfl, natB_append, ih h.2]
    have : c = 0 := by simpa using h.1
    subst this
    simp [natB]
theorem zeroB_fix (st : Nat) (h0 : st ≠ 0) (h : st < 18446744073709551616) : zeroB (fixB st 8) = false := by
  cases hz : zeroB (fixB st 8)
  · rfl
  · have := zeroB_natB _ hz
    rw [fixB_natB, Nat.mod_eq_of_lt (by simpa using h)] at this
    exact absurd this h0
theorem openB_seal (l : List UInt8) : openB (sealB l) = (l, 0) := by
  have hl := sealB_length l
  have hd : (sealB l).drop ((sealB l).length - 4) = le4 (crc l) := by
    rw [hl, Nat.add_sub_cancel]; unfold sealB
    rw [List.drop_append_of_le_length (Nat.le_refl _), List.drop_length, List.nil_append]
  have ht : (sealB l).take ((sealB l).length - 4) = l := by
    rw [hl, Nat.add_sub_cancel]; unfold sealB
    rw [List.take_append_of_le_length (Nat.le_refl _), List.take_length]
  unfold openB
  rw [if_neg (by omega), hd, ht, if_pos rfl]
theorem wrap_take8 (st : Nat) (k : UInt8) (b : List UInt8) : (wrapB st k b).take 8 = fixB st 8 := by
  unfold wrapB sealB headB
  rw [List.append_assoc, List.append_assoc, List.take_append_of_le_length (by rw [fixB_length]; exact Nat.le_refl _), take_fix]
theorem wrap_drop248 (st : Nat) (k : UInt8) (b : List UInt8) (h : b.length ≤ 234) : (wrapB st k b).drop 248 = fixB st 8 := by
  unfold wrapB
  have hs : (sealB (headB st k b)).length = 248 := by rw [sealB_length, headB_length st k b h]
  rw [← hs, List.drop_append_of_le_length (Nat.le_refl _), List.drop_length, List.nil_append]
theorem wrap_take248 (st : Nat) (k : UInt8) (b : List UInt8) (h : b.length ≤ 234) : (wrapB st k b).take 248 = sealB (headB st k b) := by
  unfold wrapB
  have hs : (sealB (headB st k b)).length = 248 := by rw [sealB_length, headB_length st k b h]
  rw [← hs, List.take_append_of_le_length (Nat.le_refl _), List.take_length]
theorem wrap_take244 (st : Nat) (k : UInt8) (b : List UInt8) (h : b.length ≤ 234) : (wrapB st k b).take 244 = headB st k b := by
  have hl := headB_length st k b h
  unfold wrapB sealB
  rw [List.append_assoc, ← hl, List.take_append_of_le_length (Nat.le_refl _), List.take_length]
theorem head_drop (st : Nat) (k : UInt8) (b : List UInt8) (n : Nat) : (headB st k b).drop (10 + n) = (b ++ List.replicate (234 - b.length) 0).drop n := by
  have e : headB st k b = (fixB st 8 ++ [k, lenB b]) ++ (b ++ List.replicate (234 - b.length) 0) := by unfold headB; rw [List.append_assoc]
  have hl : (fixB st 8 ++ [k, lenB b]).length = 10 := by rw [List.length_append, fixB_length]; rfl
  rw [e, ← List.drop_drop, ← hl, List.drop_append_of_le_length (Nat.le_refl _), List.drop_length, List.nil_append]
theorem head_at (st : Nat) (k : UInt8) (b : List UInt8) : at8 (headB st k b) 8 = k ∧ at8 (headB st k b) 9 = lenB b := by
  unfold headB at8
  have h8 := fixB_length st 8
  constructor <;> rw [List.getD_eq_getElem?_getD, List.getElem?_append_right (by omega), h8] <;> rfl
theorem lenB_toNat (b : List UInt8) (h : b.length ≤ 255) : (lenB b).toNat = b.length := by
  unfold lenB; simp; omega
theorem zeroB_replicate (n : Nat) : zeroB (List.replicate n 0) = true := by unfold zeroB; simp
/-- What is wrapped is opened. -/
theorem open_wrap (st : Nat) (k : UInt8) (b : List UInt8) (h0 : st ≠ 0) (h1 : st < 18446744073709551616) (hk : k ≠ 0) (hb : b.length ≤ 233) : openS (wrapB st k b) = (st, k, b, 0) := by
  have hl := wrapB_length st k b (by omega)
  have h244 := wrap_take244 st k b (by omega)
  have a8 : at8 (wrapB st k b) 8 = k := by rw [← at8_take _ 244 8 (by decide), h244]; exact (head_at st k b).1
  have a9 : at8 (wrapB st k b) 9 = lenB b := by rw [← at8_take _ 244 9 (by decide), h244]; exact (head_at st k b).2
  have hn := lenB_toNat b (by omega)
  unfold openS
  rw [if_neg (by simpa using hl), wrap_take8, zeroB_fix st h0 h1, if_neg (by decide), wrap_drop248 st k b (by omega), if_neg (by simp), wrap_take248 st k b (by omega), openB_seal, if_neg (by simp), a8, a9, hn, h244, head_drop, if_neg, fixB_natB, Nat.mod_eq_of_lt (by simpa using h1)]
  · have := head_drop st k b 0
    rw [Nat.add_zero, List.drop_zero] at this
    rw [this, List.take_append_of_le_length (Nat.le_refl _), List.take_length]
  · rw [List.drop_append_of_le_length (Nat.le_refl _), List.drop_length, List.nil_append, zeroB_replicate]
    rintro (h | h | h)
    · exact hk h
    · omega
    · cases h
theorem open_zero : openS zsec = (0, 0, [], 40) := by
  unfold openS
  rw [if_neg (by rw [zsec_length]; simp), show zsec.take 8 = List.replicate 8 0 by unfold zsec; rw [List.take_replicate]; rfl, zeroB_replicate, if_pos rfl]
theorem wrap_at (st : Nat) (k : UInt8) (b : List UInt8) (h : b.length ≤ 233) : at8 (wrapB st k b) 7 = byteAt st 0 ∧ at8 (wrapB st k b) 8 = k ∧ at8 (wrapB st k b) 9 = lenB b ∧ at8 (wrapB st k b) 255 = byteAt st 0 := by
  have h244 := wrap_take244 st k b (by omega)
  refine ⟨?_, ?_, ?_, ?_⟩
  · rw [← at8_take _ 8 7 (by decide), wrap_take8]; rfl
  · rw [← at8_take _ 244 8 (by decide), h244]; exact (head_at st k b).1
  · rw [← at8_take _ 244 9 (by decide), h244]; exact (head_at st k b).2
  · have := at8_drop (wrapB st k b) 248 7
    rw [wrap_drop248 st k b (by omega)] at this
    rw [← this]; rfl
set_option maxRecDepth 100000 in
set_option maxHeartbeats 1000000 in
theorem works7_calls (w : World) (hh : HalfIs w) : Calls Tryd.prog 19 #[] w fun e w' => e = .returned (.bool true) ∧ Below w.heap.size w w' := by
  have HH := Lib.hid hh
  have hw := Wrap_calls 5 (by decide) 1 none 0 0 [] w hh rfl (Bytes.nil _ _) (fun _ => rfl) (by decide)
  rw [show wrapR 5 1 [] = (wrapB 5 1 [], 0) from rfl] at hw
  have HW := Lib.hid hw
  clear hh hw
  have HL := Lib.hid (wrapB_length 5 1 [] (by decide))
  go_enter Tryd.func19, Tryd.ntmps19
  go_wp2_with (go_at_call 17; refine HW.out.mono ?_; rintro e w1 ⟨A1, c1, rfl, hO1, hb1⟩; refine park ?_; intro q hq)
  have HO1 := Lib.hid hO1
  have HB1 := Lib.hid hb1
  clear hO1 hb1 HW
  refine hq.out ?_
  clear hq
  go_wp2_with (with_reducible refine park_make ?_; intro q hq)
  refine hq.out ?_
  clear hq
  refine wpList_make_bytes rfl _ _ rfl w1.heap.size _ _ 256 rfl rfl rfl rfl (by omega) (Nat.le_refl _) ?_
  intro w2 hown2 hg2
  have hb2 : Below w1.heap.size w1 w2 := (Below.refl _ _).grown hg2 (Nat.le_refl _) (fun k hk => by cases hk)
  have HB2 := Lib.hid (HB1.out.trans (hb2.mono HB1.out.size))
  have HO2 := Lib.hid (HO1.out.below hb2)
  have HZ := Lib.hid hown2.bytes
  obtain ⟨g2, hg2e⟩ : ∃ g, w1.heap.size = g := ⟨_, rfl⟩
  rw [hg2e] at HZ ⊢
  clear hown2 hg2 hb2 HO1 HB1 hg2e
  have hop := Open7_calls (some ⟨g2, 0, none⟩) 256 256 zsec w2 (HH.out.below HB2.out) zsec_length.symm HZ.out (Nat.le_refl _) (by decide)
  rw [open_zero] at hop
  have HOp := Lib.hid hop
  clear hop
  go_wp2_with (go_at_call 20; refine HOp.out.mono ?_; rintro e w3 ⟨A3, c3, rfl, hO3, hb3⟩; refine park ?_; intro q hq)
  have HB3 := Lib.hid (HB2.out.trans (hb3.mono HB2.out.size))
  have HO3 := Lib.hid (HO2.out.below hb3)
  clear hO3 hb3 HOp HZ HO2 HB2
  refine hq.out ?_
  clear hq
  obtain ⟨g1, hA1, hc1⟩ : ∃ g, A1 = some ⟨g, 0, none⟩ ∧ 256 ≤ c1 := by
    rcases HO3.out.form with ⟨h, h2⟩ | ⟨g, c', h, _, _, h4⟩
    · have := HL.out; rw [h2] at this; cases this
    · injection h with h1 h2 h3; rw [HL.out] at h4; subst h3; exact ⟨g, h1, h4⟩
  subst hA1
  have hmax : c1 ≤ 9223372036854775807 := by
    rcases HO3.out.2 with ⟨h, _⟩ | ⟨g, cap, cur, h, _, _, _, h5, _⟩
    · cases h
    · injection h with h1 h2 h3; subst h3; unfold maxLen at h5; omega
  have hop := Open7_calls (some ⟨g1, 0, none⟩) 256 c1 (wrapB 5 1 []) w3 (HH.out.below HB3.out) HL.out.symm HO3.out.bytes hc1 hmax
  rw [open_wrap 5 1 [] (by decide) (by decide) (by decide) (by decide)] at hop
  have HOp := Lib.hid hop
  clear hop
  obtain ⟨a7, a8, a9, a255⟩ := wrap_at 5 1 [] (by decide)
  have x7 : w3.cell? ⟨g1, 7, none⟩ = some (.int .u8 5) := by have := (HO3.out.cells 7 (by rw [HL.out]; decide)).1; rw [a7] at this; exact this
  have x8 : w3.cell? ⟨g1, 8, none⟩ = some (.int .u8 1) := by have := (HO3.out.cells 8 (by rw [HL.out]; decide)).1; rw [a8] at this; exact this
  have x9 : w3.cell? ⟨g1, 9, none⟩ = some (.int .u8 0) := by have := (HO3.out.cells 9 (by rw [HL.out]; decide)).1; rw [a9] at this; exact this
  have x255 : w3.cell? ⟨g1, 255, none⟩ = some (.int .u8 5) := by have := (HO3.out.cells 255 (by rw [HL.out]; decide)).1; rw [a255] at this; exact this
  have hlen : (wrapB 5 1 []).length = 256 := HL.out
  rw [hlen]
  clear a7 a8 a9 a255 hlen hmax HO3
  go_wp2_with (go_at_call 20; refine HOp.out.mono ?_; rintro e w4 ⟨A4, c4, rfl, hO4, hb4⟩; refine park ?_; intro q hq)
  have HB4 := Lib.hid (HB3.out.trans (hb4.mono HB3.out.size))
  clear hO4 hb4 HOp
  refine hq.out ?_
  clear hq
  go_wp2_with fail
  go_ret
  exact ⟨rfl, HB4.out⟩
end Go.Proofs.YtibhoekbjgoanaaDoor
