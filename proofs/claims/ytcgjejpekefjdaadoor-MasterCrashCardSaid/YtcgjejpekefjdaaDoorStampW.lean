/- Stamped sectors: the plain words, and the walks of stamp.zero, Wrap, Torn. -/
import Derived.Test.YtcgjejpekefjdaaDoorCodec
import Derived.Test.YtcgjejpekefjdaaDoorZero
import Derived.Test.YtcgjejpekefjdaaDoorArr
set_option linter.unusedSimpArgs false
set_option linter.unusedVariables false
namespace Go.Proofs.YtcgjejpekefjdaaDoor
open Go.RowKit Go.Proofs.YtcgjejpekefjdaaDoor.Crc
/-- A length as a byte; a plain definition. -/
def lenB (b : List UInt8) : UInt8 := UInt8.ofNat b.length
/-- The bytes ahead of the sum. -/
def headB (st : Nat) (k : UInt8) (b : List UInt8) : List UInt8 := fixB st 8 ++ ([k, lenB b] ++ (b ++ List.replicate (234 - b.length) 0))
def wrapB (st : Nat) (k : UInt8) (b : List UInt8) : List UInt8 := sealB (headB st k b) ++ fixB st 8
def wrapR (st : Nat) (k : UInt8) (b : List UInt8) : List UInt8 × Int := if st = 0 ∨ k = 0 then ([], 2) else if 233 < b.length then ([], 3) else (wrapB st k b, 0)
theorem headB_length (st : Nat) (k : UInt8) (b : List UInt8) (h : b.length ≤ 234) : (headB st k b).length = 244 := by
  simp [headB, fixB_length]; omega
theorem wrapB_length (st : Nat) (k : UInt8) (b : List UInt8) (h : b.length ≤ 234) : (wrapB st k b).length = 256 := by
  simp [wrapB, sealB_length, headB_length st k b h, fixB_length]
theorem splice_mid {α : Type} (p q s m : List α) (n : Nat) (hn : n = p.length) (h : q.length = m.length) : splice (p ++ (q ++ s)) n m = p ++ (m ++ s) := by
  subst hn
  unfold splice
  rw [List.take_append_of_le_length (Nat.le_refl _), List.take_length, ← h, ← List.append_assoc p q s, ← List.length_append, List.drop_append_of_le_length (Nat.le_refl _), List.drop_length, List.nil_append]
theorem below_keep {r : Nat} {w a b : World} (hr : w.heap.size = r) (h : Below r w a) (k : Kept (· = r) a b) : Below r w b := h.trans (k.below (by have := h.size; omega) (fun k hk e => by omega))
theorem below_then {r : Nat} {w a b : World} (hr : w.heap.size = r) (h : Below r w a) (k : Below a.heap.size a b) : Below r w b := h.trans (k.mono (by have := h.size; omega))
def cur1 (st : Nat) : List UInt8 := splice zsec 0 ((fixB st 8).take 8)
def cur3 (st : Nat) (k : UInt8) (b : List UInt8) : List UInt8 := ((cur1 st).set 8 k).set 9 (lenB b)
def cur4 (st : Nat) (k : UInt8) (b : List UInt8) : List UInt8 := splice (cur3 st k b) 10 (b.take 234)
theorem take_fix (st : Nat) : (fixB st 8).take 8 = fixB st 8 := List.take_of_length_le (by rw [fixB_length]; exact Nat.le_refl _)
theorem cur1_eq (st : Nat) : cur1 st = fixB st 8 ++ List.replicate 248 0 := by
  unfold cur1
  rw [take_fix, show zsec = ([] : List UInt8) ++ (List.replicate 8 0 ++ List.replicate 248 0) by unfold zsec; rw [List.nil_append, List.replicate_append_replicate], splice_mid [] _ _ _ 0 rfl (by rw [List.length_replicate, fixB_length]), List.nil_append]
theorem cur3_eq (st : Nat) (k : UInt8) (b : List UInt8) : cur3 st k b = (fixB st 8 ++ [k, lenB b]) ++ List.replicate 246 0 := by
  unfold cur3
  rw [cur1_eq, List.set_append_right _ _ (by rw [fixB_length]; exact Nat.le_refl _), fixB_length, Nat.sub_self, show (248 : Nat) = 247 + 1 from rfl, List.replicate_succ, List.set_cons_zero,
    List.set_append_right _ _ (by rw [fixB_length]; decide), fixB_length, show 9 - 8 = 0 + 1 from rfl, List.set_cons_succ, show (247 : Nat) = 246 + 1 from rfl, List.replicate_succ, List.set_cons_zero, List.append_assoc]
  rfl
theorem cur4_eq (st : Nat) (k : UInt8) (b : List UInt8) (h : b.length ≤ 233) : cur4 st k b = headB st k b ++ List.replicate 12 0 := by
  unfold cur4
  rw [cur3_eq, List.take_of_length_le (by omega), show List.replicate 246 (0 : UInt8) = List.replicate b.length 0 ++ List.replicate (246 - b.length) 0 by rw [List.replicate_append_replicate]; congr 1; omega,
    splice_mid _ _ _ _ _ (by simp [fixB_length]) List.length_replicate]
  unfold headB
  rw [show List.replicate (246 - b.length) (0 : UInt8) = List.replicate (234 - b.length) 0 ++ List.replicate 12 0 by rw [List.replicate_append_replicate]; congr 1; omega]
  simp only [List.append_assoc]
theorem cur4_take (st : Nat) (k : UInt8) (b : List UInt8) (h : b.length ≤ 233) : (cur4 st k b).take 244 = headB st k b := by
  rw [cur4_eq st k b h, List.take_append_of_le_length (by rw [headB_length st k b (by omega)]; exact Nat.le_refl _), List.take_of_length_le (by rw [headB_length st k b (by omega)]; exact Nat.le_refl _)]
theorem cur6_eq (st : Nat) (k : UInt8) (b : List UInt8) (h : b.length ≤ 233) : splice (splice (cur4 st k b) 0 ((sealB (headB st k b)).take 248)) 248 ((fixB st 8).take 8) = wrapB st k b := by
  have hl := headB_length st k b (by omega)
  have hs : (sealB (headB st k b)).length = 248 := by rw [sealB_length, hl]
  rw [take_fix, List.take_of_length_le (by omega), cur4_eq st k b h, show headB st k b ++ List.replicate 12 (0 : UInt8) = [] ++ ((headB st k b ++ List.replicate 4 0) ++ List.replicate 8 0) by rw [List.nil_append, List.append_assoc, List.replicate_append_replicate],
    splice_mid [] _ _ _ 0 rfl (by rw [List.length_append, hl, hs, List.length_replicate]), List.nil_append,
    show sealB (headB st k b) ++ List.replicate 8 (0 : UInt8) = sealB (headB st k b) ++ (List.replicate 8 0 ++ []) by rw [List.append_nil], splice_mid _ _ _ _ _ hs.symm (by rw [List.length_replicate, fixB_length]), List.append_nil]
  rfl
theorem cur_len (st : Nat) (k : UInt8) (b : List UInt8) (h : b.length ≤ 233) : (cur4 st k b).length = 256 ∧ (cur3 st k b).length = 256 ∧ (cur1 st).length = 256 := by
  refine ⟨?_, ?_, ?_⟩
  · rw [cur4_eq st k b h, List.length_append, headB_length st k b (by omega), List.length_replicate]
  · rw [cur3_eq, List.length_append, List.length_append, fixB_length, List.length_replicate]; rfl
  · rw [cur1_eq, List.length_append, fixB_length, List.length_replicate]
set_option maxRecDepth 100000 in
set_option maxHeartbeats 400000 in
theorem zero_calls (A : Option Addr) (n c : Nat) (l : List UInt8) (w : World) (hn : n = l.length) (hb : Bytes w A l) (hc : n ≤ c) (hm : c ≤ 9223372036854775807) :
    Calls Tryd.prog 69 #[.slice A n c] w fun e w' => e = .returned (.bool (zeroB l)) ∧ w = w' := by
  have HC := Lib.hid (trimLeft_calls A n c l w hn hb hc hm)
  obtain ⟨d, hd⟩ : ∃ d, (l.dropWhile (· == 0)).length = d := ⟨_, rfl⟩
  have e : ((d : Int) == 0) = zeroB l := by
    rw [Bool.eq_iff_iff, ← dropWhile_zero, hd]; simp
  rw [hd] at HC
  have E := Lib.hid e
  clear hb hn hd e
  go_enter Tryd.func69, Tryd.ntmps69
  go_wp2_with (go_at_call 81; refine HC.out.mono ?_; rintro e w' ⟨⟨A', c', rfl⟩, rfl⟩)
  go_ret
  exact ⟨by rw [← E.out]; rfl, rfl⟩
set_option maxRecDepth 100000 in
set_option maxHeartbeats 1000000 in
theorem Wrap_calls (st : Nat) (hst : (st : Int) ≤ 18446744073709551615) (k : UInt8) (A : Option Addr) (n c : Nat) (b : List UInt8) (w : World) (hh : HalfIs w) (hn : n = b.length) (hb : Bytes w A b) (hnil : A = none → c = 0) (hl : n ≤ 140737488351232) :
    Calls Tryd.prog 40 #[.int .u64 (st : Int), .int .u8 (k.toNat : Int), .slice A n c] w (RetBN w (wrapR st k b).1 (wrapR st k b).2) := by
  obtain ⟨k1, k2⟩ := ltu8 k
  by_cases h0 : st = 0 ∨ k = 0
  · have e : wrapR st k b = ([], 2) := by unfold wrapR; rw [if_pos h0]
    rw [e]
    clear e hh hb
    by_cases h1 : st = 0
    · have t1 : ((st : Int) == 0) = true := by simp [h1]
      clear h0 h1
      go_enter Tryd.func40, Tryd.ntmps40
      go_wp2_with fail
      go_ret2
      exact RetBN.mk (World.ownsRow_nil _ _ _ _) (Below.refl _ _)
    · have t1 : ((st : Int) == 0) = false := by simp [h1]
      obtain rfl : k = 0 := by rcases h0 with h | h; exact absurd h h1; exact h
      clear h0 h1
      go_enter Tryd.func40, Tryd.ntmps40
      go_wp2_with fail
      go_ret2
      exact RetBN.mk (World.ownsRow_nil _ _ _ _) (Below.refl _ _)
  · have t1 : ((st : Int) == 0) = false := by simp; omega
    have t2 : ((k.toNat : Int) == 0) = false := by
      simp; intro h; exact h0 (.inr (UInt8.toNat_inj.1 (by simpa using h)))
    by_cases hbig : 233 < b.length
    · have e : wrapR st k b = ([], 3) := by unfold wrapR; rw [if_neg h0, if_pos hbig]
      rw [e]
      rw [← hn] at hbig
      clear e hh hb h0
      go_enter Tryd.func40, Tryd.ntmps40
      go_wp2_with fail
      go_ret2
      exact RetBN.mk (World.ownsRow_nil _ _ _ _) (Below.refl _ _)
    · have e : wrapR st k b = (wrapB st k b, 0) := by unfold wrapR; rw [if_neg h0, if_neg hbig]
      rw [e]
      have hsm : n ≤ 233 := by omega
      have HH := Lib.hid hh
      have HB := Lib.hid hb
      have HN := Lib.hid hn
      clear e hh hb hn h0 hbig hnil
      have hu8 : IntKind.u8.wrap (n : Int) = ((lenB b).toNat : Int) := by
        unfold lenB; rw [← HN.out]; simp only [IntKind.wrap, IntKind.bits, IntKind.signed]; simp
      go_enter Tryd.func40, Tryd.ntmps40
      go_wp2_with (with_reducible refine park_at (.alloc 92) ?_; intro q hq)
      refine hq.out ?_
      clear hq
      refine wpList_alloc256 rfl rfl ?_
      intro hA0
      have HB0 : Hid (Below w.heap.size w (w.alloc (.cells (cells8 zsec).toArray 92))) := (Below.refl _ _).alloc (Nat.le_refl _) _
      have HA0 := Lib.hid hA0
      clear hA0
      obtain ⟨r, hr⟩ : ∃ r, w.heap.size = r := ⟨_, rfl⟩
      have HR := Lib.hid hr
      rw [HR.out] at HA0 HB0 ⊢
      clear hr
      generalize (w.alloc (.cells (cells8 zsec).toArray 92)) = w1 at HA0 HB0 ⊢
      go_wp2_with (go_at_call 60; refine (PutFixed_calls st hst 8 (by decide) _).mono ?_; rintro e w2 ⟨Am, cm, rfl, hOm, hb2⟩; refine park ?_; intro q hq)
      have HA2 := Lib.hid (HA0.out.below hb2)
      have hw1 := HB0.out.size
      rw [HR.out] at hw1
      have HB2 := Lib.hid (HB0.out.trans (hb2.mono hw1))
      have HMn : Hid (∀ ad, Am = some ad → ¬ ad.block = r) := fun ad h e => by
        subst h
        have := (hOm.lt ad.block rfl).1
        have := HA0.out.lt
        omega
      have HM2 := Lib.hid hOm.bytes
      have HBn : Hid (∀ ad, A = some ad → 0 < b.length → ad.block < r) := fun ad h h2 => by
        obtain ⟨ad', e, hx⟩ := HB.out 0 h2
        rw [h] at e; cases e
        rw [← HR.out, ← add_block ad 0]; exact World.block_lt_of_cell? w _ hx
      clear hOm hb2 HA0 HB0 hw1
      have HL8 : Hid ((fixB st 8).length = 8) := fixB_length st 8
      refine hq.out ?_
      clear hq
      go_wp2_with (with_reducible refine park_copy ?_; intro q hq)
      refine hq.out ?_
      clear hq
      refine wpList_copyB rfl _ _ rfl r 0 8 8 Am (fixB st 8).length cm rfl rfl _ zsec (fixB st 8) HA2.out rfl HM2.out (by rw [HL8.out]; decide) ?_
      intro w3 hA3 hk3
      have HA3 : Hid (BlkB w3 r 92 (cur1 st)) := hA3
      have HM3 := Lib.hid (HM2.out.kept hk3 HMn.out)
      have HB3 := Lib.hid (below_keep HR.out HB2.out hk3)
      have hl1 := (cur_len st k b (by rw [← HN.out]; exact hsm)).2.2
      have HC3 : Hid (BlkB ((w3.setCell ⟨r, 8, none⟩ (.int .u8 (k.toNat : Int))).setCell ⟨r, 9, none⟩ (.int .u8 ((lenB b).toNat : Int))) r 92 (cur3 st k b)) := (HA3.out.set 8 k).set 9 _
      have HKc : Hid (Kept (· = r) w3 ((w3.setCell ⟨r, 8, none⟩ (.int .u8 (k.toNat : Int))).setCell ⟨r, 9, none⟩ (.int .u8 ((lenB b).toNat : Int)))) := (Kept.set1 w3 r 8 _).trans (Kept.set1 _ r 9 _)
      obtain ⟨x8, f8⟩ := HA3.out.cell 8 (by rw [hl1]; decide)
      obtain ⟨x9, f9⟩ := HA3.out.cell 9 (by rw [hl1]; decide)
      clear hA3 hk3 HA2 HB2 HM2 hl1
      go_wp2_with (with_reducible refine park_copy ?_; intro q hq)
      refine hq.out ?_
      clear hq x8 f8 x9 f9
      have HB4 := Lib.hid (below_keep HR.out HB3.out HKc.out)
      have HM4 := Lib.hid (HM3.out.kept HKc.out HMn.out)
      clear HA3 HB3 HM3 HKc
      generalize ((w3.setCell ⟨r, 8, none⟩ (.int .u8 (k.toNat : Int))).setCell ⟨r, 9, none⟩ (.int .u8 ((lenB b).toNat : Int))) = w4 at HC3 HB4 HM4 ⊢
      have hl3 := (cur_len st k b (by rw [← HN.out]; exact hsm)).2.1
      refine wpList_copyB rfl _ _ rfl r 10 234 234 A n c rfl rfl _ (cur3 st k b) b HC3.out HN.out (HB.out.below (by rw [HR.out]; exact HB4.out)) (by have h5 : Nat.min 234 b.length ≤ b.length := Nat.min_le_right 234 b.length; have h6 : n = b.length := HN.out; rw [hl3]; omega) ?_
      intro w5 hA5 hk5
      have HA5 : Hid (BlkB w5 r 92 (cur4 st k b)) := hA5
      have HB5 := Lib.hid (below_keep HR.out HB4.out hk5)
      have HM5 := Lib.hid (HM4.out.kept hk5 HMn.out)
      have HT5 : Hid (Bytes w5 (some ⟨r, 0, none⟩) (headB st k b)) := by
        have := HA5.out.bytes.take 244
        rw [cur4_take st k b (by rw [← HN.out]; exact hsm)] at this
        exact this
      have HL5 : Hid (244 = (headB st k b).length) := (headB_length st k b (by rw [← HN.out]; omega)).symm
      have HH5 := Lib.hid (HH.out.below (by rw [HR.out]; exact HB5.out))
      clear hA5 hk5 hl3 HC3 HB4 HM4
      have hsl := Seal_calls (some ⟨r, 0, none⟩) 244 (headB st k b) w5 HH5.out HT5.out (fun h => by cases h) (by rw [← HL5.out]; decide)
      rw [← HL5.out] at hsl
      have HSl := Lib.hid hsl
      clear hsl
      go_wp2_with (go_at_call 61; refine HSl.out.mono ?_; rintro e w6 ⟨As, cs, rfl, hOs, hb6⟩; refine park ?_; intro q hq)
      have HA6 := Lib.hid (HA5.out.below hb6)
      have HB6 := Lib.hid (below_then HR.out HB5.out hb6)
      have HM6 := Lib.hid (HM5.out.below hb6)
      have HS6 := Lib.hid hOs.bytes
      have hsl : (sealB (headB st k b)).length = 248 := by rw [sealB_length, ← HL5.out]
      have HSn : Hid (As.isSome = true) := by
        obtain ⟨ad, h, _⟩ := hOs.bytes 0 (by rw [hsl]; decide)
        rw [h]; rfl
      have HSL := Lib.hid hsl
      have HSn2 : Hid (∀ ad, As = some ad → ¬ ad.block = r) := fun ad h e => by
        subst h
        have := (hOs.lt ad.block rfl).1
        have := HA5.out.lt
        omega
      clear hOs hb6 HSl HA5 HB5 HM5 HT5 HH5 hsl
      refine hq.out ?_
      clear hq
      have HCl := Lib.hid (cur_len st k b (by rw [← HN.out]; exact hsm)).1
      go_wp2_with (with_reducible refine park_copy ?_; intro q hq)
      refine hq.out ?_
      clear hq
      refine wpList_copyB rfl _ _ rfl r 0 248 248 As (sealB (headB st k b)).length cs rfl rfl _ (cur4 st k b) (sealB (headB st k b)) HA6.out rfl HS6.out (by rw [HSL.out, HCl.out]; decide) ?_
      intro w7 hA7 hk7
      have HA7 := Lib.hid hA7
      have HB7 := Lib.hid (below_keep HR.out HB6.out hk7)
      have HM7 := Lib.hid (HM6.out.kept hk7 HMn.out)
      clear hA7 hk7 HA6 HB6 HM6 HS6
      have hl7 : (splice (cur4 st k b) 0 ((sealB (headB st k b)).take 248)).length = 256 := by
        rw [length_splice _ _ _ (by rw [List.length_take, HSL.out, HCl.out]; decide), HCl.out]
      have HL7 := Lib.hid hl7
      clear hl7
      go_wp2_with (with_reducible refine park_copy ?_; intro q hq)
      refine hq.out ?_
      clear hq
      refine wpList_copyB rfl _ _ rfl r 248 8 8 Am (fixB st 8).length cm rfl rfl _ _ (fixB st 8) HA7.out rfl HM7.out (by rw [HL8.out, HL7.out]; decide) ?_
      intro w8 hA8 hk8
      rw [cur6_eq st k b (by rw [← HN.out]; exact hsm)] at hA8
      have HA8 := Lib.hid hA8
      have HB8 := Lib.hid (below_keep HR.out HB7.out hk8)
      have HW8 := Lib.hid (wrapB_length st k b (by rw [← HN.out]; omega))
      clear hA8 hk8 HA7 HB7 HM7 HL7
      go_wp2_with (with_reducible refine park_append ?_; intro q hq)
      refine hq.out ?_
      clear hq
      refine wpList_append_bytes rfl _ _ rfl w.heap.size (.slice none 0 0) [] rfl (World.ownsRow_nil _ _ _ _) (some ⟨r, 0, none⟩) 256 256 (wrapB st k b) rfl HW8.out.symm (fun h => by cases h) HA8.out.bytes (by rw [HW8.out]; decide) (by rw [HR.out]; have := HB8.out.size; rw [HR.out] at this; exact this) ?_
      intro v9 w9 hown9 hg9 _
      have HB9 : Hid (Below w.heap.size w w9) := by
        have h := HB8.out
        rw [← HR.out] at h
        exact h.grown hg9 h.size (fun k hk => by cases hk)
      have HO9 := Lib.hid hown9
      clear hown9 hg9
      go_wp2
      go_ret2
      have h9 := HO9.out
      rw [List.nil_append] at h9
      exact RetBN.mk h9 HB9.out
end Go.Proofs.YtcgjejpekefjdaaDoor
