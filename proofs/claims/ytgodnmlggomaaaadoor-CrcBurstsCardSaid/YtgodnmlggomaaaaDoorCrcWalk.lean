/- The walks of package crc's functions, each once. -/
import Derived.Test.YtgodnmlggomaaaaDoorProg
import Derived.Test.YtgodnmlggomaaaaDoorCrcPure
import Derived.Test.YtgodnmlggomaaaaDoorMem
namespace Go.Proofs.YtgodnmlggomaaaaDoor.Crc
open Go.RowKit Go.Proofs.YtgodnmlggomaaaaDoor

/-- The table of sixteen lies where the program's text lays it. -/
def HalfIs (w : World) : Prop := ∀ i : Nat, i < 16 → w.cell? ⟨0, i, none⟩ = some (.int .u32 (n32 (half i)))

theorem half_at {w : World} (hh : HalfIs w) (x : BitVec 32) : n32 (x &&& 15#32) < 16 ∧ 0 ≤ n32 (x &&& 15#32) ∧ w.cell? ⟨0, (n32 (x &&& 15#32)).toNat, none⟩ = some (.int .u32 (n32 (halfOf x))) := by
  have l := and15_lt x
  refine ⟨by unfold n32; omega, n32_lo _, ?_⟩
  rw [show (n32 (x &&& 15#32)).toNat = (x &&& 15#32).toNat by unfold n32; omega]
  exact hh _ l

set_option maxHeartbeats 400000 in
theorem step_calls (h : BitVec 32) (c : UInt8) (w : World) (hh : HalfIs w) :
    Calls Tryd.prog 25 #[.int .u32 (n32 h), .int .u8 (c.toNat : Int)] w fun e w' => e = .returned (.int .u32 (n32 (stepB h c))) ∧ w = w' := by
  obtain ⟨x, hx⟩ : ∃ x, x = h ^^^ c.toBitVec.setWidth 32 := ⟨_, rfl⟩
  have e1 : bits .xor .u32 (n32 h) (c.toNat : Int) = n32 x := by rw [hx]; exact xor32_u8 h c
  have e2 := and32_15 x
  have e3 := shr32_4 x
  obtain ⟨l1, l1', t1⟩ := half_at hh x
  have e4 := xor32 (x >>> 4) (halfOf x)
  obtain ⟨y, hy⟩ : ∃ y, y = (x >>> 4) ^^^ halfOf x := ⟨_, rfl⟩
  rw [← hy] at e4
  have e5 := and32_15 y
  have e6 := shr32_4 y
  obtain ⟨l2, l2', t2⟩ := half_at hh y
  have e7 := xor32 (y >>> 4) (halfOf y)
  have fin : stepB h c = (y >>> 4) ^^^ halfOf y := by rw [stepB_eq, hy, hx]
  have FIN := Lib.hid fin
  have HH := Lib.hid hh
  clear fin hx hy hh
  obtain ⟨b1, b2⟩ := ltu8 c
  go_enter Tryd.func25, Tryd.ntmps25
  go_wp2
  go_ret
  exact ⟨ret_int (congrArg n32 FIN.out.symm), rfl⟩

theorem crc_take (l : List UInt8) (k : Nat) (h : k < l.length) : sumB ones (l.take (k + 1)) = stepB (sumB ones (l.take k)) (at8 l k) := by
  rw [take_snoc8 l k h, sumB_snoc]

set_option maxHeartbeats 400000 in
theorem Sum_calls (A : Option Addr) (c : Nat) (l : List UInt8) (w : World) (hh : HalfIs w) (hb : Bytes w A l) (hl : l.length ≤ maxLen) :
    Calls Tryd.prog 10 #[.slice A l.length c] w fun e w' => e = .returned (.int .u32 (n32 (crc l))) ∧ w = w' := by
  unfold maxLen at hl
  have HH := Lib.hid hh
  have HB := Lib.hid hb
  clear hh hb
  go_enter Tryd.func10, Tryd.ntmps10
  go_wp2
  go_loop [3, 8] (fun h i => ∃ k : Nat, k ≤ l.length ∧ i = .int .i64 k ∧ h = .int .u32 (n32 (sumB ones (l.take k)))) (fun _ i => l.length - (intOf i).toNat)
  case atStart => exact ⟨0, Nat.zero_le _, rfl, rfl⟩
  case round =>
    obtain ⟨k, hk, rfl, rfl⟩ := hrel
    by_cases hlt : k < l.length
    · obtain ⟨ad, hA, hx⟩ := HB.out k hlt
      cases hA
      have hs := crc_take l k hlt
      have HS := Lib.hid hs
      clear hs
      go_wp2_with (go_at_call 25; refine (step_calls _ _ _ HH.out).mono ?_; rintro e w' ⟨rfl, rfl⟩)
      go_round
      case rel => exact ⟨k + 1, by omega, by go_num, by rw [HS.out]⟩
      case measure => simp [intOf]; omega
    · have en := not32 (sumB ones (l.take k))
      have HE := Lib.hid en
      clear en
      go_wp2
      go_ret
      exact ⟨ret_int (by rw [HE.out, List.take_of_length_le (by omega)]; rfl), rfl⟩

theorem Sum_calls' (A : Option Addr) (c : Nat) (l : List UInt8) (m : Nat) (w : World) (hm : m = l.length) (hh : HalfIs w) (hb : Bytes w A l) (hl : m ≤ maxLen) :
    Calls Tryd.prog 10 #[.slice A m c] w fun e w' => e = .returned (.int .u32 (n32 (crc l))) ∧ w = w' := by
  subst hm; exact Sum_calls A c l w hh hb hl

/-! ### the product, and powers -/
theorem xor32_poly (a : BitVec 32) : bits .xor .u32 (n32 a) (3988292384 : Int) = n32 (a ^^^ poly) := by
  rw [show (3988292384 : Int) = n32 poly from rfl, xor32]
attribute [local go_sem] signed_u32 xor32_poly xor32 and32_1 shr32_1 shr32_31 shl32_1 not32

theorem msb_bit (a : BitVec 32) : (n32 (a >>> 31) == 1) = a.getLsbD 31 := by
  unfold n32
  have h : a.getLsbD 31 = decide (a.toNat / 2 ^ 31 % 2 = 1) := by rw [BitVec.getLsbD, Nat.testBit_eq_decide_div_mod_eq]
  rw [h, BitVec.toNat_ushiftRight, Nat.shiftRight_eq_div_pow, Bool.eq_iff_iff, beq_iff_eq, decide_eq_true_iff]
  have := a.isLt
  omega
theorem lsb_bit (a : BitVec 32) : (n32 (a &&& 1#32) == 1) = a.getLsbD 0 := by
  unfold n32
  have h : a.getLsbD 0 = decide (a.toNat / 2 ^ 0 % 2 = 1) := by rw [BitVec.getLsbD, Nat.testBit_eq_decide_div_mod_eq]
  rw [h, BitVec.toNat_and, Bool.eq_iff_iff, beq_iff_eq, decide_eq_true_iff]
  have : a.toNat &&& (1#32).toNat = a.toNat % 2 := Nat.and_two_pow_sub_one_eq_mod a.toNat 1
  rw [this]
  omega
theorem zero_bit (a : BitVec 32) : (n32 a != 0) = (a != 0#32) := by
  rw [Bool.eq_iff_iff, bne_iff_ne, bne_iff_ne]
  have : n32 a = 0 ↔ a = 0#32 := ⟨fun h => n32_inj (by rw [h]; rfl), fun h => by rw [h]; rfl⟩
  rw [Ne, Ne, this]

/-- What is still to come of a product: rounds, the two numbers, what is summed so far. -/
def Left (total : BitVec 32) (g : Nat) (a b p : BitVec 32) : Prop := g ≤ 32 ∧ a <<< g = 0#32 ∧ Mt g a b ^^^ p = total
theorem Left.start (a b : BitVec 32) : Left (times a b) 32 a b 0#32 :=
  ⟨Nat.le_refl _, by apply BitVec.eq_of_getLsbD_eq; intro i hi; simp [hi], by simp [times]⟩
theorem Left.done {t : BitVec 32} {g : Nat} {b p : BitVec 32} (h : Left t g 0#32 b p) : p = t := by
  have := h.2.2; rw [Mt_zero] at this; simpa using this
theorem Left.step {t : BitVec 32} {g : Nat} {a b p : BitVec 32} (h : Left t g a b p) (ha : a ≠ 0#32) :
    ∃ k, g = k + 1 ∧ Left t k (a <<< 1) (D b) (if a.getLsbD 31 then p ^^^ b else p) := by
  obtain ⟨h1, h2, h3⟩ := h
  cases g with
  | zero => exact absurd (by simpa using h2) ha
  | succ k =>
    refine ⟨k, rfl, by omega, ?_, ?_⟩
    · rw [← h2, Nat.add_comm k 1, BitVec.shiftLeft_add]
    · rw [← h3, Mt]
      cases a.getLsbD 31
      · simp
      · simp only [if_true]; ac_rfl

set_option maxHeartbeats 400000 in
theorem times_calls (a b : BitVec 32) (w : World) :
    Calls Tryd.prog 27 #[.int .u32 (n32 a), .int .u32 (n32 b)] w fun e w' => e = .returned (.int .u32 (n32 (times a b))) ∧ w = w' := by
  have H := Lib.hid (Left.start a b)
  have ez : (0 : Int) = n32 0#32 := rfl
  have EZ := Lib.hid ez
  clear ez
  go_enter Tryd.func27, Tryd.ntmps27
  go_wp2
  go_loopg [0, 1, 5] 32 (fun g x y s wr => ∃ a' b' p : BitVec 32, x = .int .u32 (n32 a') ∧ y = .int .u32 (n32 b') ∧ s = .int .u32 (n32 p) ∧ Hid (Left (times a b) g a' b' p) ∧ w = wr)
  case atStart => exact ⟨a, b, 0#32, rfl, rfl, rfl, H, rfl⟩
  case round =>
    clear H
    obtain ⟨a', b', p, rfl, rfl, rfl, H, rfl⟩ := hrel
    have t0 := zero_bit a'
    by_cases hz : a' = 0#32
    · have t1 : (a' != 0#32) = false := by simpa using hz
      rw [t1] at t0
      have E : Hid (p = times a b) := (by subst hz; exact H.out.done)
      clear hz t1
      go_wp2
      go_ret
      exact ⟨ret_int (congrArg n32 E.out), rfl⟩
    · have t1 : (a' != 0#32) = true := by simpa using hz
      rw [t1] at t0
      obtain ⟨k, hk, H2⟩ := H.out.step hz
      have H2 := Lib.hid H2
      have HK := Lib.hid hk
      clear hz t1 H hk
      have tm := msb_bit a'
      have tl := lsb_bit b'
      cases hm : a'.getLsbD 31 <;> cases hl : b'.getLsbD 0
      all_goals
        rw [hm] at tm H2
        rw [hl] at tl
        have HL := Lib.hid hl
        clear hm hl
        go_wp2
        go_roundg k
        case measure => rw [HK.out]; omega
        case rel => exact ⟨a' <<< 1, D b', _, by first | rfl | rw [shl32_1], by unfold D; rw [HL.out]; first | rfl | simp, rfl, H2, rfl⟩

set_option maxHeartbeats 400000 in
theorem double_calls (a : Addr) (x : BitVec 32) (w : World) (hc : w.cell? a = some (.int .u32 (n32 x))) (hf : w.frozen? a = false) :
    Calls Tryd.prog 35 #[.pointer (some a)] w fun e w' => e = .returned (.tuple #[]) ∧ w.setCell a (.int .u32 (n32 (times x x))) = w' := by
  go_enter Tryd.func35, Tryd.ntmps35
  go_wp2_with (go_at_call 27; refine (times_calls _ _ _).mono ?_; rintro e w' ⟨rfl, rfl⟩)
  go_end0
  exact ⟨rfl, rfl⟩

/-- What is still to come of a power: the number's rest, what is done, the square. -/
def PLeft (N : Nat) (m s q : Nat) : Prop := s + q * m = N
theorem PLeft.odd {N m s q : Nat} (h : PLeft N m s q) (ho : m % 2 = 1) : PLeft N (m / 2) (s + q) (q + q) := by
  unfold PLeft at *
  have e : m = 2 * (m / 2) + 1 := by omega
  rw [e] at h
  rw [← h, Nat.mul_add, ← Nat.mul_assoc, Nat.mul_comm q 2, Nat.two_mul]
  omega
theorem PLeft.even {N m s q : Nat} (h : PLeft N m s q) (ho : m % 2 = 0) : PLeft N (m / 2) s (q + q) := by
  unfold PLeft at *
  have e : m = 2 * (m / 2) := by omega
  rw [e] at h
  rw [← h, ← Nat.mul_assoc, Nat.mul_comm q 2, Nat.two_mul]
theorem pow8_times (s q : Nat) : times (pow8 s) (pow8 q) = pow8 (s + q) := by
  rw [times_pow8, pow8, pow8, ← Dn_add]
  congr 1
  omega
theorem i64_and1 (m : Nat) (h : m ≤ 9223372036854775807) : bits .and .i64 (m : Int) (1 : Int) = ((m % 2 : Nat) : Int) := by
  unfold bits
  rw [show BitVec.ofInt IntKind.i64.bits 1 = 1#64 from rfl]
  have e : BitVec.ofInt IntKind.i64.bits (m : Int) = BitVec.ofNat 64 m := by
    show BitVec.ofInt 64 (m : Int) = _
    rw [BitVec.ofInt_natCast]
  rw [e]
  show IntKind.i64.wrap ((BitVec.ofNat 64 m &&& 1#64).toNat : Int) = _
  rw [BitVec.toNat_and, BitVec.toNat_ofNat, Nat.mod_eq_of_lt (by omega : m < 2 ^ 64)]
  have e2 : m &&& (1#64).toNat = m % 2 := Nat.and_two_pow_sub_one_eq_mod m 1
  rw [e2]
  exact IntWalk.i64_in _ (by omega)

set_option maxHeartbeats 400000 in
theorem power_calls (n : Int) (w : World) (hn : n ≤ 9223372036854775807) :
    Calls Tryd.prog 28 #[.int .i64 n] w fun e w' => e = .returned (.int .u32 (n32 (pow8 n.toNat))) ∧ Below w.heap.size w w' := by
  have hp0 : (2147483648 : Int) = n32 (pow8 0) := by decide
  have hp1 : (8388608 : Int) = n32 (pow8 1) := by decide
  have HP0 := Lib.hid hp0
  have HP1 := Lib.hid hp1
  clear hp0 hp1
  go_enter Tryd.func28, Tryd.ntmps28
  go_wp2
  go_loopg [0, 3] n.toNat (fun g x p wr => ∃ (x0 : Int) (s q : Nat), x = .int .i64 x0 ∧ p = .int .u32 (n32 (pow8 s)) ∧ x0 ≤ 9223372036854775807 ∧ x0.toNat ≤ g ∧ Hid (PLeft n.toNat x0.toNat s q) ∧ w.alloc (.cells #[.int .u32 (n32 (pow8 q))] 23) = wr)
  case atStart => exact ⟨n, 0, 1, rfl, by rw [HP0.out], hn, Nat.le_refl _, by show PLeft _ _ _ _; unfold PLeft; simp, by rw [HP1.out]⟩
  case round =>
    obtain ⟨x0, s, q, rfl, rfl, hx, hg, H, rfl⟩ := hrel
    by_cases hpos : 0 < x0
    · obtain ⟨m, rfl⟩ := Int.eq_ofNat_of_zero_le (Int.le_of_lt hpos)
      rw [Int.toNat_natCast] at H hg
      have ea := i64_and1 m (by omega)
      have hq : ((m : Int) / 2).toNat = m / 2 := by omega
      have HM := Lib.hid hq
      clear hq
      have HQ := Lib.hid (pow8_times q q)
      have hd := double_calls ⟨w.heap.size, 0, none⟩ (pow8 q) (w.alloc (.cells #[.int .u32 (n32 (pow8 q))] 23)) (by simp) (by simp)
      have HD := Lib.hid hd
      clear hd
      rcases Nat.mod_two_eq_zero_or_one m with ho | ho
      · have H2 := Lib.hid (H.out.even ho)
        rw [ho] at ea
        clear ho H
        go_wp2_with (go_at_call 35; refine HD.out.mono ?_; rintro e w' ⟨rfl, rfl⟩)
        go_roundg (m / 2)
        case measure => omega
        case rel => exact ⟨(m : Int) / 2, s, q + q, rfl, rfl, by omega, by rw [HM.out]; omega, by rw [HM.out]; exact H2, by rw [HQ.out]⟩
      · have H2 := Lib.hid (H.out.odd ho)
        have HS := Lib.hid (pow8_times s q)
        rw [ho] at ea
        clear ho H
        go_wp2_with (first | (go_at_call 27; refine (times_calls _ _ _).mono ?_; rintro e w' ⟨rfl, rfl⟩) | (go_at_call 35; refine HD.out.mono ?_; rintro e w' ⟨rfl, rfl⟩))
        go_roundg (m / 2)
        case measure => omega
        case rel => exact ⟨(m : Int) / 2, s + q, q + q, rfl, by rw [HS.out], by omega, by rw [HM.out]; omega, by rw [HM.out]; exact H2, by rw [HQ.out]⟩
    · have hz : x0.toNat = 0 := by omega
      have E : Hid (pow8 s = pow8 n.toNat) := (by have h := H.out; rw [hz] at h; unfold PLeft at h; exact congrArg pow8 (by omega))
      clear hz
      go_wp2
      go_ret
      exact ⟨ret_int (congrArg n32 E.out), (Below.refl _ _).alloc (Nat.le_refl _) _⟩

set_option maxHeartbeats 400000 in
theorem Noughts_calls (a : BitVec 32) (n : Int) (w : World) (hn : n ≤ 9223372036854775807) :
    Calls Tryd.prog 14 #[.int .u32 (n32 a), .int .i64 n] w fun e w' => e = .returned (.int .u32 (n32 (noughts a n))) ∧ Below w.heap.size w w' := by
  have ht := Lib.hid (times_pow8 n.toNat (~~~ a))
  go_enter Tryd.func14, Tryd.ntmps14
  go_wp2_with (first | (go_at_call 27; refine (times_calls _ _ _).mono ?_; rintro e w' ⟨rfl, rfl⟩) | (go_at_call 28; refine (power_calls _ _ hn).mono ?_; rintro e w' ⟨rfl, hb⟩))
  go_ret
  exact ⟨ret_int (by rw [ht.out]; rfl), hb⟩

set_option maxHeartbeats 400000 in
theorem Join_calls (a b : BitVec 32) (n : Int) (w : World) (hn : n ≤ 9223372036854775807) :
    Calls Tryd.prog 13 #[.int .u32 (n32 a), .int .u32 (n32 b), .int .i64 n] w fun e w' => e = .returned (.int .u32 (n32 (join a b n))) ∧ Below w.heap.size w w' := by
  have ht := Lib.hid (times_pow8 n.toNat a)
  go_enter Tryd.func13, Tryd.ntmps13
  go_wp2_with (first | (go_at_call 27; refine (times_calls _ _ _).mono ?_; rintro e w' ⟨rfl, rfl⟩) | (go_at_call 28; refine (power_calls _ _ hn).mono ?_; rintro e w' ⟨rfl, hb⟩))
  go_ret
  exact ⟨ret_int (by rw [ht.out]; rfl), hb⟩
end Go.Proofs.YtgodnmlggomaaaaDoor.Crc
