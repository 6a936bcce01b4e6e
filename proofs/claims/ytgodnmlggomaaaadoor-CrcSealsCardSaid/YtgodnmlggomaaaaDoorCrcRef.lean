/- The walks of the document's own answers for the sums. -/
import Derived.Test.YtgodnmlggomaaaaDoorCrcLaw
namespace Go.Proofs.YtgodnmlggomaaaaDoor.Crc
open Go.RowKit Go.Proofs.YtgodnmlggomaaaaDoor
set_option linter.unusedSimpArgs false
set_option linter.unusedVariables false
attribute [local go_sem] signed_u32 xor32_poly xor32 shr32_1

theorem lsb_rem (a : BitVec 32) : (n32 a % (2 : Int) == 1) = a.getLsbD 0 := by
  unfold n32
  have h : a.getLsbD 0 = decide (a.toNat / 2 ^ 0 % 2 = 1) := by rw [BitVec.getLsbD, Nat.testBit_eq_decide_div_mod_eq]
  rw [h, Bool.eq_iff_iff, beq_iff_eq, decide_eq_true_iff]
  omega

set_option maxHeartbeats 400000 in
theorem refdown_calls (h : BitVec 32) (w : World) :
    Calls Tryd.prog 34 #[.int .u32 (n32 h)] w fun e w' => e = .returned (.int .u32 (n32 (D h))) ∧ w = w' := by
  have t := lsb_rem h
  have b1 := n32_lo h
  have b2 := n32_hi h
  cases hl : h.getLsbD 0
  all_goals
    rw [hl] at t
    have HL := Lib.hid hl
    clear hl
    go_enter Tryd.func34, Tryd.ntmps34
    go_wp2
    go_ret
    exact ⟨ret_int (by unfold D; rw [HL.out]; first | rfl | (simp; done) | (simp; exact shr32_1 h)), rfl⟩

theorem raw_take (h : BitVec 32) (l : List UInt8) (k : Nat) (hk : k < l.length) : sumB h (l.take (k + 1)) = Dn 8 (sumB h (l.take k) ^^^ (at8 l k).toBitVec.setWidth 32) := by
  rw [take_snoc8 l k hk, sumB_snoc]; rfl

set_option maxHeartbeats 1000000 in
theorem refRaw_calls (h : BitVec 32) (A : Option Addr) (c m : Nat) (l : List UInt8) (w : World) (hm : m = l.length) (hb : Bytes w A l) (hl : m ≤ 9223372036854775807) :
    Calls Tryd.prog 26 #[.int .u32 (n32 h), .slice A m c] w fun e w' => e = .returned (.int .u32 (n32 (sumB h l))) ∧ w = w' := by
  subst hm
  have HB := Lib.hid hb
  clear hb
  go_enter Tryd.func26, Tryd.ntmps26
  go_wp2
  go_loop [0, 5] (fun x i => ∃ k : Nat, k ≤ l.length ∧ i = .int .i64 k ∧ x = .int .u32 (n32 (sumB h (l.take k)))) (fun _ i => l.length - (intOf i).toNat)
  case atStart => exact ⟨0, Nat.zero_le _, rfl, rfl⟩
  case round =>
    obtain ⟨k, hk, rfl, rfl⟩ := hrel
    by_cases hlt : k < l.length
    · obtain ⟨ad, hA, hx⟩ := HB.out k hlt
      cases hA
      have HS := Lib.hid (raw_take h l k hlt)
      obtain ⟨y, hy⟩ : ∃ y, y = sumB h (l.take k) ^^^ (at8 l k).toBitVec.setWidth 32 := ⟨_, rfl⟩
      have e1 : bits .xor .u32 (n32 (sumB h (l.take k))) ((at8 l k).toNat : Int) = n32 y := by rw [hy]; exact xor32_u8 _ _
      have HY := Lib.hid hy
      clear hy
      obtain ⟨b1, b2⟩ := ltu8 (at8 l k)
      go_wp2
      go_loop [0, 6] (fun x j => ∃ q : Nat, q ≤ 8 ∧ j = .int .i64 q ∧ x = .int .u32 (n32 (Dn q y))) (fun _ j => 8 - (intOf j).toNat)
      case atStart => exact ⟨0, by decide, rfl, rfl⟩
      case round =>
        obtain ⟨q, hq, rfl, rfl⟩ := hrel
        by_cases hlq : q < 8
        · have HD := Lib.hid (Dn_succ' q y)
          go_wp2_with (go_at_call 34; refine (refdown_calls _ _).mono ?_; rintro e w' ⟨rfl, rfl⟩)
          go_round
          case rel => exact ⟨q + 1, by omega, by go_num, by rw [HD.out]⟩
          case measure => simp [intOf]; omega
        · have hq8 : q = 8 := by omega
          have HE : Hid (n32 (Dn q y) = n32 (sumB h (l.take (k + 1)))) := by show _ = _; rw [HS.out, ← HY.out, hq8]
          clear hq8
          go_wp2
          go_round
          case rel => exact ⟨k + 1, by omega, by go_num, by rw [HE.out]⟩
          case measure => simp [intOf]; omega
    · go_wp2
      go_ret
      exact ⟨ret_int (by rw [List.take_of_length_le (by omega)]), rfl⟩

set_option maxHeartbeats 400000 in
theorem refSum_calls (A : Option Addr) (c m : Nat) (l : List UInt8) (w : World) (hm : m = l.length) (hb : Bytes w A l) (hl : m ≤ 9223372036854775807) :
    Calls Tryd.prog 11 #[.slice A m c] w fun e w' => e = .returned (.int .u32 (n32 (crc l))) ∧ w = w' := by
  have HB := Lib.hid hb
  have HM := Lib.hid hm
  clear hb hm
  have en := not32 (sumB ones l)
  have C := Lib.hid (show Calls Tryd.prog 26 #[.int .u32 4294967295, .slice A m c] w fun e w' => e = .returned (.int .u32 (n32 (sumB ones l))) ∧ w = w' from refRaw_calls ones A c m l w HM.out HB.out hl)
  go_enter Tryd.func11, Tryd.ntmps11
  go_wp2_with (go_at_call 26; refine C.out.mono ?_; rintro e w' ⟨rfl, rfl⟩)
  go_ret
  exact ⟨rfl, rfl⟩

theorem Dn_8 (a : BitVec 32) (n : Nat) : Dn (8 * (n + 1)) a = sumB (Dn (8 * n) a) [0] := by
  rw [show [0] = List.replicate 1 (0 : UInt8) from rfl, sumB_zeros, ← Dn_add, Nat.mul_add]
theorem bytes_one {w : World} : Bytes (w.alloc (.cells #[.int .u8 0] 5)) (some ⟨w.heap.size, 0, none⟩) [0] := bytes_of_block (heap_alloc_new w _) rfl

set_option maxHeartbeats 400000 in
theorem refNoughts_calls (a : BitVec 32) (n : Int) (w : World) (hn : n ≤ 9223372036854775807) :
    Calls Tryd.prog 15 #[.int .u32 (n32 a), .int .i64 n] w fun e w' => e = .returned (.int .u32 (n32 (noughts a n))) ∧ Below w.heap.size w w' := by
  have en := not32 a
  have h0 : Hid (~~~ a = Dn (8 * 0) (~~~ a)) := rfl
  go_enter Tryd.func15, Tryd.ntmps15
  go_wp2
  go_loopw [5, 6] (fun x i wr => ∃ k : Nat, k ≤ n.toNat ∧ i = .int .i64 k ∧ x = .int .u32 (n32 (Dn (8 * k) (~~~ a))) ∧ Hid (Below w.heap.size w wr)) (fun _ i _ => n.toNat - (intOf i).toNat)
  case atStart => exact ⟨0, Nat.zero_le _, rfl, rfl, Below.refl _ _⟩
  case round =>
    obtain ⟨k, hk, rfl, rfl, hB⟩ := hrel
    by_cases hlt : (k : Int) < n
    · have HD := Lib.hid (Dn_8 (~~~ a) k)
      generalize hx : Dn (8 * k) (~~~ a) = x at *
      clear hx
      go_wp2_with (go_at_call 26; refine (refRaw_calls _ _ _ _ [0] _ rfl bytes_one (by decide)).mono ?_; rintro e w' ⟨rfl, rfl⟩)
      go_roundw
      case rel => exact ⟨k + 1, by omega, by go_num, by rw [HD.out], hB.out.alloc hB.out.size _⟩
      case measure => simp [intOf]; omega
    · have hk2 : k = n.toNat := by omega
      have en := not32 (Dn (8 * k) (~~~ a))
      have HE : Hid (~~~ Dn (8 * k) (~~~ a) = noughts a n) := by show _ = _; rw [hk2]; rfl
      clear hk2
      go_wp2
      go_ret
      exact ⟨ret_int (by rw [HE.out]), hB.out⟩

theorem refNoughts0_calls (n : Int) (w : World) (hn : n ≤ 9223372036854775807) :
    Calls Tryd.prog 15 #[.int .u32 0, .int .i64 n] w fun e w' => e = .returned (.int .u32 (n32 (noughts 0#32 n))) ∧ Below w.heap.size w w' :=
  refNoughts_calls 0#32 n w hn

set_option maxHeartbeats 400000 in
theorem refJoin_calls (a b : BitVec 32) (n : Int) (w : World) (hn : n ≤ 9223372036854775807) :
    Calls Tryd.prog 16 #[.int .u32 (n32 a), .int .u32 (n32 b), .int .i64 n] w fun e w' => e = .returned (.int .u32 (n32 (join a b n))) ∧ Below w.heap.size w w' := by
  have HJ := Lib.hid (join_noughts a b n)
  have h0 := hid0 w
  go_enter Tryd.func16, Tryd.ntmps16
  go_wp2_with (go_at_call 15; (first | (with_reducible refine (from0 (by assumption) (refNoughts_calls _ _ _ hn)).mono ?_) | (with_reducible refine (from0 (by assumption) (refNoughts0_calls _ _ hn)).mono ?_)); rintro e w1 ⟨rfl, hb1⟩)
  go_ret
  exact ⟨ret_int (by rw [HJ.out]), by assumption⟩
end Go.Proofs.YtgodnmlggomaaaaDoor.Crc
