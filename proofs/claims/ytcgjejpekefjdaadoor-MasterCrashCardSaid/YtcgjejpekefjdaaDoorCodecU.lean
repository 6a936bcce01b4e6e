/- The walks of codec: numbers of whatever size. -/
import Derived.Test.YtcgjejpekefjdaaDoorCodec
set_option linter.unusedSimpArgs false
set_option linter.unusedVariables false
namespace Go.Proofs.YtcgjejpekefjdaaDoor
open Go.RowKit Go.Proofs.YtcgjejpekefjdaaDoor.Crc
/-- A number of whatever size, put: seven bits a byte, the lowest ahead. -/
def putU (n : Nat) : List UInt8 := if h : n < 128 then [UInt8.ofNat n] else UInt8.ofNat (n % 128 + 128) :: putU (n / 128)
termination_by n
decreasing_by omega
theorem putU_small (n : Nat) (h : n < 128) : putU n = [UInt8.ofNat n] := by rw [putU, dif_pos h]
theorem putU_big (n : Nat) (h : ¬ n < 128) : putU n = UInt8.ofNat (n % 128 + 128) :: putU (n / 128) := by rw [putU, dif_neg h]
theorem putU_len (k n : Nat) (h : n < 128 ^ (k + 1)) : (putU n).length ≤ k + 1 := by
  induction k generalizing n with
  | zero => rw [putU_small n (by simpa using h)]; simp
  | succ k ih =>
    by_cases hn : n < 128
    · rw [putU_small n hn]; simp
    · rw [putU_big n hn, List.length_cons]
      have := ih (n / 128) (by rw [Nat.pow_succ] at h; exact Nat.div_lt_of_lt_mul (by rw [Nat.mul_comm]; exact h))
      omega
theorem putU_len10 (n : Nat) (h : n < 18446744073709551616) : (putU n).length ≤ 10 := putU_len 9 n (by rw [show (128 : Nat) ^ (9 + 1) = 1180591620717411303424 from by decide]; omega)
theorem putU_pos (n : Nat) : 0 < (putU n).length := by
  by_cases hn : n < 128
  · rw [putU_small n hn]; simp
  · rw [putU_big n hn]; simp
theorem or128 (x : Nat) (h : x < 256) : bits .or .u8 (x : Int) 128 = ((UInt8.ofNat (x % 128 + 128)).toNat : Int) := by
  have : ∀ x : Nat, x < 256 → bits .or .u8 (x : Int) 128 = ((UInt8.ofNat (x % 128 + 128)).toNat : Int) := by decide +kernel
  exact this x h
theorem and127 (x : UInt8) : bits .and .u8 (x.toNat : Int) 127 = ((x.toNat % 128 : Nat) : Int) := by
  have : ∀ x : Nat, x < 256 → bits .and .u8 (x : Int) 127 = ((x % 128 : Nat) : Int) := by decide +kernel
  exact this x.toNat x.toNat_lt
theorem grown_below {B : Nat} {w w' : World} {row : Option Nat} (h : w.grownBy w' row) (hB : B ≤ w.heap.size) (hr : ∀ k, row = some k → B ≤ k) : Below B w w' := (Below.refl _ _).grown h hB hr
set_option maxRecDepth 10000 in
set_option maxHeartbeats 1000000 in
theorem PutUint_calls (base : Nat) (v : Value) (acc : List UInt8) (n : Nat) (w : World) (hv : OwnB w base v acc) (hbase : base ≤ w.heap.size) (hacc : acc.length ≤ 1000000) (hn : n < 18446744073709551616) :
    Calls Tryd.prog 39 #[v, .int .u64 (n : Int)] w fun e w' => ∃ v', e = .returned v' ∧ OwnB w' base v' (acc ++ putU n) ∧ Below base w w' := by
  have HL := Lib.hid (show (acc ++ putU n).length ≤ 1000010 by have := putU_len10 n hn; rw [List.length_append]; omega)
  have H0 := Lib.hid hv
  have HS := Lib.hid hbase
  clear hv hbase hacc
  go_enter Tryd.func39, Tryd.ntmps39
  go_wp2_with fail
  go_loopw [0, 1] (fun u i wr => ∃ (m : Nat) (ac : List UInt8), m < 18446744073709551616 ∧ i = .int .u64 (m : Int) ∧ Hid (ac ++ putU m = acc ++ putU n ∧ OwnB wr base u ac ∧ Below base w wr)) (fun _ i _ => (intOf i).toNat)
  case atStart => exact ⟨n, acc, hn, rfl, rfl, H0.out, Below.refl _ _⟩
  case round =>
    obtain ⟨m, ac, hm, rfl, HR⟩ := hrel
    have hl1 : Hid (ac.length + 1 ≤ 1000010) := Lib.hid (by have h1 := congrArg List.length HR.out.1; have h2 := HL.out; have h3 := putU_pos m; rw [List.length_append] at h1; omega)
    by_cases h0 : m < 128
    · have hb8 := Lib.hid (show (m : Int) = ((UInt8.ofNat m).toNat : Int) by simp; omega)
      go_wp2_with (with_reducible refine park_append ?_; intro q hq)
      refine hq.out ?_
      clear hq
      have hby : Bytes (wr.alloc (Obj.cells #[Value.int IntKind.u8 (m : Int)] 5)) (some ⟨wr.heap.size, 0, none⟩) [UInt8.ofNat m] := bytes_of_block (heap_alloc_new wr _) (by rw [hb8.out]; rfl)
      refine wpList_append_bytes rfl _ _ rfl base u0 ac rfl (HR.out.2.1.alloc _) (some ⟨wr.heap.size, 0, none⟩) 1 1 [UInt8.ofNat m] rfl rfl (fun h => by cases h) hby (by have := hl1.out; simp; omega) (by have h1 := HR.out.2.2.size; have h2 := HS.out; simp; omega) ?_
      intro v2 w2 hown2 hg2 _
      have HN : Hid (OwnB w2 base v2 (acc ++ putU n) ∧ Below base w w2) :=
        ⟨by rw [← HR.out.1, putU_small m h0]; exact hown2, (HR.out.2.2.alloc (Nat.le_trans HS.out HR.out.2.2.size) _).grown hg2 (by have h1 := HR.out.2.2.size; have h2 := HS.out; simp; omega) (fun j hj => (HR.out.2.1.lt j hj).1)⟩
      clear hown2 hg2 HR hby
      go_wp2
      go_ret
      exact ⟨v2, rfl, HN.out.1, HN.out.2⟩
    · have h128 := Lib.hid (show bits .or .u8 ((m : Int) % 256) 128 = ((UInt8.ofNat (m % 128 + 128)).toNat : Int) by
        rw [show (m : Int) % 256 = ((m % 256 : Nat) : Int) by omega, or128 (m % 256) (Nat.mod_lt _ (by decide))]
        congr 3; omega)
      have hsh := Lib.hid (show (m : Int) / 128 = ((m / 128 : Nat) : Int) by omega)
      go_wp2_with (with_reducible refine park_append ?_; intro q hq)
      refine hq.out ?_
      clear hq
      rw [h128.out]
      refine wpList_append_bytes rfl _ _ rfl base u0 ac rfl (HR.out.2.1.alloc _) (some ⟨wr.heap.size, 0, none⟩) 1 1 [UInt8.ofNat (m % 128 + 128)] rfl rfl (fun h => by cases h) (bytes_of_block (heap_alloc_new wr _) rfl) (by have := hl1.out; simp; omega) (by have h1 := HR.out.2.2.size; have h2 := HS.out; simp; omega) ?_
      intro v2 w2 hown2 hg2 _
      have HN : Hid ((ac ++ [UInt8.ofNat (m % 128 + 128)]) ++ putU (m / 128) = acc ++ putU n ∧ OwnB w2 base v2 (ac ++ [UInt8.ofNat (m % 128 + 128)]) ∧ Below base w w2) :=
        ⟨by rw [← HR.out.1, putU_big m h0, List.append_assoc]; rfl, hown2, (HR.out.2.2.alloc (Nat.le_trans HS.out HR.out.2.2.size) _).grown hg2 (by have h1 := HR.out.2.2.size; have h2 := HS.out; simp; omega) (fun j hj => (HR.out.2.1.lt j hj).1)⟩
      clear hown2 hg2 HR h128
      go_wp2
      go_roundw
      case rel => exact ⟨m / 128, _, by omega, by rw [← hsh.out], HN⟩
      case measure => simp [intOf]; omega
end Go.Proofs.YtcgjejpekefjdaaDoor
