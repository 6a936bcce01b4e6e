/- The walks of bytes.TrimLeft (one byte), bytes.Equal. -/
import Derived.Test.YtcgjejpekefjdaaDoorCrcK
set_option linter.unusedSimpArgs false
set_option linter.unusedVariables false
namespace Go.Proofs.YtcgjejpekefjdaaDoor
open Go.RowKit Go.Proofs.YtcgjejpekefjdaaDoor.Crc
def sliceLen_ : Value → Nat
  | .slice _ n _ => n
  | _ => 0
def zeroB (l : List UInt8) : Bool := l.all (· == 0)
theorem dropWhile_zero (l : List UInt8) : ((l.dropWhile (· == 0)).length = 0) ↔ zeroB l = true := by
  unfold zeroB
  induction l with
  | nil => simp
  | cons x l ih =>
    rw [List.dropWhile_cons, List.all_cons]
    cases h : (x == (0 : UInt8))
    · simp
    · simpa using ih
set_option maxHeartbeats 1000000 in
theorem trimByte_calls (A : Option Addr) (n c : Nat) (l : List UInt8) (w : World) (hn : n = l.length) (hb : Bytes w A l) (hc : n ≤ c) (hm : c ≤ 9223372036854775807) :
    Calls Tryd.prog 85 #[.slice A n c, .int .u8 0] w fun e w' => (∃ A' c', e = .returned (.slice A' (l.dropWhile (· == 0)).length c')) ∧ w = w' := by
  subst hn
  have HB := Lib.hid hb
  clear hb
  go_enter Tryd.func85, Tryd.ntmps85
  go_wp2_with fail
  go_loop [0] (fun v => ∃ (A' : Option Addr) (m c' : Nat) (r : List UInt8), v = .slice A' m c' ∧ m ≤ c' ∧ c' ≤ 9223372036854775807 ∧ Hid (m = r.length ∧ Bytes w A' r ∧ r.dropWhile (· == 0) = l.dropWhile (· == 0))) (fun v => sliceLen_ v)
  case atStart => exact ⟨A, l.length, c, l, rfl, hc, hm, rfl, HB.out, rfl⟩
  case round =>
    obtain ⟨A', m, c', r, rfl, hmc, hcm, HR⟩ := hrel
    cases r with
    | nil =>
      obtain rfl : m = 0 := HR.out.1
      go_wp2_with fail
      go_ret
      have e := HR.out.2.2
      refine ⟨⟨none, 0, ?_⟩, rfl⟩
      rw [← e]; rfl
    | cons x r =>
      obtain ⟨b, o, rfl⟩ := HR.out.2.1.spot (by simp)
      have hm0 : 0 < m := by rw [HR.out.1]; simp
      obtain ⟨ad, hA, hx⟩ := HR.out.2.1 0 (by simp)
      cases hA
      rw [Addr.add_lit, Nat.add_zero] at hx
      replace hx : w.cell? ⟨b, o, none⟩ = some (.int .u8 (x.toNat : Int)) := hx
      cases hx0 : (x == (0 : UInt8))
      · have h1 : ((x.toNat : Int) == 0) = false := by
          simp at hx0 ⊢
          intro h
          exact hx0 (UInt8.toNat_inj.1 (by simpa using h))
        have h2 : ((m : Int) == 0) = false := by simp; omega
        have HX := Lib.hid hx0
        clear hx0
        go_wp2_with fail
        go_ret
        have e := HR.out.2.2
        rw [List.dropWhile_cons, HX.out] at e
        refine ⟨⟨some ⟨b, o, none⟩, c', ?_⟩, rfl⟩
        · rw [← e, if_neg (by simp), ← HR.out.1]; rfl
      · obtain rfl : x = 0 := by simpa using hx0
        have hN : Hid (m - 1 = r.length ∧ Bytes w (some ⟨b, o + 1, none⟩) r ∧ r.dropWhile (· == 0) = l.dropWhile (· == 0)) :=
          ⟨by rw [HR.out.1]; simp, by simpa using HR.out.2.1.drop 1, by have := HR.out.2.2; rw [List.dropWhile_cons] at this; simpa using this⟩
        by_cases hc1 : c' = 1
        · obtain rfl : m = 1 := by omega
          have hr : r = [] := by have := HR.out.1; simpa using this
          subst hr
          subst hc1
          have hN2 : Hid (0 = ([] : List UInt8).length ∧ Bytes w (some ⟨b, o, none⟩) [] ∧ ([] : List UInt8).dropWhile (· == 0) = l.dropWhile (· == 0)) := ⟨rfl, Bytes.nil _ _, hN.out.2.2⟩
          clear HR hx0 hN
          go_wp2_with fail
          go_round
          case rel => exact ⟨_, 0, 0, [], rfl, by omega, by omega, hN2⟩
          case measure => simp [sliceLen_]
        · clear HR hx0
          go_wp2_with fail
          go_round
          case rel => exact ⟨_, m - 1, c' - 1, r, rfl, by omega, by omega, hN⟩
          case measure => simp [sliceLen_]; omega
set_option maxHeartbeats 400000 in
set_option maxRecDepth 100000 in
theorem trimLeft_calls (A : Option Addr) (n c : Nat) (l : List UInt8) (w : World) (hn : n = l.length) (hb : Bytes w A l) (hc : n ≤ c) (hm : c ≤ 9223372036854775807) :
    Calls Tryd.prog 81 #[.slice A n c, .string ⟨#[0]⟩] w fun e w' => (∃ A' c', e = .returned (.slice A' (l.dropWhile (· == 0)).length c')) ∧ w = w' := by
  have HC := Lib.hid (trimByte_calls A n c l w hn hb hc hm)
  by_cases h0 : n = 0
  · have hl : l = [] := by rw [h0] at hn; exact List.eq_nil_of_length_eq_zero hn.symm
    subst hl
    subst h0
    clear hb hn
    go_enter Tryd.func81, Tryd.ntmps81
    go_wp2_with fail
    go_ret
    exact ⟨⟨none, 0, rfl⟩, rfl⟩
  · have h2 : ((n : Int) == 0) = false := by simp; omega
    clear hb hn
    go_enter Tryd.func81, Tryd.ntmps81
    go_wp2_with (go_at_call 85; refine HC.out.mono ?_; rintro e w' ⟨⟨A', c', rfl⟩, rfl⟩)
    go_ret
    exact ⟨⟨A', c', rfl⟩, rfl⟩
set_option maxHeartbeats 400000 in
theorem equal_calls (A : Option Addr) (n c : Nat) (l : List UInt8) (B : Option Addr) (m d : Nat) (k : List UInt8) (w : World) (hn : n = l.length) (hb : Bytes w A l) (hm : m = k.length) (hk : Bytes w B k) :
    Calls Tryd.prog 70 #[.slice A n c, .slice B m d] w fun e w' => e = .returned (.bool (l == k)) ∧ w = w' := by
  have h1 := run_str (c := c) hn hb
  have h2 := run_str (c := d) hm hk
  have e := Lib.hid (show ((bstr l).toList == (bstr k).toList) = (l == k) by rw [bstr_toList, bstr_toList])
  clear hb hk hn hm
  go_enter Tryd.func70, Tryd.ntmps70
  go_wp2_with fail
  go_ret
  refine ⟨?_, rfl⟩
  rw [← e.out]
  rfl
end Go.Proofs.YtcgjejpekefjdaaDoor
