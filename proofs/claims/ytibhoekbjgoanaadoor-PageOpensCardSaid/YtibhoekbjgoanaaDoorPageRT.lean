/- The document's pages: Taken; an append as one step of a region. -/
import Derived.Test.YtibhoekbjgoanaaDoorPageF
import Derived.Test.YtibhoekbjgoanaaDoorStampR
set_option linter.unusedSimpArgs false
set_option linter.unusedVariables false
namespace Go.Proofs.YtibhoekbjgoanaaDoor
open Go.RowKit Go.Proofs.YtibhoekbjgoanaaDoor.Crc
set_option maxHeartbeats 1000000 in
theorem refTaken_calls (A : Option Addr) (n c : Nat) (ls : List (List UInt8)) (w : World) (hn : n = ls.length) (hR : RowsB w A ls) (hs : 2 * ls.length + sizC ls ≤ 9223372036854775807) :
    Calls Tryd.prog 36 #[.slice A n c] w fun e w' => e = .returned (.int .i64 ((2 * ls.length + sizC ls : Nat) : Int)) ∧ w = w' := by
  have HR := Lib.hid hR
  have HN := Lib.hid hn
  have hn2 : n ≤ 4611686018427387903 := by omega
  obtain ⟨T, hT⟩ : ∃ T, 2 * ls.length + sizC ls = T := ⟨_, rfl⟩
  rw [hT] at hs ⊢
  have HT := Lib.hid hT
  clear hn hR hT
  go_enter Tryd.func36, Tryd.ntmps36
  go_wp2_with fail
  go_loop [3, 4] (fun t i => ∃ k S : Nat, k ≤ n ∧ S ≤ T ∧ i = .int .i64 (k : Int) ∧ t = .int .i64 (S : Int) ∧ Hid (S = 2 * k + sizC (ls.take k))) (fun _ i => n - (intOf i).toNat)
  case atStart => exact ⟨0, 0, Nat.zero_le _, Nat.zero_le _, rfl, rfl, rfl⟩
  case round =>
    obtain ⟨k, S, hk, hS, rfl, rfl, HS⟩ := hrel
    by_cases hlt : k < n
    · obtain ⟨b, o, rfl⟩ := HR.out.spot (by rw [← HN.out]; omega)
      obtain ⟨Ai, ci, hc, hs⟩ := HR.out.at k (by rw [← HN.out]; exact hlt)
      have hkl : k < ls.length := by rw [← HN.out]; exact hlt
      have hst : ls.take (k + 1) = ls.take k ++ [ls[k]] := List.take_succ_eq_append_getElem hkl
      have hle := sizC_take_all ls (k + 1)
      rw [hst, sizC_append, sizC_cons, sizC_nil, Nat.add_zero] at hle
      obtain ⟨m, hm⟩ : ∃ m, ls[k].length = m := ⟨_, rfl⟩
      rw [hm] at hc hle
      have hnext : S + 2 + m = 2 * (k + 1) + sizC (ls.take (k + 1)) := by rw [hst, sizC_append, sizC_cons, sizC_nil, hm, HS.out]; omega
      have hb1 : S + 2 + m ≤ T := by rw [hnext, ← HT.out, hst, sizC_append, sizC_cons, sizC_nil, hm]; omega
      have HNx := Lib.hid hnext
      clear hs hst hle hm hnext hkl
      go_wp2_with fail
      go_round
      case rel => exact ⟨k + 1, S + 2 + m, by omega, hb1, by go_num, by go_num, HNx⟩
      case measure => simp [intOf]; omega
    · obtain rfl : k = n := by omega
      have hST : S = T := by rw [HS.out, ← HT.out, List.take_of_length_le (by rw [HN.out]; exact Nat.le_refl _), HN.out]
      subst hST
      go_wp2_with fail
      go_ret
      exact ⟨rfl, rfl⟩
theorem fixB_two (n : Nat) : fixB n 2 = w2 n := by
  show [byteAt n 1, byteAt n 0] = _
  unfold byteAt w2
  simp
theorem u8_wrap (n : Nat) : IntKind.u8.wrap (n : Int) = ((UInt8.ofNat n).toNat : Int) := by simp only [IntKind.wrap, IntKind.bits, IntKind.signed]; simp
/-- append of bytes, as one step of a region. -/
theorem step_append_bytes {ops : Array Oper} {o : Oper} {a : Act} {w : World} {K : Act → World → Prop} {Q : Exit → Act → World → Prop} {E : Prop} (hgd : o.guard = none) (s x : Operand)
    (ho : o.op = .call { callee := .builtin .append, args := #[s, x], argTypes := #[23, 23] })
    (base : Nat) (v : Value) (l : List UInt8) (hs : a.eval s = v) (hown : OwnB w base v l)
    (ad : Addr) (m c : Nat) (l' : List UInt8) (hx : a.eval x = .slice (some ad) m c) (hm : m = l'.length) (hb : Bytes w (some ad) l')
    (hbytes : l.length + l'.length ≤ 140737488355328) (hbase : base ≤ w.heap.size)
    (h : ∀ v' w', Hid (OwnB w' base v' (l ++ l') ∧ w.grownBy w' v.ownBlock) → K (a.put o.dst v') w') : if Region.wanted o (yielded ops a.tmps) = true then Oper.wp Tryd.prog o a w K Q else E := by
  obtain ⟨i, hi, hz0, hz1, hz2⟩ := info_parts info8
  subst hm
  have hw : Region.wanted o (yielded ops a.tmps) = true := by simp [Region.wanted, hgd]
  rw [if_pos hw]
  refine wp_append_own w s x _ ho base 5 i (.int .u8 0) 1 1 Tryd.underlying23 hi hz0 hz1 hz2 rfl (by decide) v l.length (cells8 l) hs hown ad l'.length c (cells8 l') hx (by rw [cells8_length, Nat.mul_one]) ?_ (cells8_one l') (by unfold maxLen; omega) (by omega) hbase ?_
  · intro j u hj
    have hlt : j < l'.length := by have := (List.getElem?_eq_some_iff.1 hj).1; rwa [cells8_length] at this
    obtain ⟨ad', hA, hc⟩ := hb j hlt
    cases hA
    rw [cells8_get l' j hlt] at hj
    rw [hc, hj]
  · intro v' w' hown' hg hnn
    refine h v' w' ⟨?_, hg⟩
    unfold OwnB
    rw [List.length_append, cells8_append]
    exact hown'
end Go.Proofs.YtibhoekbjgoanaaDoor
