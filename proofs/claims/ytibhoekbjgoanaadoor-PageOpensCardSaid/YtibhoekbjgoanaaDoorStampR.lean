/- The document's Fixed, reader, zero, Wrap. -/
import Derived.Test.YtibhoekbjgoanaaDoorStampO
import Derived.Test.YtibhoekbjgoanaaDoorCrcKR
set_option linter.unusedSimpArgs false
set_option linter.unusedVariables false
namespace Go.Proofs.YtibhoekbjgoanaaDoor
open Go.RowKit Go.Proofs.YtibhoekbjgoanaaDoor.Crc
theorem u64_id (x : Int) (h0 : 0 ≤ x) (h1 : x ≤ 18446744073709551615) : IntKind.u64.wrap x = x := by
  simp only [IntKind.wrap, IntKind.bits, IntKind.signed]; simp; omega
theorem byte_mod (q : Nat) : ((q : Int) % 256) % 256 = ((UInt8.ofNat q).toNat : Int) := by simp
theorem byte_mod1 (q : Nat) : (q : Int) % 256 = ((UInt8.ofNat q).toNat : Int) := by simp
theorem OwnB.sl {w : World} {base : Nat} {v : Value} {l : List UInt8} (h : OwnB w base v l) : ∃ A c, v = .slice A l.length c ∧ (A = none → c = 0) ∧ l.length ≤ c ∧ c ≤ 9223372036854775807 := by
  rcases h.2 with ⟨h1, h2⟩ | ⟨g, cap, cur, h1, h2, h3, h4, h5, _⟩
  · exact ⟨none, 0, by rw [h1, h2], fun _ => rfl, by omega, by omega⟩
  · exact ⟨_, cap, h1, (fun h => by cases h), h4, by unfold maxLen at h5; omega⟩
set_option maxRecDepth 10000 in
set_option maxHeartbeats 1000000 in
theorem refFixed_calls (n : Nat) (hn : (n : Int) ≤ 18446744073709551615) (s : Nat) (hs : s ≤ 8) (w : World) :
    Calls Tryd.prog 40 #[.int .u64 (n : Int), .int .i64 (s : Int)] w (RetB w (fixB n s)) := by
  have d1 : decide ((s : Int) > 8) = false := by simp; omega
  have HN := Lib.hid hn
  clear hn
  go_enter Tryd.func40, Tryd.ntmps40
  go_wp2_with fail
  go_loopw [0, 5, 6] (fun x v i wr => ∃ (k q : Nat), k ≤ s ∧ q ≤ n ∧ i = .int .i64 (k : Int) ∧ x = .int .u64 (q : Int) ∧ Hid (q = n / 256 ^ k ∧ OwnB wr w.heap.size v (fixB n k) ∧ Below w.heap.size w wr)) (fun _ _ i _ => s - (intOf i).toNat)
  case atStart => exact ⟨0, n, by omega, Nat.le_refl _, rfl, rfl, by simp, World.ownsRow_nil _ _ _ _, Below.refl _ _⟩
  case round =>
    obtain ⟨k, q, hk, hqn, rfl, rfl, HR⟩ := hrel
    by_cases hlt : k < s
    · have hq2 : q / 256 ≤ n := by omega
      have HB8 := Lib.hid (byte_mod q)
      have HB1 := Lib.hid (byte_mod1 q)
      have WQ : Hid (IntKind.u64.wrap ((q : Int) / 256) = ((q / 256 : Nat) : Int)) := by
        show _ = _
        rw [u64_id _ (by omega) (by have : (n : Int) ≤ 18446744073709551615 := HN.out; omega)]
        omega
      go_wp2_with (with_reducible refine park_append ?_; intro q9 hq)
      refine hq.out ?_
      clear hq
      have hu : byteAt n k = UInt8.ofNat q := by unfold byteAt; rw [HR.out.1]
      obtain ⟨A5, c5, rfl, hn5, _, _⟩ := HR.out.2.1.sl
      rw [HB1.out]
      have hlen : (fixB n k).length = k := fixB_length n k
      have hcs := OwnB.lit wr w.heap.size HR.out.2.2.size [.int .u8 ((UInt8.ofNat q).toNat : Int)] [UInt8.ofNat q] rfl 1 rfl (by decide)
      refine wpList_append_bytes rfl _ _ rfl w.heap.size _ [UInt8.ofNat q] rfl hcs A5 (fixB n k).length c5 (fixB n k) rfl rfl hn5 (HR.out.2.1.bytes.alloc _) (by rw [hlen]; simp; omega) (by have := HR.out.2.2.size; simp; omega) ?_
      intro v2 w2 hown2 hg2 _
      have HN2 : Hid (q / 256 = n / 256 ^ (k + 1) ∧ OwnB w2 w.heap.size v2 (fixB n (k + 1)) ∧ Below w.heap.size w w2) :=
        ⟨by rw [HR.out.1, Nat.pow_succ, Nat.div_div_eq_div_mul], by rw [fixB, hu]; exact hown2, (HR.out.2.2.alloc HR.out.2.2.size _).grown hg2 (by have := HR.out.2.2.size; simp; omega) (fun j hj => by cases hj; exact HR.out.2.2.size)⟩
      clear hown2 hg2 HR hlen hcs hu
      go_wp2
      go_roundw
      case rel => exact ⟨k + 1, q / 256, by omega, hq2, by go_num, by rw [WQ.out], HN2⟩
      case measure => simp [intOf]; omega
    · obtain rfl : k = s := by omega
      go_wp2_with fail
      go_ret
      exact RetB.mk HR.out.2.1 HR.out.2.2
/-! ### the document's reader -/
def RfAt (w : World) (r : Nat) (A : Option Addr) (n c : Nat) : Prop := w.heap[r]? = some (.cells #[.slice A n c, .int .i64 0] 74 (0, 0))
theorem RfAt.cells {w : World} {r n c : Nat} {A : Option Addr} (h : RfAt w r A n c) : w.cell? ⟨r, 0, none⟩ = some (.slice A n c) ∧ w.cell? ⟨r, 1, none⟩ = some (.int .i64 0) ∧ w.frozen? ⟨r, 0, none⟩ = false :=
  ⟨by rw [cell_of_row _ _ _ _ _ _ h]; rfl, by rw [cell_of_row _ _ _ _ _ _ h]; rfl, frozen_of_row _ _ _ _ _ h⟩
theorem RfAt.put {w : World} {r n c : Nat} {A : Option Addr} (h : RfAt w r A n c) (A' : Option Addr) (n' c' : Nat) : RfAt (w.setCell ⟨r, 0, none⟩ (.slice A' n' c')) r A' n' c' := by
  have h' : w.heap[r]? = some (.cells #[.slice A n c, .int .i64 0] 74 (0, 0)) := h
  show (w.setCell ⟨r, 0, none⟩ (.slice A' n' c')).heap[r]? = _
  simp [World.setCell, Array.getElem?_modify, h']
def RfL (w : World) (r : Nat) (l : List UInt8) : Prop := ∃ A c, RfAt w r A l.length c ∧ Bytes w A l ∧ l.length ≤ c ∧ (∀ ad, A = some ad → ad.block < r) ∧ ∃ ad, A = some ad
set_option maxHeartbeats 400000 in
theorem refBytes_calls {w : World} {r : Nat} {l : List UInt8} (h : RfL w r l) (s : Nat) (hs : s ≤ l.length) : Calls Tryd.prog 65 #[.pointer (some ⟨r, 0, none⟩), .int .i64 (s : Int)] w fun e w' => ∃ A c, e = .returned (.slice A s c) ∧ Bytes w' A (l.take s) ∧ RfL w' r (l.drop s) ∧ Kept (· = r) w w' ∧ s ≤ c ∧ ∃ ad, A = some ad := by
  obtain ⟨A, c, hr, hb, hc, hd, hsm⟩ := h
  obtain ⟨h0, h1, h2⟩ := hr.cells
  have HR := Lib.hid hr
  have HB := Lib.hid hb
  have HDl := Lib.hid hd
  have HD : Hid (∀ ad, A = some ad → ¬ ad.block = r) := fun ad h e => by have := hd ad h; omega
  obtain ⟨n, hn⟩ : ∃ n, l.length = n := ⟨_, rfl⟩
  have HN := Lib.hid hn
  rw [hn] at hs hc h0
  clear hr hb hd hn
  have d1 : decide ((s : Int) > (n : Int)) = false := by simp; omega
  by_cases hcs : c = s
  · obtain rfl : s = n := by omega
    subst hcs
    go_enter Tryd.func65, Tryd.ntmps65
    go_wp2_with fail
    go_ret
    have hk := Kept.set1 w r 0 (.slice A 0 0)
    refine ⟨A, c, rfl, (HB.out.kept hk HD.out).take _, ⟨A, 0, ?_, ?_, by rw [← HN.out]; simp, HDl.out, hsm⟩, hk, Nat.le_refl _, hsm⟩
    · rw [← HN.out, List.drop_length]; exact HR.out.put A 0 0
    · rw [← HN.out, List.drop_length]; exact Bytes.nil _ _
  · go_enter Tryd.func65, Tryd.ntmps65
    go_wp2_with fail
    go_ret
    have hk := Kept.set1 w r 0 (.slice (Option.map (fun x => x.add s) A) (n - s) (c - s))
    have hl : (l.drop s).length = n - s := by rw [List.length_drop, HN.out]
    refine ⟨A, c, rfl, (HB.out.kept hk HD.out).take _, ⟨Option.map (fun x => x.add s) A, c - s, ?_, (HB.out.kept hk HD.out).dropMap s, by rw [hl]; omega, ?_, ?_⟩, hk, by omega, hsm⟩
    · rw [hl]; exact HR.out.put _ _ _
    · intro ad had
      obtain ⟨a0, rfl, rfl⟩ := Option.map_eq_some_iff.1 had
      rw [add_block]; exact HDl.out a0 rfl
    · obtain ⟨a0, rfl⟩ := hsm; exact ⟨_, rfl⟩
theorem mul_add64 (x : Nat) (c : UInt8) (h : x < 72057594037927936) : IntKind.u64.wrap (IntKind.u64.wrap ((x : Int) * 256) + (c.toNat : Int)) = ((x * 256 + c.toNat : Nat) : Int) := by
  have hc := c.toNat_lt
  rw [u64_id ((x : Int) * 256) (by omega) (by omega), u64_id _ (by omega) (by omega)]
  omega
theorem mul64 (x : Nat) (h : x < 72057594037927936) : IntKind.u64.wrap ((x : Int) * 256) = (x : Int) * 256 := u64_id _ (by omega) (by omega)
set_option maxHeartbeats 1000000 in
theorem refRFixed_calls {w : World} {r : Nat} {l : List UInt8} (h : RfL w r l) (s : Nat) (hs : s ≤ l.length) (h8 : s ≤ 8) : Calls Tryd.prog 49 #[.pointer (some ⟨r, 0, none⟩), .int .i64 (s : Int)] w fun e w' => e = .returned (.int .u64 (natB (l.take s) : Int)) ∧ RfL w' r (l.drop s) ∧ Kept (· = r) w w' := by
  have d1 : decide ((s : Int) < 0) = false := by simp
  have d2 : decide ((s : Int) > 8) = false := by simp; omega
  have HT := Lib.hid (refBytes_calls h s hs)
  have HL : Hid ((l.take s).length = s) := by show _ = _; rw [List.length_take]; omega
  clear h hs
  go_enter Tryd.func49, Tryd.ntmps49
  go_wp2_with (go_at_call 65; refine HT.out.mono ?_; rintro e w2 ⟨A2, c2, rfl, hb2, hr2, hk2, hc2, _⟩; refine park ?_; intro q hq)
  have HB2 := Lib.hid hb2
  have HR2 := Lib.hid hr2
  have HK2 := Lib.hid hk2
  clear hb2 hr2 hk2 HT
  refine hq.out ?_
  clear hq
  obtain ⟨p, hp⟩ : ∃ p, l.take s = p := ⟨_, rfl⟩
  have HP := Lib.hid hp
  rw [hp] at HL HB2
  clear hp
  go_wp2_with fail
  go_loop [6, 7] (fun v i => ∃ k : Nat, k ≤ s ∧ i = .int .i64 k ∧ v = .int .u64 (natB (p.take k) : Int)) (fun _ i => s - (intOf i).toNat)
  case atStart => exact ⟨0, Nat.zero_le _, rfl, rfl⟩
  case round =>
    obtain ⟨k, hk, rfl, rfl⟩ := hrel
    by_cases hlt : k < s
    · have hkp : k < p.length := by rw [HL.out]; exact hlt
      obtain ⟨ad, hA, hx⟩ := HB2.out k hkp
      cases hA
      have hb7 := natB_lt7 (p.take k) (by rw [List.length_take]; omega)
      have e1 := mul_add64 (natB (p.take k)) (at8 p k) hb7
      rw [← natB_take p k hkp, mul64 _ hb7] at e1
      have e2 := mul64 _ hb7
      obtain ⟨b1, b2⟩ := ltu8 (at8 p k)
      clear hkp hb7
      go_wp2
      go_round
      case rel => exact ⟨k + 1, by omega, by go_num, rfl⟩
      case measure => simp [intOf]; omega
    · obtain rfl : k = s := by omega
      go_wp2
      go_ret
      refine ⟨?_, HR2.out, HK2.out⟩
      have e : p.take k = p := List.take_of_length_le (by rw [HL.out]; exact Nat.le_refl _)
      rw [HP.out]
      first | rfl | (rw [e]; rfl) | (rw [← e]; rfl)
set_option maxHeartbeats 400000 in
theorem refZero_calls (A : Option Addr) (n c : Nat) (l : List UInt8) (w : World) (hn : n = l.length) (hb : Bytes w A l) (hl : n ≤ 9223372036854775807) :
    Calls Tryd.prog 47 #[.slice A n c] w fun e w' => e = .returned (.bool (zeroB l)) ∧ w = w' := by
  subst hn
  have HB := Lib.hid hb
  clear hb
  go_enter Tryd.func47, Tryd.ntmps47
  go_wp2_with fail
  go_loop [3] (fun i => ∃ k : Nat, k ≤ l.length ∧ i = .int .i64 k ∧ Hid (zeroB (l.take k) = true)) (fun i => l.length - (intOf i).toNat)
  case atStart => exact ⟨0, Nat.zero_le _, rfl, rfl⟩
  case round =>
    obtain ⟨k, hk, rfl, HZ⟩ := hrel
    by_cases hlt : k < l.length
    · obtain ⟨ad, hA, hx⟩ := HB.out k hlt
      cases hA
      have hsn : zeroB (l.take (k + 1)) = (at8 l k == 0) := by
        rw [take_snoc8 l k hlt]; unfold zeroB; rw [List.all_append]
        have := HZ.out; unfold zeroB at this; rw [this]; simp
      cases h0 : (at8 l k == (0 : UInt8))
      · have e1 : ((((at8 l k).toNat : Nat) : Int) != 0) = true := by
          simp at h0 ⊢
          intro h
          exact h0 (UInt8.toNat_inj.1 (by simpa using h))
        have HF : Hid (zeroB l = false) := by
          show _ = _
          unfold zeroB
          rw [List.all_eq_false]
          refine ⟨l[k], List.getElem_mem hlt, ?_⟩
          rw [at8_eq l k hlt] at h0
          simp [h0]
        clear h0 hsn
        go_wp2_with fail
        go_ret
        exact ⟨by rw [HF.out]; rfl, rfl⟩
      · have e1 : ((((at8 l k).toNat : Nat) : Int) != 0) = false := by
          obtain h : at8 l k = 0 := by simpa using h0
          rw [h]; rfl
        have HN : Hid (zeroB (l.take (k + 1)) = true) := by show _ = _; rw [hsn, h0]
        clear h0 hsn HZ
        go_wp2_with fail
        go_round
        case rel => exact ⟨k + 1, by omega, by go_num, HN⟩
        case measure => simp [intOf]; omega
    · obtain rfl : k = l.length := by omega
      go_wp2_with fail
      go_ret
      refine ⟨?_, rfl⟩
      have h := HZ.out
      rw [List.take_length] at h
      rw [h]; rfl
end Go.Proofs.YtibhoekbjgoanaaDoor
