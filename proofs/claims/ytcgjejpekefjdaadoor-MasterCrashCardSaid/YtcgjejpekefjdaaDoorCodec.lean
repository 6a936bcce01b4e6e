/- The walks of codec: PutFixed, Read, Fixed; the document's Fixed. -/
import Derived.Test.YtcgjejpekefjdaaDoorCrcK
set_option linter.unusedSimpArgs false
set_option linter.unusedVariables false
namespace Go.Proofs.YtcgjejpekefjdaaDoor
open Go.RowKit Go.Proofs.YtcgjejpekefjdaaDoor.Crc
/-- A number in so many bytes, the highest ahead. -/
def byteAt (n s : Nat) : UInt8 := UInt8.ofNat (n / 256 ^ s)
def fixB (n : Nat) : Nat → List UInt8
  | 0 => []
  | s + 1 => byteAt n s :: fixB n s
theorem fixB_length (n : Nat) : ∀ s, (fixB n s).length = s
  | 0 => rfl
  | s + 1 => by rw [fixB, List.length_cons, fixB_length n s]
theorem byteAt_val (n s : Nat) : (((byteAt n s).toNat : Nat) : Int) = ((n / 256 ^ s : Nat) : Int) % 256 := by
  unfold byteAt; simp
set_option maxRecDepth 10000 in
theorem byteAt_shr (n k : Nat) : (n : Int) / 2 ^ (8 * k) % 256 = ((byteAt n k).toNat : Int) := by
  rw [byteAt_val]
  have e : (2 : Int) ^ (8 * k) = ((256 ^ k : Nat) : Int) := by rw [Int.pow_mul]; push_cast; rfl
  rw [e]; push_cast; rfl
set_option maxHeartbeats 1000000 in
theorem PutFixed_calls (n : Nat) (hn : (n : Int) ≤ 18446744073709551615) (s : Nat) (hs : s ≤ 8) (w : World) :
    Calls Tryd.prog 60 #[.slice none 0 0, .int .u64 (n : Int), .int .i64 (s : Int)] w (RetB w (fixB n s)) := by
  have m1 : max (s : Int) 0 = s := by omega
  have m2 : min (s : Int) 8 = s := by omega
  go_enter Tryd.func60, Tryd.ntmps60
  go_wp2_with fail
  go_loopw [0, 7] (fun v i wr => ∃ (k : Nat) (acc : List UInt8), k ≤ s ∧ i = .int .i64 ((k : Int) - 1) ∧ Hid (acc ++ fixB n k = fixB n s ∧ OwnB wr w.heap.size v acc ∧ Below w.heap.size w wr)) (fun _ i _ => (intOf i + 1).toNat)
  case atStart => exact ⟨s, [], Nat.le_refl _, rfl, rfl, World.ownsRow_nil _ _ _ _, Below.refl _ _⟩
  case round =>
    obtain ⟨k, acc, hk, rfl, HR⟩ := hrel
    by_cases h0 : k = 0
    · subst h0
      go_wp2_with fail
      go_ret
      have h1 := HR.out.1
      rw [fixB, List.append_nil] at h1
      rw [← h1]
      exact RetB.mk HR.out.2.1 HR.out.2.2
    · obtain ⟨k, rfl⟩ : ∃ j, k = j + 1 := ⟨k - 1, by omega⟩
      have HBv := Lib.hid (byteAt_shr n k)
      go_wp2_with (with_reducible refine park_append ?_; intro q hq)
      refine hq.out ?_
      clear hq
      rw [HBv.out]
      have hlen := congrArg List.length HR.out.1
      rw [List.length_append, fixB_length, fixB_length] at hlen
      refine wpList_append_bytes rfl _ _ rfl w.heap.size u0 acc rfl (HR.out.2.1.alloc _) (some ⟨wr.heap.size, 0, none⟩) 1 1 [byteAt n k] rfl rfl (fun h => by cases h) (bytes_of_block (heap_alloc_new wr _) rfl) (by simp; omega) (by have := HR.out.2.2.size; simp; omega) ?_
      intro v2 w2 hown2 hg2 _
      have HN : Hid ((acc ++ [byteAt n k]) ++ fixB n k = fixB n s ∧ OwnB w2 w.heap.size v2 (acc ++ [byteAt n k]) ∧ Below w.heap.size w w2) :=
        ⟨by rw [← HR.out.1, fixB, List.append_assoc]; rfl, hown2, (HR.out.2.2.alloc HR.out.2.2.size _).grown hg2 (by have := HR.out.2.2.size; simp; omega) (fun j hj => (HR.out.2.1.lt j hj).1)⟩
      clear hown2 hg2 HR hlen
      go_wp2
      go_roundw
      case rel => exact ⟨k, _, by omega, by go_num, HN⟩
      case measure => simp [intOf]
/-! ### the reader -/
/-- The number that bytes are, the highest ahead. -/
def natB (l : List UInt8) : Nat := l.foldl (fun n c => n * 256 + c.toNat) 0
theorem natB_snoc (l : List UInt8) (c : UInt8) : natB (l ++ [c]) = natB l * 256 + c.toNat := by simp [natB]
theorem natB_lt (l : List UInt8) : natB l < 256 ^ l.length := by
  suffices h : ∀ l : List UInt8, natB l.reverse < 256 ^ l.length by
    have := h l.reverse
    simpa using this
  intro l
  induction l with
  | nil => simp [natB]
  | cons c l ih =>
    rw [List.reverse_cons, natB_snoc, List.length_cons, Nat.pow_succ]
    have := c.toNat_lt
    omega
def RdAt (w : World) (r : Nat) (A : Option Addr) (n c : Nat) : Prop := w.heap[r]? = some (.cells #[.bool true, .slice A n c, .int .i64 0] 126 (0, 0))
theorem RdAt.cells {w : World} {r n c : Nat} {A : Option Addr} (h : RdAt w r A n c) : w.cell? ⟨r, 0, none⟩ = some (.bool true) ∧ w.cell? ⟨r, 1, none⟩ = some (.slice A n c) ∧ w.cell? ⟨r, 2, none⟩ = some (.int .i64 0) ∧ w.frozen? ⟨r, 1, none⟩ = false :=
  ⟨by rw [cell_of_row _ _ _ _ _ _ h]; rfl, by rw [cell_of_row _ _ _ _ _ _ h]; rfl, by rw [cell_of_row _ _ _ _ _ _ h]; rfl, frozen_of_row _ _ _ _ _ h⟩
/-- A reader that has these bytes to read yet. -/
def RdL (w : World) (r : Nat) (l : List UInt8) : Prop := ∃ A c, RdAt w r A l.length c ∧ Bytes w A l ∧ l.length ≤ c ∧ c ≤ 9223372036854775807 ∧ ∀ ad, A = some ad → ad.block < r
set_option maxHeartbeats 400000 in
theorem Read_calls (A : Option Addr) (n c : Nat) (l : List UInt8) (w : World) (hn : n = l.length) (hb : Bytes w A l) (hA : ∀ ad, A = some ad → ad.block < w.heap.size) (hc : n ≤ c) (hm : c ≤ 9223372036854775807) :
    Calls Tryd.prog 57 #[.slice A n c] w fun e w' => e = .returned (.pointer (some ⟨w.heap.size, 0, none⟩)) ∧ RdL w' w.heap.size l ∧ Below w.heap.size w w' := by
  subst hn
  have HB := Lib.hid hb
  have HA := Lib.hid hA
  clear hb hA
  go_enter Tryd.func57, Tryd.ntmps57
  go_wp2
  go_ret
  exact ⟨rfl, ⟨A, c, heap_alloc_new w _, HB.out.alloc _, hc, hm, fun ad h => by have := HA.out ad h; omega⟩, (Below.refl _ _).alloc (Nat.le_refl _) _⟩
set_option maxHeartbeats 400000 in
theorem ready_calls {w : World} {r n c : Nat} {A : Option Addr} (h : RdAt w r A n c) : Calls Tryd.prog 73 #[.pointer (some ⟨r, 0, none⟩)] w fun e w' => e = .returned (.bool true) ∧ w = w' := by
  obtain ⟨h0, h1, h2, h3⟩ := h.cells
  have H := Lib.hid h
  clear h
  go_enter Tryd.func73, Tryd.ntmps73
  go_wp2
  go_ret
  exact ⟨rfl, rfl⟩
theorem RdAt.put {w : World} {r n c : Nat} {A : Option Addr} (h : RdAt w r A n c) (A' : Option Addr) (n' c' : Nat) : RdAt (w.setCell ⟨r, 1, none⟩ (.slice A' n' c')) r A' n' c' := by
  have h' : w.heap[r]? = some (.cells #[.bool true, .slice A n c, .int .i64 0] 126 (0, 0)) := h
  show (w.setCell ⟨r, 1, none⟩ (.slice A' n' c')).heap[r]? = _
  simp [World.setCell, Array.getElem?_modify, h']
set_option maxHeartbeats 400000 in
theorem take_calls {w : World} {r : Nat} {l : List UInt8} (h : RdL w r l) (s : Nat) (hs : s ≤ l.length) : Calls Tryd.prog 82 #[.pointer (some ⟨r, 0, none⟩), .int .i64 (s : Int)] w fun e w' => ∃ A c, e = .returned (.tuple #[.slice A s c, .bool true]) ∧ Bytes w' A (l.take s) ∧ RdL w' r (l.drop s) ∧ Kept (· = r) w w' := by
  obtain ⟨A, c, hr, hb, hc, hm, hd⟩ := h
  obtain ⟨h0, h1, h2, h3⟩ := hr.cells
  have HR := Lib.hid hr
  have HB := Lib.hid hb
  have HD := Lib.hid hd
  obtain ⟨n, hn⟩ : ∃ n, l.length = n := ⟨_, rfl⟩
  have HN := Lib.hid hn
  rw [hn] at hs hc h1
  clear hr hb hd hn
  have d1 : decide ((s : Int) > (n : Int)) = false := by simp; omega
  by_cases hcs : c = s
  · obtain rfl : s = n := by omega
    subst hcs
    go_enter Tryd.func82, Tryd.ntmps82
    go_wp2_with fail
    go_ret2
    have hk := Kept.set1 w r 1 (.slice A 0 0)
    refine ⟨A, c, rfl, (HB.out.kept hk (fun ad h => Nat.ne_of_lt (HD.out ad h))).take _, ⟨A, 0, ?_, ?_, by rw [← HN.out]; simp, by omega, HD.out⟩, hk⟩
    · rw [← HN.out, List.drop_length]; exact HR.out.put A 0 0
    · rw [← HN.out, List.drop_length]; exact Bytes.nil _ _
  · go_enter Tryd.func82, Tryd.ntmps82
    go_wp2_with fail
    go_ret2
    have hk := Kept.set1 w r 1 (.slice (Option.map (fun x => x.add s) A) (n - s) (c - s))
    have hl : (l.drop s).length = n - s := by rw [List.length_drop, HN.out]
    refine ⟨A, c, rfl, (HB.out.kept hk (fun ad h => Nat.ne_of_lt (HD.out ad h))).take _, ⟨Option.map (fun x => x.add s) A, c - s, ?_, (HB.out.kept hk (fun ad h => Nat.ne_of_lt (HD.out ad h))).dropMap s, by rw [hl]; omega, by omega, ?_⟩, hk⟩
    · rw [hl]; exact HR.out.put _ _ _
    · intro ad had
      obtain ⟨a0, rfl, rfl⟩ := Option.map_eq_some_iff.1 had
      rw [add_block]; exact HD.out a0 rfl
theorem or_add (x : Nat) (c : UInt8) (h : x < 72057594037927936) : bits .or .u64 (IntKind.u64.wrap ((x : Int) * 256)) (c.toNat : Int) = ((x * 256 + c.toNat : Nat) : Int) := by
  have hc := c.toNat_lt
  have e : IntKind.u64.wrap ((x : Int) * 256) = ((x * 256 : Nat) : Int) := by
    simp only [IntKind.wrap, IntKind.bits, IntKind.signed]; simp; omega
  rw [e, u64_or_nat _ _ (by omega) (by omega)]
  have := Nat.two_pow_add_eq_or_of_lt (i := 8) (b := c.toNat) (by omega) x
  rw [show (2 : Nat) ^ 8 = 256 from rfl, Nat.mul_comm 256 x] at this
  rw [this]
theorem natB_take (l : List UInt8) (k : Nat) (h : k < l.length) : natB (l.take (k + 1)) = natB (l.take k) * 256 + (at8 l k).toNat := by
  rw [take_snoc8 l k h, natB_snoc]
theorem natB_lt7 (l : List UInt8) (h : l.length < 8) : natB l < 72057594037927936 := by
  have := natB_lt l
  have h2 : 256 ^ l.length ≤ 256 ^ 7 := Nat.pow_le_pow_right (by decide) (by omega)
  have h3 : (256 : Nat) ^ 7 = 72057594037927936 := by decide
  omega
set_option maxHeartbeats 1000000 in
theorem Fixed_calls {w : World} {r : Nat} {l : List UInt8} (h : RdL w r l) (s : Nat) (hs : s ≤ l.length) (h8 : s ≤ 8) : Calls Tryd.prog 72 #[.pointer (some ⟨r, 0, none⟩), .int .i64 (s : Int)] w fun e w' => e = .returned (.int .u64 (natB (l.take s) : Int)) ∧ RdL w' r (l.drop s) ∧ Kept (· = r) w w' := by
  have m1 : max (s : Int) 0 = s := by omega
  have m2 : min (s : Int) 8 = s := by omega
  have h' := h
  obtain ⟨A, c, hr, _⟩ := h'
  have HR := Lib.hid (ready_calls hr)
  have HT := Lib.hid (take_calls h s hs)
  have HL : Hid ((l.take s).length = s) := by show _ = _; rw [List.length_take]; omega
  clear h hr hs
  go_enter Tryd.func72, Tryd.ntmps72
  go_wp2_with (first | (go_at_call 73; refine HR.out.mono ?_; rintro e w' ⟨rfl, rfl⟩) | (go_at_call 82; refine HT.out.mono ?_; rintro e w2 ⟨A2, c2, rfl, hb2, hr2, hk2⟩; refine park ?_; intro q hq))
  have HB2 := Lib.hid hb2
  have HR2 := Lib.hid hr2
  have HK2 := Lib.hid hk2
  clear hb2 hr2 hk2 HR HT
  refine hq.out ?_
  clear hq
  obtain ⟨p, hp⟩ : ∃ p, l.take s = p := ⟨_, rfl⟩
  have HP := Lib.hid hp
  rw [hp] at HL HB2
  clear hp
  go_wp2_with fail
  go_loop [7, 23] (fun v i => ∃ k : Nat, k ≤ s ∧ i = .int .i64 k ∧ v = .int .u64 (natB (p.take k) : Int)) (fun _ i => s - (intOf i).toNat)
  case atStart => exact ⟨0, Nat.zero_le _, rfl, rfl⟩
  case round =>
    obtain ⟨k, hk, rfl, rfl⟩ := hrel
    by_cases hlt : k < s
    · have hkp : k < p.length := by rw [HL.out]; exact hlt
      obtain ⟨ad, hA, hx⟩ := HB2.out k hkp
      cases hA
      have HO := Lib.hid (or_add (natB (p.take k)) (at8 p k) (natB_lt7 _ (by rw [List.length_take]; omega)))
      have HN := Lib.hid (natB_take p k hkp)
      obtain ⟨b1, b2⟩ := ltu8 (at8 p k)
      clear hkp
      have e1 := HO.out
      rw [← HN.out] at e1
      go_wp2
      go_round
      case rel => exact ⟨k + 1, by omega, by go_num, rfl⟩
      case measure => simp [intOf]; omega
    · obtain rfl : k = s := by omega
      go_wp2
      go_ret
      refine ⟨?_, HR2.out, HK2.out⟩
      have e : p.take k = p := List.take_of_length_le (by rw [HL.out]; exact Nat.le_refl _)
      rw [HP.out]
      first | rfl | (rw [e]; rfl) | (rw [← e]; rfl)
end Go.Proofs.YtcgjejpekefjdaaDoor
