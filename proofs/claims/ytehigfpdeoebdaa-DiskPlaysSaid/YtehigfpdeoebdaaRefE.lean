/- The document's disk: Read, Pending, Put, New. -/
import Derived.Test.YtehigfpdeoebdaaRefD
set_option linter.unusedSimpArgs false
set_option linter.unusedVariables false
namespace Go.Proofs.Ytehigfpdeoebdaa.Dsk
open Go.RowKit
def atH (l : List (List UInt8)) (k : Nat) : List UInt8 := l.getD k []
theorem atH_eq (l : List (List UInt8)) (k : Nat) (h : k < l.length) : atH l k = l[k] := by
  unfold atH; rw [List.getD_eq_getElem?_getD, List.getElem?_eq_getElem h]; rfl
def RefM.now (r : RefM) (i : Int) : List UInt8 := lastOf i (atH r.held i.toNat) r.wait
def RefM.readC (r : RefM) (i : Int) : Int := if ¬ (0 ≤ i ∧ i < r.held.length) then 2 else if r.left = 0 then 10 else 0
def RefM.readS (r : RefM) (i : Int) : List UInt8 := if ¬ (0 ≤ i ∧ i < r.held.length) then [] else if r.left = 0 then [] else r.now i
theorem RefM.read_bad (r : RefM) (i : Int) (h : ¬ (0 ≤ i ∧ i < r.held.length)) : r.readS i = [] ∧ r.readC i = 2 := by
  unfold RefM.readS RefM.readC; rw [if_pos h, if_pos h]; exact ⟨rfl, rfl⟩
theorem RefM.read_off (r : RefM) (i : Int) (h : 0 ≤ i ∧ i < r.held.length) (h2 : r.left = 0) : r.readS i = [] ∧ r.readC i = 10 := by
  have hn : ¬ ¬ (0 ≤ i ∧ i < r.held.length) := fun x => x h
  unfold RefM.readS RefM.readC; rw [if_neg hn, if_neg hn, if_pos h2, if_pos h2]; exact ⟨rfl, rfl⟩
theorem RefM.read_ok (r : RefM) (i : Int) (h : 0 ≤ i ∧ i < r.held.length) (h2 : ¬ r.left = 0) : r.readS i = r.now i ∧ r.readC i = 0 := by
  have hn : ¬ ¬ (0 ≤ i ∧ i < r.held.length) := fun x => x h
  unfold RefM.readS RefM.readC; rw [if_neg hn, if_neg hn, if_neg h2, if_neg h2]; exact ⟨rfl, rfl⟩
theorem bstr_nil : bstr [] = ⟨#[]⟩ := rfl
theorem ret_tup {a b : ByteArray} {n : Int} (h : a = b) : Ending.returned (.tuple #[.string a, .int .i64 n]) = .returned (.tuple #[.string b, .int .i64 n]) := by rw [h]
set_option maxRecDepth 100000 in
set_option maxHeartbeats 1000000 in
theorem ReadR_calls {w : World} {base a : Nat} {hv wv : Value} {r : RefM} (h : RefAt w base a hv wv r) (i : Int) :
    Calls Try.prog 33 #[.pointer (some ⟨a, 0, none⟩), .int .i64 i] w fun e w' => e = .returned (.tuple #[.string (bstr (r.readS i)), .int .i64 (r.readC i)]) ∧ w = w' := by
  have hs := h.ok.size
  have hws := h.ok.wsize
  have c0 := h.c0
  have c1 := h.c1
  have c3 := h.c3
  obtain ⟨A, c, rfl, hA⟩ := h.hform
  obtain ⟨B, c', rfl, hB⟩ := h.wform
  have HA := Lib.hid hA
  have HB := Lib.hid hB
  clear hA hB h
  by_cases h0 : i < 0
  · rw [(r.read_bad i (by omega)).1, (r.read_bad i (by omega)).2]
    have e1 : decide (i < (0 : Int)) = true := by simpa using h0
    clear c0 c1 c3
    go_enter Try.func33, Try.ntmps33
    go_wp2
    go_ret2
    exact ⟨rfl, rfl⟩
  · have e1 : decide (i < (0 : Int)) = false := by simpa using h0
    by_cases h1 : i < r.held.length
    · have e2 : decide (i ≥ (r.held.length : Int)) = false := by simp; omega
      by_cases h2 : r.left = 0
      · rw [(r.read_off i ⟨by omega, h1⟩ h2).1, (r.read_off i ⟨by omega, h1⟩ h2).2]
        have e3 : (r.left == (0 : Int)) = true := by simp [h2]
        clear h2
        go_enter Try.func33, Try.ntmps33
        go_wp2
        go_ret2
        exact ⟨rfl, rfl⟩
      · rw [(r.read_ok i ⟨by omega, h1⟩ h2).1, (r.read_ok i ⟨by omega, h1⟩ h2).2]
        have e3 : (r.left == (0 : Int)) = false := by simp [h2]
        clear h2
        obtain ⟨k, rfl⟩ := Int.eq_ofNat_of_zero_le (Int.not_lt.1 h0)
        have hk : k < r.held.length := by omega
        obtain ⟨g, rfl, hc, _⟩ := HA.out k hk
        have hat := atH_eq r.held k hk
        rw [← hat] at hc
        have hz : Hid (r.now k = lastOf k (atH r.held k) r.wait) := rfl
        obtain ⟨z, hzz⟩ : ∃ z, atH r.held k = z := ⟨_, rfl⟩
        rw [hzz] at hc hz
        clear hat hzz h1 h0
        go_enter Try.func33, Try.ntmps33
        go_wp2
        go_loop [7, 6] (fun s v => ∃ j : Nat, j ≤ r.wait.length ∧ s = .int .i64 j ∧ v = .string (bstr (lastOf k z (r.wait.take j)))) (fun s _ => r.wait.length - (intOf s).toNat)
        case atStart => exact ⟨0, Nat.zero_le _, rfl, rfl⟩
        case round =>
          obtain ⟨j, hj, rfl, rfl⟩ := hrel
          by_cases hlt : j < r.wait.length
          · obtain ⟨g2, hg2, q0, q1, _⟩ := HB.out j hlt
            subst hg2
            obtain ⟨e, he⟩ : ∃ e, r.wait[j] = e := ⟨_, rfl⟩
            have HEe := Lib.hid he
            rw [he] at q0 q1
            clear he
            have HT : Hid (r.wait.take (j + 1) = r.wait.take j ++ [e]) := by rw [← HEe.out]; exact List.take_succ_eq_append_getElem hlt
            by_cases heq : e.1 = (k : Int)
            · have hb : (e.1 == (k : Int)) = true := by simp [heq]
              have HL : Hid (lastOf k z (r.wait.take (j + 1)) = e.2) := Lib.hid (by rw [HT.out, lastOf_snoc, if_pos heq])
              clear heq
              go_wp2
              go_round
              case rel => exact ⟨j + 1, by omega, by go_num, by rw [HL.out]⟩
              case measure => simp [intOf]; omega
            · have hb : (e.1 == (k : Int)) = false := by simp [heq]
              have HL : Hid (lastOf k z (r.wait.take (j + 1)) = lastOf k z (r.wait.take j)) := Lib.hid (by rw [HT.out, lastOf_snoc, if_neg heq])
              clear heq
              go_wp2
              go_round
              case rel => exact ⟨j + 1, by omega, by go_num, by rw [HL.out]⟩
              case measure => simp [intOf]; omega
          · obtain rfl : j = r.wait.length := by omega
            go_wp2
            go_ret2
            refine ⟨ret_tup ?_, rfl⟩
            rw [hz.out]
    · rw [(r.read_bad i (by omega)).1, (r.read_bad i (by omega)).2]
      have e2 : decide (i ≥ (r.held.length : Int)) = true := by simp; omega
      clear c1 c3
      go_enter Try.func33, Try.ntmps33
      go_wp2
      go_ret2
      exact ⟨rfl, rfl⟩
set_option maxRecDepth 100000 in
set_option maxHeartbeats 2000000 in
theorem PendingR_calls {w : World} {base a : Nat} {hv wv : Value} {r : RefM} (h : RefAt w base a hv wv r) :
    Calls Try.prog 32 #[.pointer (some ⟨a, 0, none⟩)] w (RetI w (r.wait.map fun e => iv e.1)) := by
  have hws := h.ok.wsize
  have H := Lib.hid h
  obtain ⟨B, c', rfl, hB⟩ := h.wform
  clear hB h
  go_enter Try.func32, Try.ntmps32
  go_wp2
  obtain ⟨wo, rfl⟩ : ∃ wo : World, wo = w := ⟨_, rfl⟩
  go_loopw [4, 3] (fun s v wr => ∃ j : Nat, j ≤ r.wait.length ∧ s = .int .i64 j ∧ Hid (OwnVs wr wo.heap.size 3 v ((r.wait.take j).map fun e => iv e.1) ∧ Below wo.heap.size wo wr)) (fun s _ _ => r.wait.length - (intOf s).toNat)
  case atStart => exact ⟨0, Nat.zero_le _, rfl, OwnVs.nil _ _ _, Below.refl _ _⟩
  case round =>
    obtain ⟨j, hj, rfl, HR⟩ := hrel
    have HD := Lib.hid (H.out.below HR.out.2)
    have c1 := HD.out.c1
    by_cases hlt : j < r.wait.length
    · obtain ⟨B2, c2, hBB, hB⟩ := HD.out.wform
      obtain ⟨g2, hg2, q0, _, _⟩ := hB j hlt
      injection hBB with hB1 _ hB3
      subst hB1
      subst hB3
      subst hg2
      obtain ⟨e, he⟩ : ∃ e, r.wait[j] = e := ⟨_, rfl⟩
      have HEe := Lib.hid he
      rw [he] at q0
      clear he hB
      go_wp2_with (with_reducible refine park_append ?_; intro q hq)
      refine hq.out ?_
      clear hq
      refine wpList_append_val1 elI rfl _ _ rfl wo.heap.size _ _ rfl (HR.out.1.below (by exact (Below.refl _ _).alloc (Nat.le_refl _) _)) ⟨wr.heap.size, 0, none⟩ 1 (.int .i64 e.1) rfl (by rw [Addr.add_lit, cell_of_row _ _ _ _ _ _ (heap_alloc_new wr _)]; rfl) rfl (by simp; omega) (by have := HR.out.2.size; simp; omega) ?_
      intro v' w7 HV
      have hv := HR.out.1.lt
      have HB7 : Hid (Below wo.heap.size wo w7) := HR.out.2.trans (((Below.refl _ wr).alloc HR.out.2.size _).trans ((Kept.of_grown (S := fun k => wo.heap.size ≤ k) HV.out.2 (fun k hk => (hv k hk).1)).below (by have := HR.out.2.size; simp; omega) (fun k hk hs => by omega)))
      have HO : Hid (OwnVs w7 wo.heap.size 3 v' ((r.wait.take (j + 1)).map fun e => iv e.1)) := by rw [List.take_succ_eq_append_getElem hlt, List.map_append, HEe.out]; exact HV.out.1
      clear hv HV
      go_wp2
      go_roundw
      case rel => exact ⟨j + 1, by omega, by go_num, HO.out, HB7.out⟩
      case measure => simp [intOf]; omega
    · obtain rfl : j = r.wait.length := by omega
      go_wp2
      go_ret
      have h1 := HR.out.1
      rw [List.take_length] at h1
      exact ⟨_, rfl, h1, HR.out.2⟩
end Go.Proofs.Ytehigfpdeoebdaa.Dsk
