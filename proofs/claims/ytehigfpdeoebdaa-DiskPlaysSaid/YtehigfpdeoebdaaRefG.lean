/- The document's disk: New, Sync, Ints. -/
import Derived.Test.YtehigfpdeoebdaaRefF
set_option linter.unusedSimpArgs false
set_option linter.unusedVariables false
namespace Go.Proofs.Ytehigfpdeoebdaa.Dsk
open Go.RowKit
def newR (n : Nat) : RefM := ⟨List.replicate n zsec, [], 0, -1⟩
theorem newR_ok (n : Nat) (h : n ≤ 4096) : (newR n).Ok :=
  ⟨fun l hl => by rw [List.eq_of_mem_replicate hl]; exact zsec_length, by simp [newR], by simpa [newR] using h, by simp [newR], by simp [newR], by simp [newR]⟩
def RetN (w0 : World) (r : RefM) (e : Ending) (w' : World) : Prop :=
  ∃ a hv, e = .returned (.tuple #[.pointer (some ⟨a, 0, none⟩), .int .i64 0]) ∧ RefAt w' w0.heap.size a hv (.slice none 0 0) r ∧ Below w0.heap.size w0 w'
theorem elS : El 54 9 (.string ByteArray.empty) 16 := ⟨Try.underlying54, by kernel_rfl, rfl, by decide⟩
set_option maxRecDepth 100000 in
set_option maxHeartbeats 1000000 in
theorem NewR_bad (n : Int) (hn : n < 1 ∨ 4096 < n) (w : World) : Calls Try.prog 5 #[.int .i64 n] w fun e w' => e = .returned (.tuple #[.pointer none, .int .i64 2]) ∧ w = w' := by
  by_cases h1 : n < 1
  · have e1 : decide (n < (1 : Int)) = true := by simpa using h1
    go_enter Try.func5, Try.ntmps5
    go_wp2
    go_ret2
    exact ⟨rfl, rfl⟩
  · have e1 : decide (n < (1 : Int)) = false := by simpa using h1
    have e2 : decide (n > (4096 : Int)) = true := by simp; omega
    go_enter Try.func5, Try.ntmps5
    go_wp2
    go_ret2
    exact ⟨rfl, rfl⟩
set_option maxRecDepth 100000 in
set_option maxHeartbeats 2000000 in
theorem NewR_calls (n : Nat) (hn : 1 ≤ n ∧ n ≤ 4096) (w : World) : Calls Try.prog 5 #[.int .i64 (n : Int)] w (RetN w (newR n)) := by
  have h1 : decide ((n : Int) < (1 : Int)) = false := by simp; omega
  have h2 : decide ((n : Int) > (4096 : Int)) = false := by simp; omega
  obtain ⟨a, ha⟩ : ∃ a, w.heap.size = a := ⟨_, rfl⟩
  have HA := Lib.hid ha
  obtain ⟨w1, hw1⟩ : ∃ w1, w.alloc (.cells #[.slice none 0 0, .slice none 0 0, .int .i64 0, .int .i64 (-1)] 57) = w1 := ⟨_, rfl⟩
  have HW1 := Lib.hid hw1
  have HB1 : Hid (Below a w w1) := by rw [← hw1, ← ha]; exact (Below.refl _ _).alloc (Nat.le_refl _) _
  have HR1 : Hid (RefAt w1 a a (.slice none 0 0) (.slice none 0 0) (newR 0)) := by
    refine ⟨by rw [← hw1, ← ha]; exact heap_alloc_new w _, OwnVs.nil _ _ _, ⟨rfl, .inl ⟨rfl, rfl⟩⟩, Nat.le_refl _, newR_ok 0 (by omega)⟩
  have HZ := Lib.hid (ZeroR_calls w1)
  clear ha hw1
  go_enter Try.func5, Try.ntmps5
  go_wp2_with (first | (go_at_call 19; refine park ?_; intro q hq))
  refine hq.out ?_
  clear hq
  rw [HW1.out, HA.out]
  have HZs := bstr_size zsec
  obtain ⟨zs, hzs⟩ : ∃ zs, bstr zsec = zs := ⟨_, rfl⟩
  have HZS := Lib.hid hzs
  rw [hzs] at HZ
  clear hzs HZs
  go_wp2_with (go_at_call 19; refine HZ.out.mono ?_; rintro e w2 ⟨rfl, hb2⟩; refine park ?_; intro q hq)
  have HR2 := Lib.hid (HR1.out.below hb2)
  have HB2 : Hid (Below a w w2) := HB1.out.trans (hb2.mono (by rw [← HA.out]; have := HB1.out.size; omega))
  refine hq.out ?_
  clear hq
  clear HR1 HB1 HZ HW1
  go_wp2
  go_loopw [6] (fun s wr => ∃ j : Nat, j ≤ n ∧ s = .int .i64 j ∧ ∃ hv, Hid (RefAt wr a a hv (.slice none 0 0) (newR j) ∧ Below a w wr)) (fun s _ => n - (intOf s).toNat)
  case atStart => exact ⟨0, Nat.zero_le _, rfl, _, HR2.out, HB2.out⟩
  case round =>
    obtain ⟨j, hj, rfl, hv, HR⟩ := hrel
    by_cases hlt : j < n
    · obtain ⟨A, c, e1, _⟩ := HR.out.1.hform
      subst e1
      have c0 := HR.out.1.c0
      go_wp2_with (with_reducible refine park_append ?_; intro q hq)
      refine hq.out ?_
      clear hq
      have hB1 : Below wr.heap.size wr (wr.alloc (.cells #[.string zs] 9)) := (Below.refl _ _).alloc (Nat.le_refl _) _
      have hD1 := HR.out.1.below hB1
      have hsz : a ≤ wr.heap.size := by have := (HR.out.1.foot a (.inl rfl)).2; omega
      refine wpList_append_at rfl _ _ 54 rfl a 9 _ 1 16 elS.u elS.i rfl (by decide) (.slice A (newR j).held.length c) ((newR j).held.map strW).length ((newR j).held.map strW) rfl hD1.row ⟨wr.heap.size, 0, none⟩ 1 1 [.string zs] rfl rfl (fun k u hk => by
        match k, hk with
        | 0, hk => rw [Addr.add_lit, cell_of_row _ _ _ _ _ _ (heap_alloc_new wr _)]; simpa using hk
        | k + 1, hk => simp at hk) (fun u hu => by simp at hu; rw [hu]; rfl) (by simp only [newR, List.length_map, List.length_replicate]; unfold maxLen; omega) (by simp only [newR, List.length_map, List.length_replicate]; omega) (by have := hB1.size; omega) ?_
      intro hv' w4 HV
      obtain ⟨sv0, hsv0⟩ : ∃ v, (Value.slice A (newR j).held.length c) = v := ⟨_, rfl⟩
      rw [hsv0] at HV HR
      have hk2 : Kept (fun k => sv0.ownBlock = some k) wr w4 := (Kept.of_below hB1).trans (Kept.of_grown HV.out.2.1 (fun k hk => hk))
      have hat : hv'.ownBlock = sv0.ownBlock ∨ ∃ k, hv'.ownBlock = some k ∧ wr.heap.size ≤ k := by
        rcases HV.out.2.2 with e | e
        · exact .inl e
        · exact .inr ⟨_, e, hB1.size⟩
      have haa : w4.heap[a]? = some (.cells #[sv0, .slice none 0 0, .int .i64 0, .int .i64 (-1)] 57 (0, 0)) := by
        rw [hk2.block a (Array.getElem?_eq_some_iff.1 HR.out.1.blk).1 (fun e => HR.out.1.ha e)]; exact HR.out.1.blk
      have hnA : ¬ hv'.ownBlock = some a := fun e => by
        rcases hat with e' | ⟨k, e', hk⟩
        · exact HR.out.1.ha (by rw [← e', e])
        · rw [e] at e'; cases e'; have := (HR.out.1.foot a (.inl rfl)).2; omega
      have HD : Hid (RefAt (w4.setCell ⟨a, 0, none⟩ hv') a a hv' (.slice none 0 0) (newR (j + 1))) := by
        refine ⟨by rw [blk_put haa]; rfl, ?_, ⟨rfl, .inl ⟨rfl, rfl⟩⟩, Nat.le_refl _, newR_ok (j + 1) (by omega)⟩
        refine OwnVs.kept ?_ (Kept.set1 w4 a 0 _) (fun k e e' => hnA (by rw [e, e']))
        have h5 := HV.out.1
        have e5 : (newR (j + 1)).held.map strW = (newR j).held.map strW ++ [.string zs] := by
          simp only [newR, List.replicate_succ', List.map_append, List.map_cons, List.map_nil]
          rw [← HZS.out]; rfl
        unfold OwnVs
        rw [e5, List.length_append]
        exact h5
      have HK : Hid (Below a w (w4.setCell ⟨a, 0, none⟩ hv')) := by
        have hlt2 := HR.out.1.row.lt
        exact HR.out.2.trans (((hk2.mono (T := fun k => a ≤ k) (fun k _ e => (hlt2 k e).1)).trans ((Kept.set1 w4 a 0 _).mono (T := fun k => a ≤ k) (fun k _ e => Nat.le_of_eq e.symm))).below hsz (fun k hk hs => by omega))
      have c04 : w4.cell? ⟨a, 0, none⟩ = some sv0 := by rw [cell_of_row _ _ _ _ _ _ haa]; rfl
      have f04 : w4.frozen? ⟨a, 0, none⟩ = false := frozen_of_row _ _ _ _ _ haa
      have hsl : ∃ p n c, hv' = .slice p n c := by
        rcases HV.out.1.2 with ⟨e, _⟩ | ⟨g, cap, cur, e, _⟩
        · exact ⟨_, _, _, e⟩
        · exact ⟨_, _, _, e⟩
      obtain ⟨p9, n9, c9, rfl⟩ := hsl
      clear hk2 hat haa hnA hB1 hD1 hsz c0 HV hsv0
      go_wp2
      go_roundw
      case rel => exact ⟨j + 1, by omega, by go_num, _, HD.out, HK.out⟩
      case measure => simp [intOf]; omega
    · obtain rfl : j = n := by omega
      go_wp2
      go_ret2
      exact ⟨a, _, rfl, by rw [HA.out]; exact HR.out.1, by rw [HA.out]; exact HR.out.2⟩
end Go.Proofs.Ytehigfpdeoebdaa.Dsk
