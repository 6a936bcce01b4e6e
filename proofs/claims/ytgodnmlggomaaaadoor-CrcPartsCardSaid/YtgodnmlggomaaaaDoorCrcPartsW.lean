/- The walk of CrcParts. -/
import Derived.Test.YtgodnmlggomaaaaDoorCrcLaw
namespace Go.Proofs.YtgodnmlggomaaaaDoor.Crc
open Go.RowKit Go.Proofs.YtgodnmlggomaaaaDoor
set_option linter.unusedSimpArgs false
set_option linter.unusedVariables false

set_option maxHeartbeats 1000000 in
set_option maxRecDepth 100000 in
theorem CrcParts_walk (A : Option Addr) (c : Nat) (l : List UInt8) (at_ : Int) (w : World) (hh : HalfIs w) (hb : Bytes w A l) (hnil : A = none → c = 0) (hc : l.length ≤ c) (hl : l.length ≤ 140737488351232) (_g : -9223372036854775808 ≤ at_ ∧ at_ ≤ 9223372036854775807) :
    Calls Tryd.prog 4 #[.slice A l.length c, .int .i64 at_] w fun e w' => e = .returned (.bool true) ∧ Below w.heap.size w w' := by
  have HH := Lib.hid hh
  have HB := Lib.hid hb
  have HN := Lib.hid hnil
  clear hh hb hnil
  go_enter Tryd.func4, Tryd.ntmps4
  by_cases hbig : 5000 < l.length
  · go_wp2_with (go_at_call 12; refine (works_calls _ HH.out).mono ?_; rintro e w1 ⟨rfl, hb1⟩)
    go_ret
    exact ⟨rfl, hb1⟩
  · obtain ⟨n, hn, e⟩ := mod_pick at_ (l.length + 1) (by omega)
    have e' : (IntKind.u64.wrap at_).tmod ((l.length : Int) + 1) = (n : Int) := e
    clear e
    have hn' : n ≤ l.length := by omega
    have hnc : n ≤ c := by omega
    have hbnd : l.length ≤ 5000 := by omega
    go_wp2_with (go_at_call 12; refine (works_calls _ HH.out).mono ?_; rintro e w1 ⟨rfl, hb1⟩)
    have HB1 := Lib.hid hb1
    clear hb1
    have FH := Lib.hid (fun (w' : World) (h : Hid (Below w1.heap.size w1 w')) => HH.out.below (HB1.out.trans (h.out.mono HB1.out.size)))
    have FD := Lib.hid (fun (w' : World) (h : Hid (Below w1.heap.size w1 w')) => HB.out.below (HB1.out.trans (h.out.mono HB1.out.size)))
    have C1 := Lib.hid (fun w' h => Sum_calls' A c l l.length w' rfl (FH.out w' h) (FD.out w' h) (by unfold maxLen; omega))
    have C2 := Lib.hid (fun w' h => Sum_calls' A c (l.take n) n w' (by rw [List.length_take]; omega) (FH.out w' h) ((FD.out w' h).take n) (by unfold maxLen; omega))
    have C3 := Lib.hid (fun w' h => Sum_calls' (Option.map (fun x => x.add n) A) (c - n) (l.drop n) (l.length - n) w' (by rw [List.length_drop]) (FH.out w' h) ((FD.out w' h).dropMap n) (by unfold maxLen; omega))
    have C3' : Hid (c = n → ∀ w' : World, Hid (Below w1.heap.size w1 w') → Calls Tryd.prog 10 #[.slice A (l.length - n) (c - n)] w' fun e w'' => e = .returned (.int .u32 (n32 (crc (l.drop n)))) ∧ w' = w'') := by
      intro hcn w' h
      have e : l.drop n = [] := List.drop_eq_nil_of_le (by omega)
      rw [e]
      exact Sum_calls' A (c - n) [] (l.length - n) w' (by simp; omega) (FH.out w' h) (Bytes.nil _ _) (by unfold maxLen; omega)
    have C4 := Lib.hid (fun w' (h : Hid (Below w1.heap.size w1 w')) => (Join_calls (crc (l.take n)) (crc (l.drop n)) ((l.length : Int) - n) w' (by omega)).mono (fun e w'' (k : _ ∧ _) => show e = .returned (.int .u32 (n32 (crc l))) ∧ Hid (Below w1.heap.size w1 w'') from ⟨by
        have := crc_append (l.take n) (l.drop n)
        rw [List.take_append_drop, List.length_drop] at this
        rw [k.1, this]
        congr 4
        omega, h.out.trans (k.2.mono h.out.size)⟩))
    generalize hp : l.take n = p at C2 C4
    have HP := Lib.hid hp
    clear hp
    generalize l.drop n = q at C3 C3' C4
    have es : IntKind.i64.wrap ((l.length : Int) - n) = (l.length : Int) - n := IntWalk.i64_in _ (by omega)
    by_cases hcn : c = n
    · obtain rfl : n = l.length := by omega
      subst hcn
      have hp : l = p := by rw [← HP.out, List.take_of_length_le (Nat.le_refl _)]
      clear HP
      subst hp
      have C5 : Hid (∀ w' : World, Hid (Below w1.heap.size w1 w') → Calls Tryd.prog 10 #[.slice A 0 0] w' fun e w'' => e = .returned (.int .u32 (n32 (crc q))) ∧ w' = w'') := by
        have h := C3'.out rfl
        simp only [Nat.sub_self] at h
        exact h
      have C6 : Hid (∀ w' : World, Hid (Below w1.heap.size w1 w') → Calls Tryd.prog 13 #[.int .u32 (n32 (crc l)), .int .u32 (n32 (crc q)), .int .i64 0] w' fun e w'' => e = .returned (.int .u32 (n32 (crc l))) ∧ Hid (Below w1.heap.size w1 w'')) := by
        have h := C4.out
        simp only [Int.sub_self] at h
        exact h
      have e0 : IntKind.i64.wrap 0 = 0 := by decide
      clear C3 C3' C4 es
      go_region_held3 (fun w' => Hid (Below w1.heap.size w1 w')) (first | exact (Below.refl _ _).drew | assumption) (first | (go_at_call 10; (with_reducible refine (C1.out _ (by assumption)).mono ?_); rintro e w' ⟨rfl, rfl⟩) | (go_at_call 10; (with_reducible refine (C5.out _ (by assumption)).mono ?_); rintro e w' ⟨rfl, rfl⟩) | (go_at_call 10; (with_reducible refine (C2.out _ (by assumption)).mono ?_); rintro e w' ⟨rfl, rfl⟩) | (go_at_call 13; (with_reducible refine (C6.out _ (by assumption)).mono ?_); rintro e w' ⟨rfl, hj⟩))
      all_goals
        rename_i hq
        go_wp2
        go_ret
        exact ⟨rfl, HB1.out.trans (hq.out.mono HB1.out.size)⟩
    · clear C3'
      go_region_held3 (fun w' => Hid (Below w1.heap.size w1 w')) (first | exact (Below.refl _ _).drew | assumption) (first | (go_at_call 10; (with_reducible refine (C1.out _ (by assumption)).mono ?_); rintro e w' ⟨rfl, rfl⟩) | (go_at_call 10; (with_reducible refine (C2.out _ (by assumption)).mono ?_); rintro e w' ⟨rfl, rfl⟩) | (go_at_call 10; (with_reducible refine (C3.out _ (by assumption)).mono ?_); rintro e w' ⟨rfl, rfl⟩) | (go_at_call 13; (with_reducible refine (C4.out _ (by assumption)).mono ?_); rintro e w' ⟨rfl, hj⟩))
      all_goals
        rename_i hq
        go_wp2
        go_ret
        exact ⟨rfl, HB1.out.trans (hq.out.mono HB1.out.size)⟩
end Go.Proofs.YtgodnmlggomaaaaDoor.Crc
