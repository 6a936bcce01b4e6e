/- Pages: the walk of the law's cells. -/
import Derived.Test.YtibhoekbjgoanaaDoorPageY
set_option linter.unusedSimpArgs false
set_option linter.unusedVariables false
namespace Go.Proofs.YtibhoekbjgoanaaDoor
open Go.RowKit Go.Proofs.YtibhoekbjgoanaaDoor.Crc
set_option maxRecDepth 100000 in
set_option maxHeartbeats 1000000 in
theorem cellsEq_calls (A1 : Option Addr) (n1 c1 : Nat) (ls1 : List (List UInt8)) (A2 : Option Addr) (n2 c2 : Nat) (ls2 : List (List UInt8)) (w : World) (hn1 : n1 = ls1.length) (hR1 : RowsB w A1 ls1) (hm1 : n1 ≤ 9223372036854775807) (hn2 : n2 = ls2.length) (hR2 : RowsB w A2 ls2) (he : ls1 = ls2) :
    Calls Tryd.prog 29 #[.slice A1 n1 c1, .slice A2 n2 c2] w fun e w' => e = .returned (.bool true) ∧ ∃ m, w' = w.drewN m := by
  subst he
  obtain rfl : n1 = n2 := by omega
  have HR1 := Lib.hid hR1
  have HR2 := Lib.hid hR2
  have HN := Lib.hid hn1
  clear hR1 hR2 hn1 hn2
  go_enter Tryd.func29, Tryd.ntmps29
  go_wp2_with fail
  go_loopw [13] (fun i wr => ∃ k : Nat, k ≤ n1 ∧ i = .int .i64 (k : Int) ∧ ∃ m, wr = w.drewN m) (fun i _ => n1 - (intOf i).toNat)
  case atStart => exact ⟨0, Nat.zero_le _, rfl, 0, rfl⟩
  case round =>
    have hbw : ∀ m wr, wr = w.drewN m → Below w.heap.size w wr := fun m wr h => by rw [h]; exact kept_drewN w m
    obtain ⟨k, hk, rfl, m, hm⟩ := hrel
    have HM := Lib.hid hm
    clear hm
    by_cases hlt : k < n1
    · obtain ⟨b, o, rfl⟩ := HR1.out.spot (by rw [← HN.out]; omega)
      obtain ⟨b', o', rfl⟩ := HR2.out.spot (by rw [← HN.out]; omega)
      obtain ⟨Ai, ci, hc, hs⟩ := (HR1.out.below (hbw m wr HM.out)).at k (by rw [← HN.out]; exact hlt)
      obtain ⟨Ai', ci', hc', hs'⟩ := (HR2.out.below (hbw m wr HM.out)).at k (by rw [← HN.out]; exact hlt)
      have h1 : ∀ n, Sem.run Tryd.prog (convert 23 9 (.slice Ai ls1[k].length ci)) (wr.drewN n) = _ := fun n => run_str rfl ((hs.below (kept_drewN _ n)).2.1)
      have h2 : ∀ n, Sem.run Tryd.prog (convert 23 9 (.slice Ai' ls1[k].length ci')) (wr.drewN n) = _ := fun n => run_str rfl ((hs'.below (kept_drewN _ n)).2.1)
      have h3 := h1 1
      have h4 := h2 1
      obtain ⟨L, hL⟩ : ∃ L, ls1[k].length = L := ⟨_, rfl⟩
      rw [hL] at hc hc' h1 h2 h3 h4
      obtain ⟨sb, hsb⟩ : ∃ s, bstr ls1[k] = s := ⟨_, rfl⟩
      rw [hsb] at h1 h2 h3 h4
      have h5 : ((k : Nat) : Int) < (n1 : Int) := by omega
      clear hs hs' hL hsb hbw
      go_wp2_with fail
      go_quiet (fail)
      go_wp2_with fail
      go_roundw
      case rel => exact ⟨k + 1, by omega, by go_num, m + nq, by rw [HM.out, World.drewN_drewN]⟩
      case measure => simp [intOf]; omega
    · go_wp2_with fail
      go_ret
      exact ⟨rfl, m, HM.out⟩
end Go.Proofs.YtibhoekbjgoanaaDoor
