/- Pages: the walks of Count, left, Free. -/
import Derived.Test.YtibhoekbjgoanaaDoorPageO
set_option linter.unusedSimpArgs false
set_option linter.unusedVariables false
namespace Go.Proofs.YtibhoekbjgoanaaDoor
open Go.RowKit Go.Proofs.YtibhoekbjgoanaaDoor.Crc
theorem soundB_len (l : List UInt8) (h : soundB l = true) : l.length = 256 := by
  unfold soundB at h
  simp only [Bool.and_eq_true, decide_eq_true_eq] at h
  exact h.1
theorem soundB_room (l : List UInt8) (h : soundB l = true) : 2 * cntB l + sizB l ≤ 244 := by
  unfold soundB at h
  simp only [Bool.and_eq_true, decide_eq_true_eq] at h
  exact h.2.2.2.1
def countP (l : List UInt8) : Nat := if soundB l = true then cntB l else 0
set_option maxHeartbeats 400000 in
theorem Count_calls (A : Option Addr) (n c : Nat) (l : List UInt8) (w : World) (hn : n = l.length) (hb : Bytes w A l) (hc : n ≤ c) (hm : c ≤ 9223372036854775807) (hs : n ≤ 140737488355328) :
    Calls Tryd.prog 25 #[.slice A n c] w fun e w' => e = .returned (.int .i64 (countP l : Int)) ∧ ∃ m, w' = w.drewN m := by
  have HS := Lib.hid (sound_calls A n c l w hn hb hc hm hs)
  by_cases hS : soundB l = true
  · rw [hS] at HS
    have h256 := soundB_len l hS
    obtain ⟨b, o, rfl⟩ := hb.spot (by omega)
    have x4 : ∀ m, (w.drewN m).cell? ⟨b, o + 5, none⟩ = some (.int .u8 ((at8 l 5).toNat : Int)) := fun m => by
      obtain ⟨ad, h, hx⟩ := (hb.below (kept_drewN w m)) 5 (by omega)
      cases h
      rw [Addr.add_lit] at hx
      exact hx
    obtain ⟨u1, u2⟩ := ltu8 (at8 l 5)
    have e : countP l = (at8 l 5).toNat := by unfold countP cntB; rw [if_pos hS]
    rw [e]
    have h4 : (5 : Int) < (n : Int) := by omega
    have HX := Lib.hid x4
    clear hb hn e hS h256 x4
    go_enter Tryd.func25, Tryd.ntmps25
    go_wp2_with (go_at_call 50; refine HS.out.mono ?_; rintro e w2 ⟨rfl, m2, rfl⟩; refine park ?_; intro q hq)
    have x4 := HX.out m2
    refine hq.out ?_
    clear hq
    go_wp2_with fail
    go_ret
    exact ⟨rfl, m2, rfl⟩
  · have hS' : soundB l = false := by simpa using hS
    rw [hS'] at HS
    have e : countP l = 0 := by unfold countP; rw [if_neg hS]
    rw [e]
    clear hb hn e hS hS'
    go_enter Tryd.func25, Tryd.ntmps25
    go_wp2_with (go_at_call 50; refine HS.out.mono ?_; rintro e w2 ⟨rfl, m2, rfl⟩)
    go_ret
    exact ⟨rfl, _, rfl⟩
end Go.Proofs.YtibhoekbjgoanaaDoor
