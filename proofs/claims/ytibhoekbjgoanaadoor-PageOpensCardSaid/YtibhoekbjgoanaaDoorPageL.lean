/- Pages: the walks of page.left, Free. -/
import Derived.Test.YtibhoekbjgoanaaDoorPageC
set_option linter.unusedSimpArgs false
set_option linter.unusedVariables false
namespace Go.Proofs.YtibhoekbjgoanaaDoor
open Go.RowKit Go.Proofs.YtibhoekbjgoanaaDoor.Crc
/-- How many bytes of a sound page's room are left. -/
def leftP (l : List UInt8) : Nat := 244 - (2 * cntB l + sizB l)
def freeP (l : List UInt8) : Int := if soundB l = true then (if leftP l < 2 then -1 else (leftP l : Int) - 2) else -1
set_option maxHeartbeats 400000 in
theorem left_calls (A : Option Addr) (n c : Nat) (l : List UInt8) (w : World) (hn : n = l.length) (hb : Bytes w A l) (hS : soundB l = true) :
    Calls Tryd.prog 51 #[.slice A n c] w fun e w' => e = .returned (.int .i64 (leftP l : Int)) ∧ ∃ m, w' = w.drewN m := by
  have h256 := soundB_len l hS
  have hroom := soundB_room l hS
  obtain ⟨b, o, rfl⟩ := hb.spot (by omega)
  obtain ⟨ad, h, x5⟩ := hb 5 (by omega)
  cases h
  rw [Addr.add_lit] at x5
  obtain ⟨u1, u2⟩ := ltu8 (at8 l 5)
  have hwd := word_calls (some ⟨b, o, none⟩) n c l 6
  rw [show ((6 : Nat) : Int) = 6 from rfl] at hwd
  obtain ⟨S, hS6⟩ : ∃ S, wordB l 6 = S := ⟨_, rfl⟩
  rw [hS6] at hwd
  have HWd := Lib.hid (fun (w' : World) (h : Bytes w' (some ⟨b, o, none⟩) l) => hwd w' hn h (by omega) (by omega))
  have HB := Lib.hid hb
  obtain ⟨N, hN⟩ : ∃ N, (at8 l 5).toNat = N := ⟨_, rfl⟩
  have hlp : (leftP l : Int) = 244 - 2 * (N : Int) - (S : Int) := by
    have h1 : 2 * (at8 l 5).toNat + wordB l 6 ≤ 244 := hroom
    show ((244 - (2 * (at8 l 5).toNat + wordB l 6) : Nat) : Int) = _
    rw [hN, hS6] at h1 ⊢
    omega
  have HLP := Lib.hid hlp
  have hroom2 : 2 * N + S ≤ 244 := by unfold cntB sizB at hroom; rw [hN, hS6] at hroom; exact hroom
  rw [hN] at x5 u1 u2
  have h4 : (5 : Int) < (n : Int) := by omega
  rw [HLP.out]
  clear hb hn hwd h256 hroom hS hN hS6 hlp
  go_enter Tryd.func51, Tryd.ntmps51
  go_wp2_with fail
  go_quiet ((go_at_call 56; exact Calls.quiet_of (HWd.out _ (by exact HB.out))))
  go_wp2_with fail
  go_ret
  exact ⟨rfl, _, rfl⟩
set_option maxHeartbeats 400000 in
theorem Free_calls (A : Option Addr) (n c : Nat) (l : List UInt8) (w : World) (hn : n = l.length) (hb : Bytes w A l) (hc : n ≤ c) (hm : c ≤ 9223372036854775807) (hs : n ≤ 140737488355328) :
    Calls Tryd.prog 27 #[.slice A n c] w fun e w' => e = .returned (.int .i64 (freeP l)) ∧ ∃ m, w' = w.drewN m := by
  have HS := Lib.hid (sound_calls A n c l w hn hb hc hm hs)
  by_cases hS : soundB l = true
  · rw [hS] at HS
    have HL := Lib.hid (fun m => left_calls A n c l (w.drewN m) hn (hb.below (kept_drewN w m)) hS)
    have hle : leftP l ≤ 244 := by unfold leftP; omega
    have e : freeP l = if leftP l < 2 then -1 else (leftP l : Int) - 2 := by unfold freeP; rw [if_pos hS]
    rw [e]
    obtain ⟨L, hL⟩ : ∃ L, leftP l = L := ⟨_, rfl⟩
    rw [hL] at HL hle ⊢
    obtain ⟨F, hF⟩ : ∃ F, (if L < 2 then -1 else (L : Int) - 2) = F := ⟨_, rfl⟩
    have HF := Lib.hid hF
    rw [hF]
    have hF2 : max ((L : Int) - 2) (-1) = F := by rw [← hF]; split <;> omega
    clear hb hn e hS hL hF
    go_enter Tryd.func27, Tryd.ntmps27
    go_wp2_with (first | (go_at_call 50; refine HS.out.mono ?_; rintro e w2 ⟨rfl, m2, rfl⟩) | (go_at_call 51; refine (HL.out _).mono ?_; rintro e w3 ⟨rfl, m3, rfl⟩; rw [World.drewN_drewN]; refine park ?_; intro q hq))
    refine hq.out ?_
    clear hq
    go_wp2_with fail
    go_ret
    exact ⟨rfl, _, rfl⟩
  · have hS' : soundB l = false := by simpa using hS
    rw [hS'] at HS
    have e : freeP l = -1 := by unfold freeP; rw [if_neg hS]
    rw [e]
    clear hb hn e hS hS'
    go_enter Tryd.func27, Tryd.ntmps27
    go_wp2_with (go_at_call 50; refine HS.out.mono ?_; rintro e w2 ⟨rfl, m2, rfl⟩)
    go_ret
    exact ⟨rfl, _, rfl⟩
end Go.Proofs.YtibhoekbjgoanaaDoor
