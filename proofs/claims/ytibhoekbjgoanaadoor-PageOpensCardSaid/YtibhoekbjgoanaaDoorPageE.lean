/- Pages: the walk of page.cell. -/
import Derived.Test.YtibhoekbjgoanaaDoorPageT
set_option linter.unusedSimpArgs false
set_option linter.unusedVariables false
namespace Go.Proofs.YtibhoekbjgoanaaDoor
open Go.RowKit Go.Proofs.YtibhoekbjgoanaaDoor.Crc
set_option maxRecDepth 100000 in
set_option maxHeartbeats 200000 in
theorem cell_calls (b o n c : Nat) (l : List UInt8) (i : Nat) (w : World) (hn : n = l.length) (hb : Bytes w (some ⟨b, o, none⟩) l) (h256 : l.length = 256) (hc : n ≤ c) (hm : c ≤ 9223372036854775807) (hi : 8 + 2 * i < 255)
    (N E0 E1 : Nat) (hN : (at8 l 5).toNat = N) (hE0 : endB l ((i : Int) - 1) = E0) (hE1 : endB l (i : Int) = E1) (h01 : E0 ≤ E1) (hfit : 8 + 2 * N + E1 ≤ 252) :
    Calls Tryd.prog 58 #[.slice (some ⟨b, o, none⟩) n c, .int .i64 (i : Int)] w fun e w' => e = .returned (.slice (some ⟨b, o + (8 + 2 * N + E0), none⟩) (E1 - E0) (c - (8 + 2 * N + E0))) ∧ ∃ m, w' = w.drewN m := by
  have hCe := cellsAt_calls (some ⟨b, o, none⟩) n c l w hn hb (by omega) (by omega)
  rw [hN] at hCe
  have hCe2 : Calls Tryd.prog 53 #[.slice (some ⟨b, o, none⟩) n c] w fun e w' => e = .returned (.int .i64 ((8 + 2 * N : Nat) : Int)) ∧ w = w' := by
    have e : ((8 + 2 * N : Nat) : Int) = 8 + 2 * (N : Int) := by omega
    rw [e]; exact hCe
  obtain ⟨B, hB⟩ : ∃ B, 8 + 2 * N = B := ⟨_, rfl⟩
  rw [hB] at hCe2 hfit ⊢
  have HCe := Lib.hid hCe2
  have h1 := fun (w' : World) (h : Bytes w' (some ⟨b, o, none⟩) l) => end_calls (some ⟨b, o, none⟩) n c l ((i : Int) - 1) w' hn h (by omega) (by omega) (by omega)
  have h2 := fun (w' : World) (h : Bytes w' (some ⟨b, o, none⟩) l) => end_calls (some ⟨b, o, none⟩) n c l (i : Int) w' hn h (by omega) (by omega) (by omega)
  rw [hE0] at h1
  rw [hE1] at h2
  have H1 := Lib.hid h1
  have H2 := Lib.hid h2
  have HB := Lib.hid hb
  have HBd := Lib.hid (fun m => hb.below (kept_drewN w m))
  have hn2 : n = 256 := by omega
  subst hn2
  clear hCe hCe2 h1 h2 hb hn h256 hN hE0 hE1
  have f1 : E1 - E0 = (B + E1) - (B + E0) := by omega
  rw [f1]
  clear f1
  obtain ⟨F, hF⟩ : ∃ F, B + E0 = F := ⟨_, rfl⟩
  obtain ⟨G, hG⟩ : ∃ G, B + E1 = G := ⟨_, rfl⟩
  rw [hF, hG]
  have g1 : IntKind.i64.wrap ((B : Int) + (E0 : Int)) = (F : Int) := by rw [← hF]; exact IntWalk.i64_in _ (by omega)
  have g2 : IntKind.i64.wrap ((B : Int) + (E1 : Int)) = (G : Int) := by rw [← hG]; exact IntWalk.i64_in _ (by omega)
  have g3 : F ≤ G := by omega
  have g4 : G ≤ 252 := by omega
  go_enter Tryd.func58, Tryd.ntmps58
  go_wp2_with (first | (go_at_call 53; refine HCe.out.mono ?_; rintro e w' ⟨rfl, rfl⟩) | (go_at_call 54; with_reducible refine (H1.out _ HB.out).mono ?_; rintro e w2 ⟨rfl, m2, rfl⟩) | (go_at_call 54; with_reducible refine (H2.out _ (HBd.out _)).mono ?_; rintro e w2 ⟨rfl, m3, rfl⟩; rw [World.drewN_drewN]))
  go_ret
  exact ⟨rfl, _, rfl⟩
end Go.Proofs.YtibhoekbjgoanaaDoor
