/- Pages: the walk of page.shift. -/
import Derived.Test.YtibhoekbjgoanaaDoorPageH
set_option linter.unusedSimpArgs false
set_option linter.unusedVariables false
namespace Go.Proofs.YtibhoekbjgoanaaDoor
open Go.RowKit Go.Proofs.YtibhoekbjgoanaaDoor.Crc
theorem shiftB_at (l : List UInt8) (i : Nat) (d : Int) (m j : Nat) (h : j < 8) : at8 (shiftB l i d m) j = at8 l j := by
  induction m with
  | zero => rfl
  | succ m ih =>
    show at8 (setW _ _ _) j = _
    unfold setW
    rw [at8_set_ne _ _ _ _ (by omega), at8_set_ne _ _ _ _ (by omega), ih]
theorem endB_nat (l : List UInt8) (k : Nat) : endB l (k : Int) = wordB l (8 + 2 * k) := by
  unfold endB; rw [if_neg (by omega)]; rfl
set_option maxRecDepth 100000 in
set_option maxHeartbeats 400000 in
theorem shift_calls (g : Nat) (l : List UInt8) (i N : Nat) (d : Int) (w : World) (hb : BlkB w g 5 l) (hl : l.length = 256) (hN : (at8 l 5).toNat = N) (hi : i ≤ N) (hfit : N ≤ 122)
    (he : ∀ k : Nat, i ≤ k → k < N → 0 ≤ (endB l (k : Int) : Int) + d ∧ (endB l (k : Int) : Int) + d < 65536) (h6 : 0 ≤ (wordB l 6 : Int) + d ∧ (wordB l 6 : Int) + d < 65536) :
    Calls Tryd.prog 57 #[.slice (some ⟨g, 0, none⟩) 256 256, .int .i64 (i : Int), .int .i64 d] w fun e w' => e = .returned (.tuple #[]) ∧ BlkB w' g 5 (setW (shiftB l i d (N - i)) 6 ((wordB l 6 : Int) + d).toNat) ∧ Kept (· = g) w w' := by
  have HI : Hid (BlkB w g 5 (shiftB l i d 0) ∧ Kept (· = g) w w) := ⟨hb, Kept.refl _ _⟩
  have HL := Lib.hid hl
  have HN := Lib.hid hN
  have HE := Lib.hid he
  have H6 := Lib.hid h6
  clear hb hl hN he h6
  go_enter Tryd.func57, Tryd.ntmps57
  go_wp2_with fail
  go_loopw [1] (fun v wr => ∃ k : Nat, i + k ≤ N ∧ v = .int .i64 ((i + k : Nat) : Int) ∧ Hid (BlkB wr g 5 (shiftB l i d k) ∧ Kept (· = g) w wr)) (fun v _ => N - (intOf v).toNat)
  case atStart => exact ⟨0, by omega, rfl, HI⟩
  case round =>
    obtain ⟨k, hk, rfl, HR⟩ := hrel
    have x5 := (HR.out.1.cell 5 (by rw [shiftB_len, HL.out]; decide)).1
    rw [shiftB_at _ _ _ _ _ (by decide), HN.out] at x5
    obtain ⟨j, hj⟩ : ∃ j, i + k = j := ⟨_, rfl⟩
    rw [hj] at hk ⊢
    have c1 : IntKind.i64.wrap (N : Int) = (N : Int) := IntWalk.i64_in _ (by omega)
    by_cases hlt : j < N
    · have hw : endB (shiftB l i d k) (j : Int) = endB l (j : Int) := by
        rw [endB_nat, endB_nat, shiftB_word _ _ _ _ _ (by omega)]
      have h1 := end_calls (some ⟨g, 0, none⟩) 256 256 (shiftB l i d k) (j : Int) wr (by rw [shiftB_len, HL.out]) HR.out.1.bytes (by omega) (by omega) (by decide)
      rw [hw] at h1
      have H1 := Lib.hid h1
      obtain ⟨E, hE⟩ : ∃ E : Nat, ((endB l (j : Int) : Int) + d) = (E : Int) := ⟨((endB l (j : Int) : Int) + d).toNat, by have := (HE.out j (by omega) hlt).1; omega⟩
      have hE2 : E < 65536 := by have := (HE.out j (by omega) hlt).2; omega
      have c2 : IntKind.i64.wrap ((endB l (j : Int) : Int) + d) = (E : Int) := by rw [hE]; exact IntWalk.i64_in _ (by omega)
      have HS := Lib.hid (fun m => setWord_calls g (shiftB l i d k) (8 + 2 * j) E (wr.drewN m) (HR.out.1.below (kept_drewN wr m)) (by rw [shiftB_len, HL.out]) (by omega) hE2)
      clear h1 hw
      go_wp2_with (first | (go_at_call 54; with_reducible refine H1.out.mono ?_; rintro e w2 ⟨rfl, m2, rfl⟩) | (go_at_call 55; refine (HS.out _).mono ?_; rintro e w3 ⟨rfl, hA, hk3⟩))
      refine ⟨⟨k + 1, by omega, by rw [show ((i + (k + 1) : Nat) : Int) = (j : Int) + 1 from by omega], ?_⟩, by simp [intOf]; omega⟩
      have e : shiftB l i d (k + 1) = setW (shiftB l i d k) (8 + 2 * j) E := by
        show setW _ _ _ = _
        rw [hj, hE]; rfl
      exact ⟨by rw [e]; exact hA, (HR.out.2.trans (Kept.of_below (kept_drewN wr m2))).trans hk3⟩
    · have hjN : j = N := by omega
      subst hjN
      have hkk : k = j - i := by omega
      subst hkk
      have hw : wordB (shiftB l i d (j - i)) 6 = wordB l 6 := shiftB_word _ _ _ _ _ (by omega)
      have h1 := word_calls (some ⟨g, 0, none⟩) 256 256 (shiftB l i d (j - i)) 6 wr (by rw [shiftB_len, HL.out]) HR.out.1.bytes (by decide) (by decide)
      rw [hw, show ((6 : Nat) : Int) = 6 from rfl] at h1
      have H1 := Lib.hid h1
      obtain ⟨E, hE⟩ : ∃ E : Nat, ((wordB l 6 : Int) + d) = (E : Int) := ⟨((wordB l 6 : Int) + d).toNat, by have := H6.out.1; omega⟩
      have hE2 : E < 65536 := by have := H6.out.2; omega
      have c2 : IntKind.i64.wrap ((wordB l 6 : Int) + d) = (E : Int) := by rw [hE]; exact IntWalk.i64_in _ (by omega)
      have hs := fun m => setWord_calls g (shiftB l i d (j - i)) 6 E (wr.drewN m) (HR.out.1.below (kept_drewN wr m)) (by rw [shiftB_len, HL.out]) (by omega) hE2
      rw [show ((6 : Nat) : Int) = 6 from rfl] at hs
      have HS := Lib.hid hs
      have HE3 := Lib.hid hE
      clear h1 hw hE hs
      go_wp2_with (first | (go_at_call 56; with_reducible refine H1.out.mono ?_; rintro e w2 ⟨rfl, m2, rfl⟩) | (go_at_call 55; refine (HS.out _).mono ?_; rintro e w3 ⟨rfl, hA, hk3⟩))
      go_end0
      refine ⟨rfl, ?_, (HR.out.2.trans (Kept.of_below (kept_drewN wr m2))).trans hk3⟩
      rw [HE3.out]; exact hA
end Go.Proofs.YtibhoekbjgoanaaDoor
