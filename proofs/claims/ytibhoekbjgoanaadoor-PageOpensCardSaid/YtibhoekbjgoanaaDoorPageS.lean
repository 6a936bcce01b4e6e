/- Pages: what a page is; the walk of page.sound. -/
import Derived.Test.YtibhoekbjgoanaaDoorPageW
set_option linter.unusedSimpArgs false
set_option linter.unusedVariables false
namespace Go.Proofs.YtibhoekbjgoanaaDoor
open Go.RowKit Go.Proofs.YtibhoekbjgoanaaDoor.Crc
def cntB (l : List UInt8) : Nat := (at8 l 5).toNat
def sizB (l : List UInt8) : Nat := wordB l 6
def riseB (l : List UInt8) (k : Nat) : Bool := (List.range k).all fun i => decide (endB l ((i : Int) - 1) ≤ endB l (i : Int))
def soundB (l : List UInt8) : Bool :=
  decide (l.length = 256) && (decide ((at8 l 0).toNat ≤ 127) && (decide (at8 l 4 ≠ 0) && (decide (2 * cntB l + sizB l ≤ 244) && (decide (endB l ((cntB l : Int) - 1) = sizB l) && (riseB l (cntB l) && zeroB ((l.take 252).drop (8 + 2 * cntB l + sizB l)))))))
theorem riseB_succ (l : List UInt8) (k : Nat) : riseB l (k + 1) = (riseB l k && decide (endB l ((k : Int) - 1) ≤ endB l (k : Int))) := by
  unfold riseB; rw [List.range_succ, List.all_append]; simp
theorem riseB_le (l : List UInt8) (k m : Nat) (hm : k ≤ m) (h : riseB l m = true) : riseB l k = true := by
  unfold riseB at h ⊢
  rw [List.all_eq_true] at h ⊢
  intro i hi
  exact h i (by rw [List.mem_range] at hi ⊢; omega)
set_option maxRecDepth 100000 in
set_option maxHeartbeats 600000 in
theorem sound_calls (A : Option Addr) (n c : Nat) (l : List UInt8) (w : World) (hn : n = l.length) (hb : Bytes w A l) (hc : n ≤ c) (hm : c ≤ 9223372036854775807) (hs : n ≤ 140737488355328) :
    Calls Tryd.prog 50 #[.slice A n c] w fun e w' => e = .returned (.bool (soundB l)) ∧ ∃ m, w' = w.drewN m := by
  by_cases h256 : l.length = 256
  · obtain ⟨b, o, rfl⟩ := hb.spot (by omega)
    have hn' : n = 256 := by omega
    subst hn'
    have cellAt : ∀ i, i < 256 → w.cell? ⟨b, o + i, none⟩ = some (.int .u8 ((at8 l i).toNat : Int)) := fun i hi => by
      obtain ⟨ad, h, hx⟩ := hb i (by omega)
      cases h
      rw [Addr.add_lit] at hx
      exact hx
    have x0 := cellAt 0 (by decide)
    rw [Nat.add_zero] at x0
    have x4 := cellAt 4 (by decide)
    have x5 := cellAt 5 (by decide)
    have HB := Lib.hid hb
    have HL := Lib.hid h256
    obtain ⟨u1, u2⟩ := ltu8 (at8 l 0)
    obtain ⟨u3, u4⟩ := ltu8 (at8 l 4)
    obtain ⟨u5, u6⟩ := ltu8 (at8 l 5)
    clear hb cellAt
    by_cases h0 : (at8 l 0).toNat ≤ 127
    · have d0 : decide (((at8 l 0).toNat : Int) > 127) = false := by simp; omega
      by_cases h4 : at8 l 4 = 0
      · have d4 : (((at8 l 4).toNat : Int) == 0) = true := by rw [h4]; rfl
        have e : soundB l = false := by unfold soundB; simp [h256, h0, h4]
        rw [e]
        clear e hn h256 h0 h4
        go_enter Tryd.func50, Tryd.ntmps50
        go_wp2_with fail
        go_ret
        exact ⟨rfl, 0, rfl⟩
      · have d4 : (((at8 l 4).toNat : Int) == 0) = false := by
          rw [beq_eq_false_iff_ne]; intro h; exact h4 (UInt8.toNat_inj.1 (by simpa using h))
        have e : soundB l = (decide (2 * cntB l + sizB l ≤ 244) && (decide (endB l ((cntB l : Int) - 1) = sizB l) && (riseB l (cntB l) && zeroB ((l.take 252).drop (8 + 2 * cntB l + sizB l))))) := by unfold soundB; simp [h256, h0, h4]
        have E := Lib.hid e
        have E0 := Lib.hid e
        rw [e]
        have hwd := word_calls (some ⟨b, o, none⟩) 256 c l 6
        rw [show ((6 : Nat) : Int) = 6 from rfl] at hwd
        have HWd := Lib.hid (fun (w' : World) (h : Bytes w' (some ⟨b, o, none⟩) l) => hwd w' HL.out.symm h (by decide) (by decide))
        clear e hn h256 h0 h4 hwd
        go_enter Tryd.func50, Tryd.ntmps50
        go_wp2_with fail
        go_quiet ((go_at_call 56; exact Calls.quiet_of (HWd.out _ (by exact HB.out))))
        obtain ⟨N, hN⟩ : ∃ N, (at8 l 5).toNat = N := ⟨_, rfl⟩
        obtain ⟨S, hS⟩ : ∃ S, wordB l 6 = S := ⟨_, rfl⟩
        have HNN := Lib.hid hN
        have hE : soundB l = (decide (2 * N + S ≤ 244) && (decide (endB l ((N : Int) - 1) = S) && (riseB l N && zeroB ((l.take 252).drop (8 + 2 * N + S))))) := by
          have := E.out
          unfold cntB sizB at this
          rw [hN, hS] at this
          exact this
        have HE := Lib.hid hE
        have hS2 := wordB_le l 6
        rw [hN] at u5 u6 x5 ⊢
        rw [hS] at hS2 ⊢
        have HEnd := Lib.hid (fun (m : Nat) (i : Int) (h1 : -1 ≤ i) (h2 : i < 0 ∨ 9 + 2 * i < (256 : Nat)) => end_calls (some ⟨b, o, none⟩) 256 c l i (w.drewN m) HL.out.symm (HB.out.below (kept_drewN w m)) h1 h2 (by decide))
        clear hE E HWd hN hS x0 x4 x5 u1 u2 u3 u4 d0 d4
        by_cases h244 : 2 * N + S ≤ 244
        · have d1 : decide (2 * (N : Int) + (S : Int) > 244) = false := by simp; omega
          have d3 : decide (8 + 2 * (N : Int) ≤ 252) = true := by simp; omega
          have hEn := Lib.hid (HEnd.out nq ((N : Int) - 1) (by omega) (by omega))
          go_wp2_with (go_at_call 54; refine hEn.out.mono ?_; rintro e w2 ⟨rfl, m2, rfl⟩; refine park ?_; intro q hq)
          clear hEn
          refine hq.out ?_
          clear hq
          by_cases hes : endB l ((N : Int) - 1) = S
          · rw [hes]
            have d2 : ((S : Int) != (S : Int)) = false := by simp
            have HES : Hid (soundB l = (riseB l N && zeroB ((l.take 252).drop (8 + 2 * N + S)))) := by
              show _ = _
              rw [HE.out]; simp [h244, hes]
            rw [World.drewN_drewN]
            clear hes HE
            generalize nq + m2 = m3
            go_wp2_with fail
            go_loopw [48] (fun i wr => ∃ k : Nat, k ≤ N ∧ i = .int .i64 k ∧ Hid (riseB l k = true ∧ ∃ m, wr = w.drewN m)) (fun i _ => N - (intOf i).toNat)
            case atStart => exact ⟨0, Nat.zero_le _, rfl, rfl, m3, rfl⟩
            case round =>
              obtain ⟨k, hk, rfl, HR⟩ := hrel
              obtain ⟨m, rfl⟩ := HR.out.2
              have HRi := Lib.hid HR.out.1
              clear HR
              by_cases hlt : k < N
              · have hE1 := Lib.hid (HEnd.out m (k : Int) (by omega) (by omega))
                go_wp2_with (go_at_call 54; refine hE1.out.mono ?_; rintro e w2 ⟨rfl, m4, rfl⟩; refine park ?_; intro q hq)
                refine hq.out ?_
                clear hq hE1
                rw [World.drewN_drewN]
                generalize m + m4 = m5
                have hE2 := Lib.hid (HEnd.out m5 ((k : Int) - 1) (by omega) (by omega))
                go_wp2_with (go_at_call 54; refine hE2.out.mono ?_; rintro e w2 ⟨rfl, m6, rfl⟩; refine park ?_; intro q hq)
                refine hq.out ?_
                clear hq hE2
                rw [World.drewN_drewN]
                generalize m5 + m6 = m7
                have hsu := riseB_succ l k
                rw [HRi.out, Bool.true_and] at hsu
                have hq1 := endB_le l (k : Int)
                have hq2 := endB_le l ((k : Int) - 1)
                by_cases hle : endB l ((k : Int) - 1) ≤ endB l (k : Int)
                · have d5 : decide (endB l (k : Int) < endB l ((k : Int) - 1)) = false := by simp; omega
                  have HN : Hid (riseB l (k + 1) = true ∧ ∃ m, w.drewN m7 = w.drewN m) := ⟨by rw [hsu]; simpa using hle, m7, rfl⟩
                  clear hsu hle HRi
                  go_wp2_with fail
                  go_roundw
                  case rel => exact ⟨k + 1, by omega, by go_num, HN⟩
                  case measure => simp [intOf]; omega
                · have d5 : decide (endB l (k : Int) < endB l ((k : Int) - 1)) = true := by simp; omega
                  have HF : Hid (soundB l = false) := by
                    show _ = _
                    rw [HES.out]
                    have : riseB l N = false := by
                      cases hr : riseB l N
                      · rfl
                      · have h3 := riseB_le l (k + 1) N (by omega) hr
                        rw [hsu] at h3
                        exact absurd (by simpa using h3) hle
                    rw [this]; rfl
                  clear hsu hle HRi
                  go_wp2_with fail
                  go_ret
                  exact ⟨by rw [← E0.out, HF.out]; rfl, m7, rfl⟩
              · obtain rfl : k = N := by omega
                have hCe := cellsAt_calls (some ⟨b, o, none⟩) 256 c l (w.drewN m) HL.out.symm (HB.out.below (kept_drewN w m)) (by decide) (by decide)
                rw [HNN.out] at hCe
                have HCe := Lib.hid hCe
                clear hCe
                have hzl : ((l.take 252).drop (8 + 2 * k + S)).length = 252 - (8 + 2 * k + S) := by
                  have h6 : l.length = 256 := HL.out
                  rw [List.length_drop, List.length_take, h6]; omega
                have hbt := ((HB.out.below (kept_drewN w m)).take 252).drop (8 + 2 * k + S)
                have hT := trimLeft_calls (some ⟨b, o + (8 + 2 * k + S), none⟩) (252 - (8 + 2 * k + S)) (c - (8 + 2 * k + S)) ((l.take 252).drop (8 + 2 * k + S)) (w.drewN m) hzl.symm hbt (by omega) (by omega)
                obtain ⟨dl, hdl⟩ : ∃ d, (((l.take 252).drop (8 + 2 * k + S)).dropWhile (· == 0)).length = d := ⟨_, rfl⟩
                have ez : ((dl : Int) == 0) = zeroB ((l.take 252).drop (8 + 2 * k + S)) := by
                  rw [Bool.eq_iff_iff, ← dropWhile_zero, hdl]; simp
                rw [hdl] at hT
                have HT := Lib.hid hT
                have EZ := Lib.hid ez
                have hne : ¬ c = 8 + 2 * k + S := by omega
                have f1 : (8 + 2 * (k : Int) + (S : Int)).toNat = 8 + 2 * k + S := by omega
                have f2 : 8 + 2 * (k : Int) + (S : Int) ≤ 252 := by omega
                have f3 : IntKind.i64.wrap (8 + 2 * (k : Int) + (S : Int)) = 8 + 2 * (k : Int) + (S : Int) := IntWalk.i64_in _ (by omega)
                clear hT ez hdl hbt hzl
                go_wp2_with (go_at_call 53; refine HCe.out.mono ?_; rintro e w' ⟨rfl, rfl⟩)
                go_at_call 62
                refine HT.out.mono ?_
                rintro e w' ⟨⟨A', c', rfl⟩, rfl⟩
                go_wp2_with fail
                go_ret
                refine ⟨?_, m, rfl⟩
                rw [← E0.out, HES.out, HRi.out, Bool.true_and, ← EZ.out]
                rfl
          · have d2 : (((endB l ((N : Int) - 1) : Nat) : Int) != (S : Int)) = true := by simp; omega
            have e : soundB l = false := by rw [HE.out]; simp [hes]
            have HF := Lib.hid e
            clear e hes
            go_wp2_with fail
            go_ret
            exact ⟨by rw [← E0.out, HF.out]; rfl, nq + m2, rfl⟩
        · have d1 : decide (2 * (N : Int) + (S : Int) > 244) = true := by simp; omega
          have e : soundB l = false := by rw [HE.out]; simp [h244]
          have HF := Lib.hid e
          clear e h244
          go_wp2_with fail
          go_ret
          exact ⟨by rw [← E0.out, HF.out]; rfl, nq, rfl⟩
    · have d0 : decide (((at8 l 0).toNat : Int) > 127) = true := by simp; omega
      have e : soundB l = false := by unfold soundB; simp [h256, h0]
      rw [e]
      clear e hn h256 h0
      go_enter Tryd.func50, Tryd.ntmps50
      go_wp2_with fail
      go_ret
      exact ⟨rfl, 0, rfl⟩
  · have e : soundB l = false := by unfold soundB; simp [h256]
    rw [e]
    have h2 : ((n : Int) != 256) = true := by simp; omega
    clear e hb hn h256
    go_enter Tryd.func50, Tryd.ntmps50
    go_wp2_with fail
    go_ret
    exact ⟨rfl, 0, rfl⟩
end Go.Proofs.YtibhoekbjgoanaaDoor
