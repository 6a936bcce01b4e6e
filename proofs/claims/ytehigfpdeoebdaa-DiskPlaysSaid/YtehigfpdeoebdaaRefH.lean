/- The document's disk: Sync; Ints. -/
import Derived.Test.YtehigfpdeoebdaaRefG
import Derived.Deep.QuietTactic
import Derived.BigQuiet
set_option linter.unusedSimpArgs false
set_option linter.unusedVariables false
namespace Go.Proofs.Ytehigfpdeoebdaa.Dsk
open Go.RowKit
def syncL : List (Int × List UInt8) → List (List UInt8) → List (List UInt8)
  | [], h => h
  | e :: r, h => syncL r (h.set e.1.toNat e.2)
theorem syncL_snoc (e : Int × List UInt8) : ∀ (l : List (Int × List UInt8)) (h : List (List UInt8)), syncL (l ++ [e]) h = (syncL l h).set e.1.toNat e.2
  | [], h => rfl
  | x :: l, h => by rw [List.cons_append, syncL, syncL_snoc e l, syncL]
theorem syncL_length : ∀ (l : List (Int × List UInt8)) (h : List (List UInt8)), (syncL l h).length = h.length
  | [], h => rfl
  | e :: l, h => by rw [syncL, syncL_length l]; simp
theorem syncL_len : ∀ (l : List (Int × List UInt8)) (h : List (List UInt8)), (∀ e ∈ l, e.2.length = 256) → (∀ x ∈ h, x.length = 256) → ∀ x ∈ syncL l h, x.length = 256
  | [], h, _, hh => hh
  | e :: l, h, hl, hh => syncL_len l _ (fun x hx => hl x (.tail _ hx)) (fun x hx => by
      rcases List.mem_or_eq_of_mem_set hx with hx | rfl
      · exact hh x hx
      · exact hl e (.head _))
theorem below_drewN (w : World) (n : Nat) : Below w.heap.size w (w.drewN n) := ⟨rfl, rfl, rfl, Nat.le_refl _, fun _ _ => rfl⟩
/-- A sector of the document's disk is written. -/
theorem RefAt.setH {w : World} {base a g n c : Nat} {wv : Value} {r : RefM} (h : RefAt w base a (.slice (some ⟨g, 0, none⟩) n c) wv r) (k : Nat) (s : List UInt8) (hs : s.length = 256) :
    RefAt (w.setCell ⟨g, k, none⟩ (.string (bstr s))) base a (.slice (some ⟨g, 0, none⟩) n c) wv { r with held := r.held.set k s } := by
  have hk' : Kept (· = g) w (w.setCell ⟨g, k, none⟩ (.string (bstr s))) := Kept.set1 w g k _
  refine ⟨?_, ?_, ?_, h.lo, ⟨?_, by simpa using h.ok.wlen, by simpa using h.ok.size, h.ok.wsize, h.ok.steps, h.ok.left⟩⟩
  · rw [hk'.block a (Array.getElem?_eq_some_iff.1 h.blk).1 (fun e => h.ha (by rw [e]; rfl))]; exact h.blk
  · have := h.row.set k (.string (bstr s))
    have e : ((r.held.map strW).set k (.string (bstr s))) = (r.held.set k s).map strW := by rw [List.map_set]; rfl
    rw [e] at this; exact this
  · exact own_kept h.wrow hk' (fun k e e' => h.hw g rfl (by rw [← e', e]))
  · intro l hl
    rcases List.mem_or_eq_of_mem_set hl with hl | rfl
    · exact h.ok.hlen l hl
    · exact hs
def RefM.settled (r : RefM) : RefM := { r with held := syncL r.wait r.held, wait := [] }
def RefM.sync (r : RefM) : RefM := r.settled.step
set_option maxRecDepth 100000 in
set_option maxHeartbeats 400000 in
theorem SyncR_off {w : World} {base a : Nat} {hv wv : Value} {r : RefM} (h : RefAt w base a hv wv r) (ho : r.left = 0) :
    Calls Try.prog 11 #[.pointer (some ⟨a, 0, none⟩)] w fun e w' => e = .returned (.int .i64 10) ∧ w = w' := by
  have c3 := h.c3
  have e4 : (r.left == (0 : Int)) = true := by simp [ho]
  clear h ho
  go_enter Try.func11, Try.ntmps11
  go_wp2
  go_ret
  exact ⟨rfl, rfl⟩
set_option maxRecDepth 100000 in
set_option maxHeartbeats 2000000 in
theorem SyncR_ok {w : World} {base a : Nat} {hv wv : Value} {r : RefM} (h : RefAt w base a hv wv r) (ho : ¬ r.left = 0) (hst : r.steps + 1 ≤ 1000000) :
    Calls Try.prog 11 #[.pointer (some ⟨a, 0, none⟩)] w fun e w' => e = .returned (.int .i64 0) ∧ RefAt w' base a hv (.slice none 0 0) r.sync ∧ Kept (FootR a hv wv) w w' := by
  have c3 := h.c3
  have e4 : (r.left == (0 : Int)) = false := by simp [ho]
  have H := Lib.hid h
  have hs := h.ok.size
  have hws := h.ok.wsize
  have HSt := Lib.hid hst
  obtain ⟨A, c, rfl, _⟩ := h.hform
  obtain ⟨B, c', rfl, _⟩ := h.wform
  clear h ho hst
  go_enter Try.func11, Try.ntmps11
  go_wp2
  obtain ⟨wo, rfl⟩ : ∃ wo : World, wo = w := ⟨_, rfl⟩
  go_loopw [3] (fun s wr => ∃ j : Nat, j ≤ r.wait.length ∧ s = .int .i64 j ∧ Hid (RefAt wr base a (.slice A r.held.length c) (.slice B r.wait.length c') { r with held := syncL (r.wait.take j) r.held } ∧ Kept (FootR a (.slice A r.held.length c) (.slice B r.wait.length c')) wo wr)) (fun s _ => r.wait.length - (intOf s).toNat)
  case atStart => exact ⟨0, Nat.zero_le _, rfl, H.out, Kept.refl _ _⟩
  case round =>
    obtain ⟨j, hj, rfl, HR⟩ := hrel
    have c1 := HR.out.1.c1
    have c0 := HR.out.1.c0
    by_cases hlt : j < r.wait.length
    · obtain ⟨B2, c2, hBB, hB⟩ := HR.out.1.wform
      obtain ⟨g2, hg2, q0, q1, _⟩ := hB j hlt
      injection hBB with hB1 _ hB3
      subst hB1
      subst hB3
      subst hg2
      have hel := H.out.ok.wlen _ (List.getElem_mem hlt)
      simp only [] at q0 q1
      obtain ⟨e, he⟩ : ∃ e, r.wait[j] = e := ⟨_, rfl⟩
      have HEe := Lib.hid he
      rw [he] at q0 q1 hel
      obtain ⟨k, hk⟩ := Int.eq_ofNat_of_zero_le hel.2.1
      have hkl : k < r.held.length := by omega
      obtain ⟨A2, c3, hAA, hA⟩ := HR.out.1.hform
      simp only [syncL_length] at hAA
      injection hAA with hA1 _ hA3
      subst hA1
      subst hA3
      obtain ⟨g, hg, p0, p1⟩ := hA k (by simpa [syncL_length] using hkl)
      subst hg
      rw [hk] at q0
      obtain ⟨old, hold⟩ : ∃ old, ((syncL (List.take j r.wait) r.held)[k]'(by simpa [syncL_length] using hkl)) = old := ⟨_, rfl⟩
      simp only [hold] at p0
      have HEk := Lib.hid hk
      have HEl := Lib.hid hel.1
      have HT : Hid (syncL (r.wait.take (j + 1)) r.held = (syncL (r.wait.take j) r.held).set k e.2) := Lib.hid (by rw [List.take_succ_eq_append_getElem hlt, he, syncL_snoc, hk]; rfl)
      clear he hk hel hB hA hold
      go_wp2_with fail
      go_still_tail 21, (by kernel_rfl)
      have HB6 : Hid (Below wr.heap.size wr (wr.drewN 1)) := below_drewN wr 1
      change wpList _ _ _ _ _ (wr.drewN 1)
      have p06 : (wr.drewN 1).cell? ⟨g, k, none⟩ = some (.string (bstr old)) := p0
      have p16 : (wr.drewN 1).frozen? ⟨g, k, none⟩ = false := p1
      obtain ⟨w6, hw6⟩ : ∃ w6, wr.drewN 1 = w6 := ⟨_, rfl⟩
      rw [hw6] at HB6 p06 p16 ⊢
      clear hw6 p0 p1 q0 q1
      have HD : Hid (RefAt (w6.setCell ⟨g, k, none⟩ (.string (bstr e.2))) base a (.slice (some ⟨g, 0, none⟩) r.held.length c) (.slice (some ⟨g2, 0, none⟩) r.wait.length c') { r with held := syncL (r.wait.take (j + 1)) r.held }) := by
        rw [HT.out]; exact (HR.out.1.below HB6.out).setH k e.2 HEl.out
      go_wp2
      go_roundw
      case rel => exact ⟨j + 1, by omega, by go_num, HD.out, (HR.out.2.trans (Kept.of_below HB6.out)).trans ((Kept.set1 w6 g k _).mono (fun q _ e => .inr (.inl (by rw [e]; rfl))))⟩
      case measure => simp [intOf]; omega
    · obtain rfl : j = r.wait.length := by omega
      have hR1 := HR.out.1
      rw [List.take_length] at hR1
      have f1 := hR1.fr 1
      have hD : RefAt (wr.setCell ⟨a, 1, none⟩ (.slice none 0 0)) base a (.slice A r.held.length c) (.slice none 0 0) r.settled := by
        have hk' : Kept (· = a) wr (wr.setCell ⟨a, 1, none⟩ (.slice none 0 0)) := Kept.set1 wr a 1 _
        exact ⟨by rw [blk_put hR1.blk]; rfl, hR1.row.kept hk' (fun k e e' => hR1.ha (by rw [e, e'])), ⟨rfl, .inl ⟨rfl, rfl⟩⟩, H.out.lo, ⟨hR1.ok.hlen, by simp [RefM.settled], by simpa [RefM.settled, syncL_length] using H.out.ok.size, by simp [RefM.settled], H.out.ok.steps, H.out.ok.left⟩⟩
      have HD := Lib.hid hD
      have HKw := Lib.hid (HR.out.2)
      have HSp := Lib.hid (stepR_calls HD.out (by have := HSt.out; simp only [RefM.settled]; omega))
      clear hR1 hD HR
      go_wp2_with (go_at_call 26; refine HSp.out.mono ?_; rintro e w5 ⟨rfl, hD5, hk5⟩)
      go_ret
      exact ⟨rfl, hD5, HKw.out.trans (((Kept.set1 wr a 1 _).mono (fun b _ e => .inl e)).trans (hk5.mono (fun b _ e => .inl e)))⟩
theorem drewN_two (w : World) (n m : Nat) : (w.drewN n).drewN m = w.drewN (n + m) := by simp [World.drewN, Nat.add_assoc]
def intsB : List Int → List Int → Bool := fun a b => a == b
set_option maxRecDepth 100000 in
set_option maxHeartbeats 1000000 in
/-- Ints: the same numbers, where they are the same. -/
theorem Ints_same {w : World} (A B : Option Addr) (ca cb : Nat) (vs : List Value) (is : List Int) (hv : vs = is.map iv) (hA : ValsAt w A vs) (hB : ValsAt w B vs) (hl : is.length ≤ 1000) :
    Calls Try.prog 30 #[.slice A is.length ca, .slice B is.length cb] w fun e w' => e = .returned (.bool true) ∧ ∃ n, w' = w.drewN n := by
  have HV := Lib.hid hv
  have HA := Lib.hid hA
  have HB := Lib.hid hB
  clear hv hA hB
  go_enter Try.func30, Try.ntmps30
  go_wp2
  obtain ⟨wo, rfl⟩ : ∃ wo : World, wo = w := ⟨_, rfl⟩
  go_loopw [5] (fun s wr => ∃ j : Nat, j ≤ is.length ∧ s = .int .i64 j ∧ ∃ n, wr = wo.drewN n) (fun s _ => is.length - (intOf s).toNat)
  case atStart => exact ⟨0, Nat.zero_le _, rfl, 0, rfl⟩
  case round =>
    obtain ⟨j, hj, rfl, n, rfl⟩ := hrel
    by_cases hlt : j < is.length
    · have hlv : j < vs.length := by rw [HV.out]; simpa using hlt
      obtain ⟨b1, o1, e1, _⟩ := HA.out.spot (by omega)
      obtain ⟨b2, o2, e2, _⟩ := HB.out.spot (by omega)
      subst e1
      subst e2
      have p1 := HA.out.at j hlv
      have p2 := HB.out.at j hlv
      have hx : vs[j] = .int .i64 is[j] := by have := HV.out; subst this; simp [iv]
      rw [hx] at p1 p2
      obtain ⟨x, hxx⟩ : ∃ x, is[j] = x := ⟨_, rfl⟩
      rw [hxx] at p1 p2
      clear hx hxx
      go_wp2_with fail
      go_quiet (fail)
      go_wp2
      go_roundw
      case rel => exact ⟨j + 1, by omega, by go_num, _, rfl⟩
      case measure => simp [intOf]; omega
    · obtain rfl : j = is.length := by omega
      go_wp2
      go_ret
      exact ⟨rfl, n, rfl⟩
end Go.Proofs.Ytehigfpdeoebdaa.Dsk
