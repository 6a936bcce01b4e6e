/- What a Save leaves that is cut, and what is opened behind a loss. -/
import Derived.Test.YtcgjejpekefjdaaDoorMasterV
set_option linter.unusedSimpArgs false
set_option linter.unusedVariables false
namespace Go.Proofs.YtcgjejpekefjdaaDoor
open Go.RowKit Go.Proofs.YtcgjejpekefjdaaDoor.Crc
open Go.Proofs.YtcgjejpekefjdaaDoor.Dsk
def MasM.olde (x : MasM) : Nat := if x.nx = 0 then x.e0 else x.e1
def MasM.oldf (x : MasM) : List Nat := if x.nx = 0 then x.f0 else x.f1
theorem MasM.save_old (x : MasM) : x.save x.olde x.oldf = x := by
  unfold MasM.save MasM.olde MasM.oldf
  split <;> rfl
theorem MasM.olde_le (x : MasM) : x.olde ≤ x.last.1 := by
  obtain ⟨pos, e0, f0, e1, f1⟩ := x
  unfold MasM.olde MasM.last MasM.nx MasM.slot
  simp only
  by_cases hz : e0 = 0 ∧ e1 = 0
  · obtain ⟨rfl, rfl⟩ := hz
    simp
  · rw [if_neg hz, if_neg hz]
    by_cases hl : e0 < e1
    · rw [if_pos hl, if_pos hl]; simp; omega
    · rw [if_neg hl, if_neg hl]; simp; omega
/-- A slot that is broken was not the latest one. -/
theorem MasM.save_none (x : MasM) : (x.save 0 []).last = x.last := by
  obtain ⟨pos, e0, f0, e1, f1⟩ := x
  unfold MasM.save MasM.last MasM.nx MasM.slot
  simp only
  by_cases hz : e0 = 0 ∧ e1 = 0
  · obtain ⟨rfl, rfl⟩ := hz
    simp
  · rw [if_neg hz]
    by_cases hl : e0 < e1
    · rw [if_pos hl, if_pos hl]
      simp [show ¬ e1 = 0 by omega, show 0 < e1 by omega]
    · rw [if_neg hl, if_neg hl]
      have : e0 ≠ 0 := fun h => hz ⟨h, by omega⟩
      simp [this, hz]
/-- What stands on a disk behind a loss. -/
structure After (d1 : DiskM) (x : MasM) (ep : Nat) (fs : List Nat) (er : Int) : Prop where
  size : d1.size = 3
  wl : d1.wait.length ≤ 1
  erv : er = 0 ∨ er = 3 ∨ er = 10
  told : ∀ (K : List Bool) (torn at_ : Int), (0 ≤ torn ∧ torn < d1.wait.length → 0 ≤ at_ ∧ at_ ≤ 256) → ∃ y : MasM, y.pos = 1 ∧ ParS ((d1.lose K torn at_).now 1) y.e0 y.f0 ∧ ParS ((d1.lose K torn at_).now 2) y.e1 y.f1 ∧ ((er ≠ 3 ∧ y.last = (ep, fs) ∧ fs.length ≤ 20) ∨ (er ≠ 0 ∧ y.last = x.last))
theorem told_of {d D : DiskM} {x : MasM} (hp : x.pos = 1) (s0 : SecOf (d.now x.pos) x.e0 x.f0) (s1 : SecOf (d.now (x.pos + 1)) x.e1 x.f1) (z : List UInt8) (hD : ∀ j, D.now j = if (x.pos : Int) + (x.nx : Int) = j then z else d.now j) (ev : Nat) (fv : List Nat) (hz : ParS z ev fv) :
    (x.save ev fv).pos = 1 ∧ ParS (D.now 1) (x.save ev fv).e0 (x.save ev fv).f0 ∧ ParS (D.now 2) (x.save ev fv).e1 (x.save ev fv).f1 := by
  rw [hp] at s0 s1 hD
  refine ⟨by rw [MasM.save_pos]; exact hp, ?_, ?_⟩
  · rw [hD]
    unfold MasM.save
    by_cases hn : x.nx = 0
    · rw [if_pos (by rw [hn]; rfl), if_pos hn]; exact hz
    · rw [if_neg (by omega), if_neg hn]; exact s0.par
  · rw [hD]
    unfold MasM.save
    by_cases hn : x.nx = 0
    · rw [if_neg (by omega), if_pos hn]; exact s1.par
    · have := x.nx_le
      rw [if_pos (by omega), if_neg hn]; exact hz
theorem now_sec {d : DiskM} {x : MasM} (hp : x.pos = 1) (s0 : SecOf (d.now x.pos) x.e0 x.f0) (s1 : SecOf (d.now (x.pos + 1)) x.e1 x.f1) : SecOf (d.now ((x.pos : Int) + (x.nx : Int))) x.olde x.oldf := by
  unfold MasM.olde MasM.oldf
  by_cases hn : x.nx = 0
  · rw [if_pos hn, if_pos hn, hn, show (x.pos : Int) + ((0 : Nat) : Int) = x.pos from Int.add_zero _]; exact s0
  · have := x.nx_le
    rw [if_neg hn, if_neg hn, show x.nx = 1 by omega]; exact s1
/-- A disk on which nothing waits. -/
theorem lose_nil {d : DiskM} (hw : d.wait = []) (K : List Bool) (torn at_ j : Int) : (d.lose K torn at_).now j = d.held j := by
  rw [lose_now, hw]; rfl
theorem lose_one {d : DiskM} {i : Int} {s : List UInt8} (hw : d.wait = [(i, s)]) (K : List Bool) (torn at_ j : Int) : (d.lose K torn at_).now j = if i = j then loseS K torn at_ 1 0 s (d.held i) else d.held j := by
  rw [lose_now, hw]
  show upd d.held i (loseS K torn at_ 1 0 s (d.held i)) j = _
  unfold upd
  by_cases h : j = i
  · rw [if_pos h, if_pos h.symm]
  · rw [if_neg h, if_neg (fun c => h c.symm)]
structure CutD (d : DiskM) (x : MasM) (n : Nat) : Prop where
  wait : d.wait = []
  size : d.size = 3
  cut : d.cut = true
  left : d.left = (n : Int)
  pos : x.pos = 1
  s0 : SecOf (d.now x.pos) x.e0 x.f0
  s1 : SecOf (d.now (x.pos + 1)) x.e1 x.f1
theorem CutD.held {d : DiskM} {x : MasM} {n : Nat} (h : CutD d x n) (j : Int) : d.held j = d.now j := by
  unfold DiskM.now; rw [h.wait]; rfl
theorem CutD.self {d : DiskM} {x : MasM} {n : Nat} (h : CutD d x n) : ∀ j, d.now j = if (x.pos : Int) + (x.nx : Int) = j then d.now ((x.pos : Int) + (x.nx : Int)) else d.now j := by
  intro j; split
  · next e => rw [e]
  · rfl
theorem CutD.none {d : DiskM} {x : MasM} {n : Nat} (h : CutD d x n) (ep : Nat) (fs : List Nat) (er : Int) (he : er = 3 ∨ er = 10) : After d x ep fs er := by
  refine ⟨h.size, by rw [h.wait]; exact Nat.zero_le _, by rcases he with h | h <;> simp [h], fun K torn at_ _ => ?_⟩
  have hs := now_sec h.pos h.s0 h.s1
  obtain ⟨g1, g2, g3⟩ := told_of (D := d.lose K torn at_) h.pos h.s0 h.s1 (d.now ((x.pos : Int) + (x.nx : Int))) (fun j => by rw [lose_nil h.wait, h.held]; exact h.self j) _ _ hs.par
  rw [MasM.save_old] at g1 g2 g3
  exact ⟨x, g1, g2, g3, .inr ⟨by rcases he with h | h <;> simp [h], rfl⟩⟩
theorem CutD.write {d : DiskM} {x : MasM} {n : Nat} (h : CutD d x n) (ep : Nat) (fs : List Nat) (he : x.last.1 < ep) (hS : SecOf (secU ep fs) ep fs) (hl : fs.length ≤ 20) : After (d.write ((x.pos : Int) + (x.nx : Int)) (secU ep fs)) x ep fs 10 := by
  have hw : (d.write ((x.pos : Int) + (x.nx : Int)) (secU ep fs)).wait = [((x.pos : Int) + (x.nx : Int), secU ep fs)] := by
    show d.wait ++ [_] = _
    rw [h.wait]; rfl
  refine ⟨h.size, by rw [hw]; exact Nat.le_refl _, .inr (.inr rfl), fun K torn at_ hat => ?_⟩
  rw [hw] at hat
  have hs := now_sec h.pos h.s0 h.s1
  have hnow : ∀ j, ((d.write ((x.pos : Int) + (x.nx : Int)) (secU ep fs)).lose K torn at_).now j = if (x.pos : Int) + (x.nx : Int) = j then loseS K torn at_ 1 0 (secU ep fs) (d.now ((x.pos : Int) + (x.nx : Int))) else d.now j := fun j => by
    rw [lose_one hw]
    show (if _ then loseS K torn at_ 1 0 (secU ep fs) (d.held _) else d.held j) = _
    rw [h.held, h.held]
  have hz : ParS (loseS K torn at_ 1 0 (secU ep fs) (d.now ((x.pos : Int) + (x.nx : Int)))) x.olde x.oldf ∨ ParS (loseS K torn at_ 1 0 (secU ep fs) (d.now ((x.pos : Int) + (x.nx : Int)))) ep fs ∨ ParS (loseS K torn at_ 1 0 (secU ep fs) (d.now ((x.pos : Int) + (x.nx : Int)))) 0 [] := by
    unfold loseS
    split
    · next hc =>
      have h2 := hat (by obtain ⟨⟨a1, a2⟩, a3⟩ := hc; exact ⟨a1, by simpa using a2⟩)
      exact hs.mix hS (by have := x.olde_le; omega) at_.toNat (by omega)
    · split
      · exact .inr (.inl hS.par)
      · exact .inl hs.par
  rcases hz with hz | hz | hz
  · obtain ⟨g1, g2, g3⟩ := told_of h.pos h.s0 h.s1 _ hnow _ _ hz
    rw [MasM.save_old] at g1 g2 g3
    exact ⟨x, g1, g2, g3, .inr ⟨by decide, rfl⟩⟩
  · obtain ⟨g1, g2, g3⟩ := told_of h.pos h.s0 h.s1 _ hnow _ _ hz
    exact ⟨_, g1, g2, g3, .inl ⟨by decide, (MasM.saved fs he).2.1, hl⟩⟩
  · obtain ⟨g1, g2, g3⟩ := told_of h.pos h.s0 h.s1 _ hnow _ _ hz
    exact ⟨_, g1, g2, g3, .inr ⟨by decide, x.save_none⟩⟩
theorem CutD.sync {d : DiskM} {x : MasM} {n : Nat} (h : CutD d x n) (ep : Nat) (fs : List Nat) (he : x.last.1 < ep) (hS : SecOf (secU ep fs) ep fs) (hl : fs.length ≤ 20) : After (d.write ((x.pos : Int) + (x.nx : Int)) (secU ep fs)).sync x ep fs 0 := by
  have hw : (d.write ((x.pos : Int) + (x.nx : Int)) (secU ep fs)).sync.wait = [] := rfl
  refine ⟨h.size, by rw [hw]; exact Nat.zero_le _, .inl rfl, fun K torn at_ hat => ?_⟩
  have hnow : ∀ j, ((d.write ((x.pos : Int) + (x.nx : Int)) (secU ep fs)).sync.lose K torn at_).now j = if (x.pos : Int) + (x.nx : Int) = j then secU ep fs else d.now j := fun j => by
    rw [lose_nil hw]
    exact write_now d _ j _
  obtain ⟨g1, g2, g3⟩ := told_of h.pos h.s0 h.s1 _ hnow _ _ hS.par
  exact ⟨_, g1, g2, g3, .inl ⟨by decide, (MasM.saved fs he).2.1, hl⟩⟩
/-- Save on a disk whose power is to be cut. -/
theorem Save_cut {w : World} {base a m r : Nat} {wv : Value} {d : DiskM} {x : MasM} (h : MD w base a m r wv d x) {k : Nat} (hc : CutD d x k) (hbd : d.bud ≤ 100) (hst : d.steps ≤ 100) (hh : HalfIs w) (A : Option Addr) (n c ep : Nat) (fs : List Nat) (hn : n = fs.length) (hnil : A = none → c = 0) (hU : U64s w A fs)
    (hA : ∀ ad, A = some ad → fs = [] ∨ ad.block < w.heap.size ∧ ¬ Foot a m wv ad.block ∧ ad.block ≠ r) (he : x.last.1 < ep ∧ ep ≤ 1000000000) (hfs : ∀ f ∈ fs, f < 18446744073709551616) :
    Calls Tryd.prog 13 #[.pointer (some ⟨r, 0, none⟩), .slice A n c, .int .i64 (ep : Int)] w fun e w' => ∃ er : Int, e = .returned (.int .i64 er) ∧ ∃ wv' d', Hid (DiskAt w' base a m wv' d') ∧ Hid (After d' x ep fs er) ∧ Hid (Kept (fun k => Foot a m wv k ∨ k = r) w w') := by
  by_cases hl : fs.length ≤ 20
  · refine (Save_ok h.disk h.base_le h.mas hh A n c ep fs hn hnil hU hA he hl hfs h.pos (by rw [hc.wait]; simp; omega) (by omega) h.rf).mono ?_
    rintro e w' ⟨he1, H⟩
    obtain ⟨wv', g1, g2, g3, g4⟩ := H.out
    have hS := secU_sec ep fs (by omega) he.2 hl hfs
    have hoff : d.isOff = (d.left == 0) := by unfold DiskM.isOff; rw [hc.cut]; rfl
    have hoff2 : ∀ i s, (d.write i s).isOff = (d.left - 1 == 0) := fun i s => by
      unfold DiskM.isOff DiskM.write DiskM.step DiskM.put
      simp only [hc.cut, if_true, Bool.true_and]
    refine ⟨_, he1, wv', _, g1, ?_, g3⟩
    unfold ok2 Dsk.DiskM.put2
    rw [hoff, hoff2]
    cases h0 : d.left == 0
    · cases h1 : d.left - 1 == 0
      · exact hc.sync ep fs he.1 hS hl
      · exact hc.write ep fs he.1 hS hl
    · exact hc.none ep fs 10 (.inr rfl)
  · refine (Save_big h.mas A n c (ep : Int) ⟨by omega, by omega⟩ (by omega)).mono ?_
    rintro e w' ⟨he1, hb⟩
    exact ⟨3, he1, wv, d, h.disk.below hb, hc.none ep fs 3 (.inl rfl), Kept.of_below hb⟩
end Go.Proofs.YtcgjejpekefjdaaDoor
