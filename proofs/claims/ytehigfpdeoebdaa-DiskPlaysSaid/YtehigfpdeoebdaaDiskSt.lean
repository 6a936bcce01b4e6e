/- The law of the disk: each call, on both sides. -/
import Derived.Test.YtehigfpdeoebdaaDiskSm
set_option linter.unusedSimpArgs false
set_option linter.unusedVariables false
namespace Go.Proofs.Ytehigfpdeoebdaa.Dsk
open Go.RowKit
/-- Behind a call of the disk: it is in step with the document's, as it will be. -/
def PostD (base a m : Nat) (wv : Value) (d : DiskM) (r' : RefM) (code : Int) (w : World) (e : Ending) (w' : World) : Prop :=
  e = .returned (.int .i64 code) ∧ ∃ wv' d', Hid (DiskAt w' base a m wv' d' ∧ Rel d' r' ∧ Kept (Foot a m wv) w w' ∧ (∀ k, Foot a m wv' k → Foot a m wv k ∨ w.heap.size ≤ k) ∧ d'.wait.length ≤ d.wait.length + 1 ∧ d'.bud ≤ d.bud + d.wait.length + 1 ∧ d'.steps ≤ d.steps + 1)
def PostR (base a : Nat) (hv wv : Value) (r' : RefM) (code : Int) (w : World) (e : Ending) (w' : World) : Prop :=
  e = .returned (.int .i64 code) ∧ ∃ wv', Hid (RefAt w' base a hv wv' r' ∧ Kept (FootR a hv wv) w w' ∧ (∀ k, FootR a hv wv' k → FootR a hv wv k ∨ w.heap.size ≤ k))
section
variable {w : World} {base a m : Nat} {wv : Value} {d : DiskM} {r : RefM}
theorem PostD.same {code : Int} (h : DiskAt w base a m wv d) (R : Rel d r) : PostD base a m wv d r code w (.returned (.int .i64 code)) w :=
  ⟨rfl, wv, d, h, R, Kept.refl _ _, fun k hk => .inl hk, by omega, by omega, by omega⟩
theorem PostR.same {hv : Value} {code : Int} (h : RefAt w base a hv wv r) : PostR base a hv wv r code w (.returned (.int .i64 code)) w :=
  ⟨rfl, wv, h, Kept.refl _ _, fun k hk => .inl hk⟩
def RefM.putC (r : RefM) (i : Int) (n : Nat) : Int := if (0 ≤ i ∧ i < r.held.length) ∧ n = 256 then (if r.left = 0 then 10 else 0) else 2
def RefM.putM (r : RefM) (i : Int) (l : List UInt8) : RefM := if ((0 ≤ i ∧ i < r.held.length) ∧ l.length = 256) ∧ ¬ r.left = 0 then (r.put i l).step else r
theorem Write_any (h : DiskAt w base a m wv d) (R : Rel d r) (hbase : base ≤ w.heap.size) (i : Int) (A : Option Addr) (c n : Nat) (l : List UInt8) (hn : n = l.length) (hy : Bytes w A l) (hbd : d.bud < 1000) (hst : d.steps + 1 ≤ 1000000) :
    Calls Try.prog 8 #[.pointer (some ⟨a, 0, none⟩), .int .i64 i, .slice A n c] w (PostD base a m wv d (r.putM i l) (r.putC i n) w) := by
  subst hn
  unfold RefM.putM RefM.putC
  by_cases h1 : (0 ≤ i ∧ i < r.held.length) ∧ l.length = 256
  · rw [if_pos h1]
    by_cases h2 : r.left = 0
    · rw [if_neg (fun x => x.2 h2), if_pos h2, h1.2]
      refine (Write_off h i ((R.has i).2 h1.1) (R.offT h2) A c).mono ?_
      rintro e w' ⟨rfl, rfl⟩
      exact PostD.same h R
    · rw [if_pos ⟨h1, h2⟩, if_neg h2, h1.2]
      refine (Write_calls h hbase i ((R.has i).2 h1.1) (R.offF h2) A c l h1.2 hy hbd hst).mono ?_
      rintro e w' ⟨rfl, wv', hD, hk, ho⟩
      refine ⟨rfl, wv', _, hD, R.put i l h2 h.ok.left.1, hk, ?_, ?_, ?_, ?_⟩
      · rintro k (hk | hk | hk)
        · exact .inl (.inl hk)
        · exact .inl (.inr (.inl hk))
        · rcases ho with e | ⟨z, e, hz⟩
          · exact .inl (.inr (.inr (by rw [← e]; exact hk)))
          · rw [e] at hk; cases hk; exact .inr hz
      · simp [DiskM.write, DiskM.step, DiskM.put]
      · simp only [DiskM.write, DiskM.step, DiskM.put]; omega
      · simp [DiskM.write, DiskM.step, DiskM.put]
  · rw [if_neg h1, if_neg (fun x => h1 x.1)]
    refine (Write_bad h i A l.length c ?_).mono ?_
    · by_cases h3 : 0 ≤ i ∧ i < r.held.length
      · exact .inr (by simp; exact fun e => h1 ⟨h3, e⟩)
      · exact .inl (fun x => h3 ((R.has i).1 x))
    · rintro e w' ⟨rfl, rfl⟩
      exact PostD.same h R
theorem PutR_any {hv : Value} (h : RefAt w base a hv wv r) (hbase : base ≤ w.heap.size) (i : Int) (n : Nat) (l : List UInt8) (hn : n = l.length) (hst : r.steps + 1 ≤ 1000000) (hw : r.wait.length < 1000) :
    Calls Try.prog 9 #[.pointer (some ⟨a, 0, none⟩), .int .i64 i, .string (bstr l)] w (PostR base a hv wv (r.putM i l) (r.putC i n) w) := by
  subst hn
  unfold RefM.putM RefM.putC
  by_cases h1 : (0 ≤ i ∧ i < r.held.length) ∧ l.length = 256
  · rw [if_pos h1]
    by_cases h2 : r.left = 0
    · rw [if_neg (fun x => x.2 h2), if_pos h2]
      refine (PutR_off h i l h1.1 h1.2 h2).mono ?_
      rintro e w' ⟨rfl, rfl⟩
      exact PostR.same h
    · rw [if_pos ⟨h1, h2⟩, if_neg h2]
      refine (PutR_ok h i l h1.1 h1.2 h2 hbase hst hw).mono ?_
      rintro e w' ⟨rfl, wv', hD, hk, ho⟩
      refine ⟨rfl, wv', hD, hk, ?_⟩
      rintro k (hk | hk | hk)
      · exact .inl (.inl hk)
      · exact .inl (.inr (.inl hk))
      · rcases ho with e | ⟨z, e, hz⟩
        · exact .inl (.inr (.inr (by rw [← e]; exact hk)))
        · rw [e] at hk; cases hk; exact .inr hz
  · rw [if_neg h1, if_neg (fun x => h1 x.1)]
    refine (PutR_bad h i l ?_).mono ?_
    · by_cases h3 : 0 ≤ i ∧ i < r.held.length
      · exact .inr (fun e => h1 ⟨h3, e⟩)
      · exact .inl h3
    · rintro e w' ⟨rfl, rfl⟩
      exact PostR.same h
def RefM.syncC (r : RefM) : Int := if r.left = 0 then 10 else 0
def RefM.syncM (r : RefM) : RefM := if r.left = 0 then r else r.sync
theorem Sync_any (h : DiskAt w base a m wv d) (R : Rel d r) (hr : r.Ok) (hst : d.steps + 1 ≤ 1000000) (hbd : d.bud + d.wait.length ≤ 1000) :
    Calls Try.prog 10 #[.pointer (some ⟨a, 0, none⟩)] w (PostD base a m wv d r.syncM r.syncC w) := by
  unfold RefM.syncM RefM.syncC
  by_cases h2 : r.left = 0
  · rw [if_pos h2, if_pos h2]
    refine (Sync_off h (R.offT h2)).mono ?_
    rintro e w' ⟨rfl, rfl⟩
    exact PostD.same h R
  · rw [if_neg h2, if_neg h2]
    refine (Sync_calls h (R.offF h2) hst hbd).mono ?_
    rintro e w' ⟨rfl, hD, hk⟩
    refine ⟨rfl, _, _, hD, R.sync hr h2 h.ok.left.1, hk, ?_, ?_, ?_, ?_⟩
    · rintro k (hk | hk | hk)
      · exact .inl (.inl hk)
      · exact .inl (.inr (.inl hk))
      · cases hk
    · simp [DiskM.sync, DiskM.step, DiskM.settled]
    · simp only [DiskM.sync, DiskM.step, DiskM.settled]; omega
    · simp [DiskM.sync, DiskM.step, DiskM.settled]
theorem SyncR_any {hv : Value} (h : RefAt w base a hv wv r) (hst : r.steps + 1 ≤ 1000000) :
    Calls Try.prog 11 #[.pointer (some ⟨a, 0, none⟩)] w (PostR base a hv wv r.syncM r.syncC w) := by
  unfold RefM.syncM RefM.syncC
  by_cases h2 : r.left = 0
  · rw [if_pos h2, if_pos h2]
    refine (SyncR_off h h2).mono ?_
    rintro e w' ⟨rfl, rfl⟩
    exact PostR.same h
  · rw [if_neg h2, if_neg h2]
    refine (SyncR_ok h h2 hst).mono ?_
    rintro e w' ⟨rfl, hD, hk⟩
    refine ⟨rfl, _, hD, hk, ?_⟩
    rintro k (hk | hk | hk)
    · exact .inl (.inl hk)
    · exact .inl (.inr (.inl hk))
    · cases hk
theorem Cut_any (h : DiskAt w base a m wv d) (R : Rel d r) (n : Int) (hn : n ≤ 9223372036854775807) :
    Calls Try.prog 12 #[.pointer (some ⟨a, 0, none⟩), .int .i64 n] w (PostD base a m wv d (r.cut n) (RefM.cutC n) w) := by
  by_cases h0 : n < 0
  · have e1 : RefM.cutC n = 2 := by unfold RefM.cutC; rw [if_pos h0]
    have e2 : r.cut n = r := by unfold RefM.cut; rw [if_pos h0]
    rw [e1, e2]
    refine (Cut_bad h n h0).mono ?_
    rintro e w' ⟨rfl, rfl⟩
    exact PostD.same h R
  · have e1 : RefM.cutC n = 0 := by unfold RefM.cutC; rw [if_neg h0]
    rw [e1]
    by_cases h2 : r.left = 0
    · have e2 : r.cut n = r := by unfold RefM.cut; rw [if_neg h0, if_pos h2]
      rw [e2]
      refine (Cut_off h n (by omega) (R.offT h2)).mono ?_
      rintro e w' ⟨rfl, rfl⟩
      exact PostD.same h R
    · refine (Cut_calls h n ⟨by omega, hn⟩ (R.offF h2)).mono ?_
      rintro e w' ⟨rfl, hD, hk⟩
      exact ⟨rfl, _, _, hD, R.cut n (by omega) h2, hk.mono (fun k _ e => .inl e), fun k hk => .inl hk, by simp, by simp only []; omega, by show d.steps ≤ d.steps + 1; omega⟩
theorem CutR_any {hv : Value} (h : RefAt w base a hv wv r) (n : Int) (hn : n ≤ 9223372036854775807) :
    Calls Try.prog 13 #[.pointer (some ⟨a, 0, none⟩), .int .i64 n] w (PostR base a hv wv (r.cut n) (RefM.cutC n) w) := by
  refine (CutR_calls h n hn).mono ?_
  rintro e w' ⟨rfl, hD, hk⟩
  exact ⟨rfl, _, hD, hk.mono (fun k _ e => .inl e), fun k hk => .inl hk⟩
def RefM.spoilC (r : RefM) (i k : Int) : Int := if (0 ≤ i ∧ i < r.held.length) ∧ 0 ≤ k ∧ k < 256 then 0 else 2
def RefM.spoilM (r : RefM) (i k : Int) (b : UInt8) : RefM := if (0 ≤ i ∧ i < r.held.length) ∧ 0 ≤ k ∧ k < 256 then r.spoil i.toNat k.toNat b else r
theorem Spoil_any (h : DiskAt w base a m wv d) (R : Rel d r) (i k : Int) (b : UInt8) (hbd : d.bud < 1000) :
    Calls Try.prog 17 #[.pointer (some ⟨a, 0, none⟩), .int .i64 i, .int .i64 k, .int .u8 (b.toNat : Int)] w (PostD base a m wv d (r.spoilM i k b) (r.spoilC i k) w) := by
  unfold RefM.spoilM RefM.spoilC
  by_cases h1 : (0 ≤ i ∧ i < r.held.length) ∧ 0 ≤ k ∧ k < 256
  · rw [if_pos h1, if_pos h1]
    obtain ⟨z, rfl⟩ := Int.eq_ofNat_of_zero_le h1.2.1
    obtain ⟨y, rfl⟩ := Int.eq_ofNat_of_zero_le h1.1.1
    refine (Spoil_calls h (y : Int) ((R.has _).2 h1.1) z (by omega) b hbd).mono ?_
    rintro e w' ⟨rfl, hD, hk⟩
    exact ⟨rfl, _, _, hD, R.spoil y (by omega) z b, hk, fun k hk => .inl hk, by simp [DiskM.spoil], by simp only [DiskM.spoil]; omega, by show d.steps ≤ d.steps + 1; omega⟩
  · rw [if_neg h1, if_neg h1]
    refine (Spoil_bad h i k b ?_).mono ?_
    · by_cases h3 : 0 ≤ i ∧ i < r.held.length
      · right
        by_cases h4 : k < 0
        · exact .inl h4
        · right
          by_cases h5 : 256 ≤ k
          · exact h5
          · exact absurd ⟨h3, by omega, by omega⟩ h1
      · exact .inl (fun x => h3 ((R.has i).1 x))
    · rintro e w' ⟨rfl, rfl⟩
      exact PostD.same h R
theorem SpoilR_any {hv : Value} (h : RefAt w base a hv wv r) (hbase : base ≤ w.heap.size) (i k : Int) (b : UInt8) :
    Calls Try.prog 18 #[.pointer (some ⟨a, 0, none⟩), .int .i64 i, .int .i64 k, .int .u8 (b.toNat : Int)] w (PostR base a hv wv (r.spoilM i k b) (r.spoilC i k) w) := by
  unfold RefM.spoilM RefM.spoilC
  by_cases h1 : (0 ≤ i ∧ i < r.held.length) ∧ 0 ≤ k ∧ k < 256
  · rw [if_pos h1, if_pos h1]
    obtain ⟨z, rfl⟩ := Int.eq_ofNat_of_zero_le h1.2.1
    obtain ⟨y, rfl⟩ := Int.eq_ofNat_of_zero_le h1.1.1
    refine (SpoilR_ok h y (by omega) z (by omega) b hbase).mono ?_
    rintro e w' ⟨rfl, hD, hk⟩
    exact ⟨rfl, _, hD, hk, fun k hk => .inl hk⟩
  · rw [if_neg h1, if_neg h1]
    refine (SpoilR_bad h i k b ?_).mono ?_
    · by_cases h3 : 0 ≤ i ∧ i < r.held.length
      · right
        by_cases h4 : k < 0
        · exact .inl h4
        · right
          by_cases h5 : 256 ≤ k
          · exact h5
          · exact absurd ⟨h3, by omega, by omega⟩ h1
      · exact .inl h3
    · rintro e w' ⟨rfl, rfl⟩
      exact PostR.same h
/-- The codes of Lose. -/
def RefM.loseB (r : RefM) (torn at_ : Int) : Bool := decide ((0 ≤ torn ∧ torn < r.wait.length) ∧ (at_ < 0 ∨ 256 < at_))
theorem Lose_yes (h : DiskAt w base a m wv d) (R : Rel d r) (hr : r.Ok) (A : Option Addr) (c : Nat) (K : List Bool) (torn at_ : Int) (hK : Bools w A K) (hKl : K.length ≤ 9223372036854775807) (hb : r.loseB torn at_ = false)
    (ht2 : -9223372036854775808 ≤ torn ∧ torn ≤ 9223372036854775807) (ha2 : -9223372036854775808 ≤ at_ ∧ at_ ≤ 9223372036854775807) :
    Calls Try.prog 14 #[.pointer (some ⟨a, 0, none⟩), .agg #[.slice A K.length c, .int .i64 torn, .int .i64 at_]] w (fun e w' => ∃ d', Rel d' (r.lose K torn at_) ∧ d'.wait = [] ∧ d'.bud = d.bud ∧ d'.steps = 0 ∧ RetD w d' (.slice none 0 0) e w') := by
  refine (Lose_calls h A c K torn at_ hK hKl (fun ht => ?_) ht2 ha2).mono ?_
  · unfold RefM.loseB at hb
    rw [decide_eq_false_iff_not] at hb
    rw [R.wait] at ht
    constructor
    · exact Int.not_lt.1 (fun x => hb ⟨ht, .inl x⟩)
    · exact Int.not_lt.1 (fun x => hb ⟨ht, .inr x⟩)
  · intro e w' hh
    exact ⟨_, R.lose hr K torn at_, rfl, rfl, rfl, hh⟩
theorem Lose_no (h : DiskAt w base a m wv d) (R : Rel d r) (kv : Value) (torn at_ : Int) (hb : r.loseB torn at_ = true) :
    Calls Try.prog 14 #[.pointer (some ⟨a, 0, none⟩), .agg #[kv, .int .i64 torn, .int .i64 at_]] w fun e w' => e = .returned (.tuple #[.pointer none, .int .i64 2]) ∧ Below w.heap.size w w' := by
  unfold RefM.loseB at hb
  rw [decide_eq_true_iff] at hb
  exact Lose_bad h kv torn at_ (by rw [R.wait]; exact hb.1) hb.2
theorem LoseR_yes {hv : Value} (h : RefAt w base a hv wv r) (A : Option Addr) (c : Nat) (K : List Bool) (torn at_ : Int) (hK : Bools w A K) (hKl : K.length ≤ 9223372036854775807) (hb : r.loseB torn at_ = false)
    (ht2 : -9223372036854775808 ≤ torn ∧ torn ≤ 9223372036854775807) (ha2 : -9223372036854775808 ≤ at_ ∧ at_ ≤ 9223372036854775807) :
    Calls Try.prog 15 #[.pointer (some ⟨a, 0, none⟩), .agg #[.slice A K.length c, .int .i64 torn, .int .i64 at_]] w (RetN w (r.lose K torn at_)) := by
  refine LoseR_ok h A c K torn at_ hK hKl (fun ht => ?_) ht2 ha2
  unfold RefM.loseB at hb
  rw [decide_eq_false_iff_not] at hb
  constructor
  · exact Int.not_lt.1 (fun x => hb ⟨ht, .inl x⟩)
  · exact Int.not_lt.1 (fun x => hb ⟨ht, .inr x⟩)
theorem LoseR_no {hv : Value} (h : RefAt w base a hv wv r) (kv : Value) (torn at_ : Int) (hb : r.loseB torn at_ = true) :
    Calls Try.prog 15 #[.pointer (some ⟨a, 0, none⟩), .agg #[kv, .int .i64 torn, .int .i64 at_]] w fun e w' => e = .returned (.tuple #[.pointer none, .int .i64 2]) ∧ Below w.heap.size w w' := by
  unfold RefM.loseB at hb
  rw [decide_eq_true_iff] at hb
  exact LoseR_bad h kv torn at_ hb.1 hb.2
end
/-- Both disks, in step, behind so many calls. -/
structure Pl (B j a a' : Nat) (w : World) (m : Nat) (wv : Value) (d : DiskM) (hv wv' : Value) (r : RefM) : Prop where
  disk : DiskAt w B a m wv d
  ref : RefAt w B a' hv wv' r
  rel : Rel d r
  apart : ∀ k, Foot a m wv k → ¬ FootR a' hv wv' k
  wait : d.wait.length ≤ j
  bud : d.bud ≤ 26 * j
  steps : d.steps ≤ j
  base : B ≤ w.heap.size
def PlE (B j a a' : Nat) (w0 w : World) : Prop := ∃ m wv d hv wv' r, Pl B j a a' w m wv d hv wv' r ∧ Below B w0 w
section
variable {B j a a' m : Nat} {w w1 w2 : World} {wv hv wv' wv1 wv2 : Value} {d d1 : DiskM} {r r' : RefM}
theorem Pl.below (P : Pl B j a a' w m wv d hv wv' r) (hb : Below w.heap.size w w1) : Pl B j a a' w1 m wv d hv wv' r :=
  ⟨P.disk.below hb, P.ref.below hb, P.rel, P.apart, P.wait, P.bud, P.steps, Nat.le_trans P.base hb.size⟩
theorem Pl.kept {S : Nat → Prop} (P : Pl B j a a' w m wv d hv wv' r) (hk : Kept S w w1) (hs : ∀ k, Foot a m wv k → ¬ S k) (hs' : ∀ k, FootR a' hv wv' k → ¬ S k) : Pl B j a a' w1 m wv d hv wv' r :=
  ⟨P.disk.kept hk hs, P.ref.kept hk hs', P.rel, P.apart, P.wait, P.bud, P.steps, Nat.le_trans P.base hk.size⟩
theorem Pl.mid (P : Pl B j a a' w m wv d hv wv' r) (hk : Kept (Foot a m wv) w w1) : RefAt w1 B a' hv wv' r := P.ref.kept hk (fun k h1 h2 => P.apart k h2 h1)
theorem Pl.next (P : Pl B j a a' w m wv d hv wv' r) (hj : j ≤ 25)
    (h1 : DiskAt w1 B a m wv1 d1 ∧ Rel d1 r' ∧ Kept (Foot a m wv) w w1 ∧ (∀ k, Foot a m wv1 k → Foot a m wv k ∨ w.heap.size ≤ k) ∧ d1.wait.length ≤ d.wait.length + 1 ∧ d1.bud ≤ d.bud + d.wait.length + 1 ∧ d1.steps ≤ d.steps + 1)
    (h2 : RefAt w2 B a' hv wv2 r' ∧ Kept (FootR a' hv wv') w1 w2 ∧ (∀ k, FootR a' hv wv2 k → FootR a' hv wv' k ∨ w1.heap.size ≤ k)) : Pl B (j + 1) a a' w2 m wv1 d1 hv wv2 r' ∧ Kept (fun k => B ≤ k) w w2 := by
  obtain ⟨hD, hRl, hk1, hf1, hw, hbd, hst⟩ := h1
  obtain ⟨hR, hk2, hf2⟩ := h2
  have hap : ∀ k, Foot a m wv1 k → ¬ FootR a' hv wv' k := fun k hk hk' => by
    rcases hf1 k hk with h | h
    · exact P.apart k h hk'
    · have := (P.ref.foot k hk').2; omega
  refine ⟨⟨hD.kept hk2 hap, hR, hRl, ?_, by have := P.wait; omega, by have := P.wait; have := P.bud; omega, by have := P.steps; omega, Nat.le_trans P.base (Nat.le_trans hk1.size hk2.size)⟩, ?_⟩
  · intro k hk hk'
    rcases hf2 k hk' with h | h
    · exact hap k hk h
    · have := (hD.foot k hk).2; omega
  · exact (hk1.mono (fun k _ h => (P.disk.foot k h).1)).trans (hk2.mono (fun k _ h => (P.ref.foot k h).1))
end
/-! the acts in memory -/
structure ActV where
  kind : Int
  i : Int
  n : Int
  fill : UInt8
  short : Bool
  kA : Option Addr
  kc : Nat
  K : List Bool
  torn : Int
  at_ : Int
def actL (x : ActV) : List Value := [.int .i64 x.kind, .int .i64 x.i, .int .i64 x.n, .int .u8 (x.fill.toNat : Int), .bool x.short, .slice x.kA x.K.length x.kc, .int .i64 x.torn, .int .i64 x.at_]
def in64 (x : Int) : Prop := -9223372036854775808 ≤ x ∧ x ≤ 9223372036854775807
structure ActOk (w : World) (x : ActV) : Prop where
  kind : in64 x.kind
  i : in64 x.i
  n : in64 x.n
  torn : in64 x.torn
  at_ : in64 x.at_
  K : Bools w x.kA x.K
  Kl : x.K.length ≤ 9223372036854775807
def ActsAt (w : World) (A : Option Addr) (l : List ActV) : Prop := ∀ j, (hj : j < l.length) → ∃ b o, A = some ⟨b, o, none⟩ ∧ w.rangeAt b (o + j * 8) (actL l[j]) ∧ ActOk w l[j]
end Go.Proofs.Ytehigfpdeoebdaa.Dsk
