/- The walk of MasterCrash. -/
import Derived.Test.YtcgjejpekefjdaaDoorMasterX
import Derived.Test.YtcgjejpekefjdaaDoorMasterTurnsW
import Derived.Test.YtcgjejpekefjdaaDoorLossKit
import Derived.Deep.CutBlock
set_option linter.unusedSimpArgs false
set_option linter.unusedVariables false
namespace Go.Proofs.YtcgjejpekefjdaaDoor
open Go.RowKit Go.Proofs.YtcgjejpekefjdaaDoor.Crc
open Go.Proofs.YtcgjejpekefjdaaDoor.Dsk
/-- Behind so many saves; what was the latest one lies in the arguments. -/
structure CrashI (w wr : World) (a m r : Nat) (k : Nat) (Aw : Option Addr) (fw : List Nat) (wv : Value) (d : DiskM) (x : MasM) : Prop where
  md : MD wr w.heap.size a m r wv d x
  fr : Fr d k
  last : x.last = (k, fw)
  pos : x.pos = 1
  be : Below w.heap.size w wr
  u : U64s w Aw fw
  len : fw.length ≤ 20
theorem RowsU.below {w w' : World} {A : Option Addr} {ls : List (List Nat)} (h : RowsU w A ls) (hb : Below w.heap.size w w') : RowsU w' A ls := by
  intro i hi
  obtain ⟨ad, B, c, h1, h2, h3, h4⟩ := h i hi
  exact ⟨ad, B, c, h1, (hb.cell (World.block_lt_of_cell? w _ h2)).trans h2, h3.below hb, h4⟩
theorem wrap4i (p : Nat) (h : p < 4) : IntKind.i64.wrap (p : Int) = (p : Int) := by simp only [IntKind.wrap, IntKind.bits, IntKind.signed]; simp; omega
theorem k1_bd {k : Nat} (h : k ≤ 6) : k + 1 ≤ 1000000000 := by omega
theorem cut_bd {n : Nat} (h : n < 4) : 0 ≤ (n : Int) ∧ (n : Int) ≤ 9223372036854775807 := by omega
theorem crash_bd {k b : Nat} {s : Int} (h : k ≤ 6) (h1 : b ≤ 2 * k) (h2 : s = 2 * (k : Int)) : b ≤ 100 ∧ s ≤ 100 := by omega
theorem MD.cutD {w w' : World} {base a m r : Nat} {wv : Value} {d d' : DiskM} {x : MasM} (h : MD w base a m r wv d x) (hd : DiskAt w' base a m wv d') (hk : Kept (· = a) w w') (hn : ∀ j, d'.now j = d.now j) (hs : d'.size = d.size) : MD w' base a m r wv d' x := by
  refine ⟨hd, h.mas.kept hk (fun e => h.rf (.inl e)) (fun k cs fz hk hF => h.disk.not_u64 k cs fz hk (.inl hF)), h.lo, h.rf, by rw [hs]; exact h.pos, by rw [hn]; exact h.s0, by rw [hn]; exact h.s1⟩
set_option maxRecDepth 100000 in
set_option maxHeartbeats 4000000 in
theorem masterCrash_calls (A : Option Addr) (c : Nat) (ls : List (List Nat)) (B : Option Addr) (c2 : Nat) (fs : List Nat) (cutv : Int) (A3 : Option Addr) (c3 : Nat) (K : List Bool) (torn at_ : Int) (w : World) (hh : HalfIs w) (hb : RowsU w A ls) (hfU : U64s w B fs) (hfn : B = none → c2 = 0) (hf64 : ∀ f ∈ fs, f < 18446744073709551616)
    (hK : Bools w A3 K) (hKl : K.length ≤ 140737488351232) (gt : -9223372036854775808 ≤ torn ∧ torn ≤ 9223372036854775807) (ga : -9223372036854775808 ≤ at_ ∧ at_ ≤ 9223372036854775807) :
    Calls Tryd.prog 5 #[.slice A ls.length c, .slice B fs.length c2, .int .i64 cutv, .agg #[.slice A3 K.length c3, .int .i64 torn, .int .i64 at_]] w fun e w' => e = .returned (.bool true) ∧ Below w.heap.size w w' := by
  obtain ⟨w1, hw1⟩ : ∃ w1, w.alloc (.cells #[.slice A3 K.length c3, .int .i64 torn, .int .i64 at_] 54) = w1 := ⟨_, rfl⟩
  obtain ⟨q0, hq⟩ : ∃ q, w.heap.size = q := ⟨_, rfl⟩
  have HQ := Lib.hid hq
  have HW1 := Lib.hid hw1
  have HB1 : Hid (Below w.heap.size w w1) := by rw [← hw1]; exact (Below.refl _ _).alloc (Nat.le_refl _) _
  have HLb : Hid (w1.heap[q0]? = some (.cells #[.slice A3 K.length c3, .int .i64 torn, .int .i64 at_] 54 (0, 0))) := by rw [← hw1, ← hq]; exact heap_alloc_new w _
  have HL := Lib.hid (hb.below HB1.out)
  have HFU := Lib.hid (hfU.below HB1.out)
  have HFB : Hid (∀ b, B = some b → fs = [] ∨ b.block < w1.heap.size) := fun b hB => by
    rcases hl : fs with _ | ⟨f, r⟩
    · exact .inl rfl
    · right
      obtain ⟨ad', hA, hc⟩ := HFU.out 0 (by rw [hl]; exact Nat.succ_pos _)
      rw [hB] at hA; cases hA
      have := World.block_lt_of_cell? w1 _ hc
      rwa [add_block] at this
  have HK := Lib.hid (hK.below HB1.out)
  have HH := Lib.hid (hh.below HB1.out)
  have HO := Lib.hid (opened_calls w1 HH.out)
  have HF64 := Lib.hid hf64
  have HFN := Lib.hid hfn
  have HKl := Lib.hid hKl
  have HGt := Lib.hid gt
  have HGa := Lib.hid ga
  clear hw1 hq hb hfU hK hh hf64 hfn hKl gt ga
  obtain ⟨nf, hnf⟩ : ∃ nf, fs.length = nf := ⟨_, rfl⟩
  have HNf := Lib.hid hnf
  rw [hnf]
  clear hnf
  go_enter Tryd.func5, Tryd.ntmps5
  go_wp2_with (with_reducible refine park_at (.box 54 _) ?_; intro pq hq)
  refine hq.out ?_
  clear hq
  refine Great.wpList_boxTo rfl 54 _ rfl _ rfl q0 HQ.out #[.slice A3 K.length c3, .int .i64 torn, .int .i64 at_] rfl ?_
  rw [HW1.out]
  go_wp2_with (go_at_call 15; refine HO.out.mono ?_; rintro e w2 ⟨a, m, r, rfl, h2, b2⟩; refine park ?_; intro q hq)
  refine hq.out ?_
  clear hq HO
  have HWo := Lib.hid (works10_calls w2 (HH.out.below b2.out))
  go_wp2_with (go_at_call 14; refine HWo.out.mono ?_; rintro e w3 ⟨rfl, hb3⟩; refine park ?_; intro q hq)
  refine hq.out ?_
  clear hq HWo
  have HI : Hid (CrashI w1 w3 a m r 0 none [] (.slice none 0 0) (newD 3) x0) := ⟨h2.out.below hb3, fr0, rfl, rfl, b2.out.trans (hb3.mono b2.out.size), (U64o.nil _).1, Nat.zero_le _⟩
  clear h2 b2 hb3
  go_upto_block 0 with fail
  go_cut [11, 12, 13] (fun vw ve vi wc => ∃ (k t n cw : Nat) (Aw : Option Addr), k ≤ 6 ∧ vw = .slice Aw n cw ∧ ve = .int .i64 (k : Int) ∧ vi = .int .i64 (t : Int) ∧ Hid (∃ fw wv d x, fw.length = n ∧ CrashI w1 wc a m r k Aw fw wv d x))
  case first =>
    go_wp2_with fail
    go_loopw [11, 12, 13] (fun vw ve vi wr => ∃ (k t n cw : Nat) (Aw : Option Addr), k ≤ t ∧ t ≤ 6 ∧ vw = .slice Aw n cw ∧ ve = .int .i64 (k : Int) ∧ vi = .int .i64 (t : Int) ∧ Hid (∃ fw wv d x, fw.length = n ∧ CrashI w1 wr a m r k Aw fw wv d x)) (fun _ _ i _ => 6 - (intOf i).toNat)
    case atStart => exact ⟨0, 0, 0, 0, none, Nat.le_refl _, Nat.zero_le _, rfl, rfl, rfl, _, _, _, _, rfl, HI.out⟩
    case round =>
      obtain ⟨k, t, n0, cw, Aw, hkt, ht6, rfl, rfl, rfl, HV⟩ := hrel
      clear HI
      by_cases hlen : ¬ t < ls.length
      · have hd1 : decide (t < ls.length) = false := decide_eq_false hlen
        have hk6 : k ≤ 6 := Nat.le_trans hkt ht6
        clear hlen
        go_wp2_with fail
        go_meet
        case rel => exact ⟨k, t, n0, cw, Aw, hk6, rfl, rfl, rfl, HV.out⟩
      replace hlen := Classical.not_not.1 hlen
      by_cases ht : ¬ t < 6
      · obtain rfl : t = 6 := by omega
        rw [show ((6 : Nat) : Int) = (6 : Int) from rfl]
        go_wp2_with fail
        go_meet
        case rel => exact ⟨k, 6, n0, cw, Aw, hkt, rfl, rfl, rfl, HV.out⟩
      replace ht := Classical.not_not.1 ht
      obtain ⟨fw, wv, d, x, hfw, hv⟩ := HV.out
      have HV := Lib.hid hv
      have HFw := Lib.hid hfw
      clear hv hfw
      obtain ⟨ad, Bt, ct, gs, hAd, hgs, hcell, hU, hnil, hr64, hblk⟩ := HL.out.at t hlen wr HV.out.be
      subst hAd
      have HC := Lib.hid hcell
      have HU := Lib.hid hU
      have HR64 := Lib.hid hr64
      have HBlk := Lib.hid hblk
      have HNil := Lib.hid hnil
      have z0 := HC.out wr HV.out.be
      obtain ⟨n, hn⟩ : ∃ n, gs.length = n := ⟨_, rfl⟩
      rw [hn] at z0
      have HN := Lib.hid hn
      have hlI : (t : Int) < (ls.length : Int) := by omega
      have hk6 : k ≤ 6 := Nat.le_trans hkt ht6
      have hE9 : Hid (x.last.1 < k + 1 ∧ k + 1 ≤ 1000000000) := ⟨by rw [HV.out.last]; exact Nat.lt_succ_self _, k1_bd hk6⟩
      clear hcell hU hnil hr64 hblk hgs hn
      by_cases hbig : 20 < n
      · have HSb := Lib.hid (Save_big HV.out.md.mas Bt n ct ((k + 1 : Nat) : Int) (e9_int hE9.out) hbig)
        rw [show ((k + 1 : Nat) : Int) = (k : Int) + 1 from rfl] at HSb
        clear hbig
        go_wp2_with (go_at_call 13; (with_reducible refine HSb.out.mono ?_); rintro e w4 ⟨rfl, hb4⟩; refine park ?_; intro q hq)
        refine hq.out ?_
        clear hq HSb
        have HI4 : Hid (∃ fw wv d x, fw.length = n0 ∧ CrashI w1 w4 a m r k Aw fw wv d x) := ⟨fw, wv, d, x, HFw.out, HV.out.md.below hb4, HV.out.fr, HV.out.last, HV.out.pos, HV.out.be.trans (hb4.mono HV.out.be.size), HV.out.u, HV.out.len⟩
        clear HV hb4 HFw HC HU HR64 HBlk HNil HN hE9 z0 hlen hlI
        go_wp2_with fail
        go_roundw
        case rel => exact ⟨k, t + 1, n0, cw, Aw, Nat.le_succ_of_le hkt, Nat.succ_le_of_lt ht, rfl, rfl, congrArg (Value.int .i64) (Int.natCast_succ t).symm, HI4.out⟩
        case measure =>
          simp [intOf]
          omega
      · have hsm : gs.length ≤ 20 := by rw [HN.out]; exact Nat.not_lt.1 hbig
        have HSv := Lib.hid (Save_go HV.out.md HV.out.fr (Nat.le_trans hk6 (by decide)) (HH.out.below HV.out.be) Bt n ct (k + 1) gs HN.out.symm HNil.out (HU.out wr HV.out.be) (fun b hB => by
          rcases HBlk.out b hB with h | h
          · exact .inl h
          · have hf := HV.out.md.foot b.block h
            exact .inr ⟨Nat.lt_of_lt_of_le h HV.out.be.size, fun h => hf (.inl h), fun h => hf (.inr h)⟩) hE9.out hsm HR64.out)
        rw [show ((k + 1 : Nat) : Int) = (k : Int) + 1 from rfl] at HSv
        have HBs := Lib.hid HV.out.md.base_le
        have H3 := Lib.hid HV.out.md.foot
        have HSm := Lib.hid hsm
        clear hbig hsm
        go_wp2_with (go_at_call 13; (with_reducible refine HSv.out.mono ?_); rintro e w4 ⟨rfl, wv4, d4, h4, f4, k4⟩; refine park ?_; intro q hq)
        refine hq.out ?_
        clear hq HSv z0
        have HB4 : Hid (Below w1.heap.size w1 w4) := HV.out.be.trans (k4.out.below HBs.out H3.out)
        have z4 := HC.out w4 HB4.out
        rw [HN.out] at z4
        have HI4 : Hid (∃ fw wv d x, fw.length = n ∧ CrashI w1 w4 a m r (k + 1) Bt fw wv d x) :=
          ⟨gs, wv4, d4, _, HN.out, h4.out, f4.out, (MasM.saved gs hE9.out.1).2.1, by rw [MasM.save_pos]; exact HV.out.pos, HB4.out, HU.out w1 (Below.refl _ _), HSm.out⟩
        clear HV h4 f4 k4 HB4 HBs H3 HSm HFw HC HU HR64 HBlk HNil HN hE9
        go_wp2_with fail
        go_roundw
        case rel => exact ⟨k + 1, t + 1, n, ct, Bt, Nat.succ_le_succ hkt, Nat.succ_le_of_lt ht, rfl, congrArg (Value.int .i64) (Int.natCast_succ k).symm, congrArg (Value.int .i64) (Int.natCast_succ t).symm, HI4.out⟩
        case measure =>
          clear hlI z4
          simp [intOf]
          omega
  case rest =>
    obtain ⟨k, t, n, cw, Aw, hk6, rfl, rfl, rfl, HV⟩ := hcut
    obtain ⟨fw, wv, d, x, hfw, hv⟩ := HV.out
    have HV := Lib.hid hv
    have HFw := Lib.hid hfw
    clear hv hfw HI
    obtain ⟨n4, hn4, e2⟩ := mod_pick cutv 4 (by decide)
    have e2' : (IntKind.u64.wrap cutv).tmod (4 : Int) = (n4 : Int) := e2
    have ew := wrap4i n4 hn4
    have HCt := Lib.hid (Go.Proofs.YtcgjejpekefjdaaDoor.Dsk.Cut_calls HV.out.md.disk (n4 : Int) (cut_bd hn4) HV.out.fr.on)
    clear e2 hn4
    go_wp2_with (go_at_call 17; (with_reducible refine HCt.out.mono ?_); rintro e w4 ⟨rfl, hd4, hk4⟩; refine park ?_; intro q hq)
    refine hq.out ?_
    clear hq HCt ew e2'
    obtain ⟨d4, hd4e⟩ : ∃ d4, ({ d with cut := true, left := (n4 : Int) } : DiskM) = d4 := ⟨_, rfl⟩
    rw [hd4e] at hd4
    have H4 : Hid (MD w4 w1.heap.size a m r wv d4 x) := HV.out.md.cutD hd4 hk4 (fun j => by rw [← hd4e]; rfl) (by rw [← hd4e])
    have HC4 : Hid (CutD d4 x n4) := by
      rw [← hd4e]
      exact ⟨HV.out.fr.wait, HV.out.fr.size, rfl, rfl, HV.out.pos, HV.out.md.s0, HV.out.md.s1⟩
    have HB4 : Hid (Below w1.heap.size w1 w4) := HV.out.be.trans (hk4.below HV.out.md.base_le (fun k hk e => HV.out.md.foot k hk (.inl (.inl e))))
    have HBd : Hid (d4.bud ≤ 100 ∧ d4.steps ≤ 100) := by
      rw [← hd4e]
      have h1 := HV.out.fr.bud
      have h2 := HV.out.fr.steps
      exact crash_bd hk6 h1 h2
    have HLast := Lib.hid HV.out.last
    have HFwU : Hid (U64s w1 Aw fw ∧ fw.length ≤ 20) := ⟨HV.out.u, HV.out.len⟩
    have hE9 : Hid (x.last.1 < k + 1 ∧ k + 1 ≤ 1000000000) := ⟨by rw [HV.out.last]; exact Nat.lt_succ_self _, k1_bd hk6⟩
    clear HV hd4 hk4 hd4e
    have HSv := Lib.hid (Save_cut H4.out HC4.out HBd.out.1 HBd.out.2 (HH.out.below HB4.out) B nf c2 (k + 1) fs HNf.out.symm HFN.out (HFU.out.below HB4.out) (fun b hB => by
      rcases HFB.out b hB with h | h
      · exact .inl h
      · have hf := H4.out.foot b.block h
        exact .inr ⟨Nat.lt_of_lt_of_le h HB4.out.size, fun h => hf (.inl h), fun h => hf (.inr h)⟩) hE9.out HF64.out)
    rw [show ((k + 1 : Nat) : Int) = (k : Int) + 1 from rfl] at HSv
    have HBs := Lib.hid H4.out.base_le
    have H3 := Lib.hid H4.out.foot
    go_wp2_with (go_at_call 13; (with_reducible refine HSv.out.mono ?_); rintro e w5 ⟨er, rfl, wv5, d5, h5, af5, k5⟩; refine park ?_; intro q hq)
    refine hq.out ?_
    clear hq HSv
    have HB5 : Hid (Below w1.heap.size w1 w5) := HB4.out.trans (k5.out.below HBs.out H3.out)
    have HB05 : Hid (Below w.heap.size w w5) := HB1.out.trans (HB5.out.mono HB1.out.size)
    clear k5 HBs H3 H4 HB4 HC4 HBd hE9
    have l0 : w5.cell? ⟨q0, 0, none⟩ = some (.slice A3 K.length c3) := by
      rw [HB5.out.cell (p := ⟨q0, 0, none⟩) (Array.getElem?_eq_some_iff.1 HLb.out).1, cell_of_row _ _ _ _ _ _ HLb.out]; rfl
    have l1 : w5.cell? ⟨q0, 1, none⟩ = some (.int .i64 torn) := by
      rw [HB5.out.cell (p := ⟨q0, 1, none⟩) (Array.getElem?_eq_some_iff.1 HLb.out).1, cell_of_row _ _ _ _ _ _ HLb.out]; rfl
    have l2 : w5.cell? ⟨q0, 2, none⟩ = some (.int .i64 at_) := by
      rw [HB5.out.cell (p := ⟨q0, 2, none⟩) (Array.getElem?_eq_some_iff.1 HLb.out).1, cell_of_row _ _ _ _ _ _ HLb.out]; rfl
    have HK5 := Lib.hid (HK.out.below HB5.out)
    by_cases hbad : (0 ≤ torn ∧ torn < (d5.wait.length : Int)) ∧ (at_ < 0 ∨ 256 < at_)
    · have HL3 := Lib.hid (Lose_bad h5.out (.slice A3 K.length c3) torn at_ hbad.1 hbad.2)
      clear hbad
      go_wp2_with (go_at_call 18; (with_reducible refine HL3.out.mono ?_); rintro e w6 ⟨rfl, hb6⟩; refine park ?_; intro q hq)
      refine hq.out ?_
      clear hq HL3 l0 l1 l2
      have HB6 : Hid (Below w.heap.size w w6) := HB05.out.trans (hb6.mono HB05.out.size)
      clear hb6
      go_wp2_with fail
      go_ret
      exact ⟨rfl, HB6.out⟩
    have hok : (0 ≤ torn ∧ torn < (d5.wait.length : Int)) → 0 ≤ at_ ∧ at_ ≤ 256 := fun h => by
      refine Classical.byContradiction fun hn => hbad ⟨h, ?_⟩
      omega
    have HLs := Lib.hid (Lose_calls h5.out A3 c3 K torn at_ HK5.out HKl.out hok HGt.out HGa.out)
    have HTold := Lib.hid (af5.out.told K torn at_ hok)
    have HSz : Hid ((d5.lose K torn at_).size = 3) := af5.out.size
    have HErv := Lib.hid af5.out.erv
    clear hbad hok
    go_wp2_with (go_at_call 18; (with_reducible refine HLs.out.mono ?_); rintro e w6 ⟨a6, m6, rfl, hd6, hb6⟩; refine park ?_; intro q hq)
    refine hq.out ?_
    clear hq HLs l0 l1 l2
    obtain ⟨y, y1, y2, y3, hy⟩ := HTold.out
    have HOp := Lib.hid (MOpen_calls hd6 ((HH.out.below HB5.out).below hb6) rfl y (by rw [HSz.out, y1]; decide) (by rw [y1]; exact y2) (by rw [y1]; exact y3))
    rw [y1, show ((1 : Nat) : Int) = 1 from rfl] at HOp
    have HY := Lib.hid hy
    have HB6 : Hid (Below w1.heap.size w1 w6) := HB5.out.trans (hb6.mono HB5.out.size)
    clear hd6 hb6 y1 y2 y3 hy HTold HSz h5 af5 HB5 HB05 HK5
    go_wp2_with (go_at_call 10; (with_reducible refine HOp.out.mono ?_); rintro e w7 ⟨r7, rfl, hm7, hr7, hb7⟩; refine park ?_; intro q hq)
    refine hq.out ?_
    clear hq HOp
    have HLt := Lib.hid (Latest_calls hm7)
    have HB7 : Hid (Below w1.heap.size w1 w7) := HB6.out.trans (hb7.mono HB6.out.size)
    clear hm7 hr7 hb7 HB6
    rcases HY.out with ⟨he3, hyl, hfl⟩ | ⟨he0, hyl⟩
    · rw [hyl] at HLt
      simp only [HNf.out] at HLt
      rw [decide_eq_true (Nat.succ_pos k), show ((k + 1 : Nat) : Int) = (k : Int) + 1 from rfl] at HLt
      have HFl := Lib.hid hfl
      clear HY hyl hfl
      go_wp2_with (go_at_call 11; (with_reducible refine HLt.out.mono ?_); rintro e w8 ⟨A8, c8, rfl, hn8, hU8, hb8⟩; refine park ?_; intro q hq)
      refine hq.out ?_
      clear hq HLt
      have HB8 : Hid (Below w1.heap.size w1 w8) := HB7.out.trans (hb8.mono HB7.out.size)
      have HSa := Lib.hid (Same10_calls w8 A8 B nf c8 nf c2 fs fs HNf.out.symm HNf.out.symm hU8.1 (HFU.out.below HB8.out) (by rw [← HNf.out]; exact HFl.out))
      rw [decide_eq_true (rfl : fs = fs)] at HSa
      clear hU8 hb8 hn8 HB7
      rcases HErv.out with rfl | rfl | rfl
      · clear he3 HErv
        go_wp2_with (go_at_call 16; (with_reducible refine HSa.out.mono ?_); rintro e w9 ⟨rfl, hb9⟩; refine park ?_; intro q hq)
        refine hq.out ?_
        clear hq HSa
        go_wp2_with fail
        go_ret
        exact ⟨rfl, HB1.out.trans ((HB8.out.trans (hb9.out.mono HB8.out.size)).mono HB1.out.size)⟩
      · exact absurd rfl he3
      · clear he3 HErv
        go_wp2_with (go_at_call 16; (with_reducible refine HSa.out.mono ?_); rintro e w9 ⟨rfl, hb9⟩; refine park ?_; intro q hq)
        refine hq.out ?_
        clear hq HSa
        go_wp2_with fail
        go_ret
        exact ⟨rfl, HB1.out.trans ((HB8.out.trans (hb9.out.mono HB8.out.size)).mono HB1.out.size)⟩
    · rw [hyl, HLast.out] at HLt
      simp only [HFw.out] at HLt
      have hkk : ((k : Int) == (k : Int) + 1) = false := by simp; omega
      clear HY hyl
      obtain ⟨bk, hbk⟩ : ∃ bk, decide (0 < k) = bk := ⟨_, rfl⟩
      rw [hbk] at HLt
      go_wp2_with (go_at_call 11; (with_reducible refine HLt.out.mono ?_); rintro e w8 ⟨A8, c8, rfl, hn8, hU8, hb8⟩; refine park ?_; intro q hq)
      refine hq.out ?_
      clear hq HLt
      have HB8 : Hid (Below w1.heap.size w1 w8) := HB7.out.trans (hb8.mono HB7.out.size)
      have HSa := Lib.hid (Same10_calls w8 A8 Aw n c8 n cw fw fw HFw.out.symm HFw.out.symm hU8.1 (HFwU.out.1.below HB8.out) (by rw [← HFw.out]; exact HFwU.out.2))
      rw [decide_eq_true (rfl : fw = fw)] at HSa
      clear hU8 hb8 hn8 HB7
      have hE : er = 3 ∨ er = 10 := by
        rcases HErv.out with h | h | h
        · exact absurd h he0
        · exact .inl h
        · exact .inr h
      clear he0 HErv
      cases bk
      all_goals
        rcases hE with rfl | rfl
        all_goals
          go_wp2_with (go_at_call 16; (with_reducible refine HSa.out.mono ?_); rintro e w9 ⟨rfl, hb9⟩; refine park ?_; intro q hq)
          refine hq.out ?_
          clear hq HSa
          go_wp2_with fail
          go_ret
          exact ⟨rfl, HB1.out.trans ((HB8.out.trans (hb9.out.mono HB8.out.size)).mono HB1.out.size)⟩
theorem masterCrash_row (A : Option Addr) (c : Nat) (ls : List (List Nat)) (B : Option Addr) (c2 : Nat) (fs : List Nat) (cutv : Int) (A3 : Option Addr) (c3 : Nat) (K : List Bool) (torn at_ : Int) (w : World) (hh : HalfIs w)
    (hb : RowsU w A ls) (hn : A = none → c = 0) (hc : ls.length ≤ c) (hl : ls.length ≤ 9223372036854775807) (hfU : U64s w B fs) (hfn : B = none → c2 = 0) (hfc : fs.length ≤ c2) (hfl : fs.length ≤ 140737488351232) (hf64 : ∀ f ∈ fs, f < 18446744073709551616) (g2 : -9223372036854775808 ≤ cutv ∧ cutv ≤ 9223372036854775807)
    (hK : Bools w A3 K) (hKl : K.length ≤ 140737488351232) (gt : -9223372036854775808 ≤ torn ∧ torn ≤ 9223372036854775807) (ga : -9223372036854775808 ≤ at_ ∧ at_ ≤ 9223372036854775807) :
    Calls Tryd.prog 5 #[.slice A ls.length c, .slice B fs.length c2, .int .i64 cutv, .agg #[.slice A3 K.length c3, .int .i64 torn, .int .i64 at_]] w fun e w' => e = .returned (.bool true) ∧ Below w.heap.size w w' :=
  masterCrash_calls A c ls B c2 fs cutv A3 c3 K torn at_ w hh hb hfU hfn hf64 hK hKl gt ga
end Go.Proofs.YtcgjejpekefjdaaDoor
