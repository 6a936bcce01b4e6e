/- The walk of DiskSynced. -/
import Derived.Test.YtgodnmlggomaaaaDiskZ
import Derived.Test.YtgodnmlggomaaaaLossKit
import Derived.Deep.CutBlock
import Derived.Deep.QuietTactic
import Derived.BigQuiet
set_option linter.unusedSimpArgs false
set_option linter.unusedVariables false
namespace Go.Proofs.Ytgodnmlggomaaaa
open Go.RowKit
theorem drewB (w : World) (n : Nat) : Below w.heap.size w (w.drewN n) := (Below.refl _ _).trans ⟨rfl, rfl, rfl, Nat.le_refl _, fun _ _ => rfl⟩
set_option maxRecDepth 100000 in
set_option maxHeartbeats 4000000 in
theorem synced_calls (A1 A2 A3 : Option Addr) (c1 c2 c3 : Nat) (l1 l2 : List Int) (K : List Bool) (torn at_ : Int) (w : World)
    (hb1 : Ints w A1 l1) (hl1 : l1.length ≤ 140737488351232) (hb2 : Ints w A2 l2) (hl2 : l2.length ≤ 140737488351232)
    (hK : Bools w A3 K) (hKl : K.length ≤ 140737488351232) (ht2 : -9223372036854775808 ≤ torn ∧ torn ≤ 9223372036854775807) (ha2 : -9223372036854775808 ≤ at_ ∧ at_ ≤ 9223372036854775807) :
    Calls Try.prog 3 #[.slice A1 l1.length c1, .slice A2 l2.length c2, .agg #[.slice A3 K.length c3, .int .i64 torn, .int .i64 at_]] w fun e w' => e = .returned (.bool true) ∧ Below w.heap.size w w' := by
  have HI1 := Lib.hid hb1
  have HI2 := Lib.hid hb2
  have HK := Lib.hid hK
  clear hb1 hb2 hK
  obtain ⟨w0, hw0⟩ : ∃ w0, w.alloc (.cells #[.slice A3 K.length c3, .int .i64 torn, .int .i64 at_] 25) = w0 := ⟨_, rfl⟩
  have HW0 := Lib.hid hw0
  have HB0 : Hid (Below w.heap.size w w0) := by rw [← hw0]; exact (Below.refl _ _).alloc (Nat.le_refl _) _
  obtain ⟨q0, hq0⟩ : ∃ q, w.heap.size = q := ⟨_, rfl⟩
  have HQ0 := Lib.hid hq0
  have hlb : w0.heap[q0]? = some (.cells #[.slice A3 K.length c3, .int .i64 torn, .int .i64 at_] 25 (0, 0)) := by rw [← hw0, ← hq0]; exact heap_alloc_new w _
  have HLb := Lib.hid hlb
  have HN := Lib.hid (New_calls 6 (by decide) w0)
  rw [HQ0.out] at HB0
  clear hlb hw0 hq0
  go_enter Try.func3, Try.ntmps3
  go_wp2_with (with_reducible refine park_at (.box 25 _) ?_; intro pq hq)
  refine hq.out ?_
  clear hq
  refine Great.wpList_boxTo rfl 25 _ rfl _ rfl q0 HQ0.out #[.slice A3 K.length c3, .int .i64 torn, .int .i64 at_] rfl ?_
  rw [HW0.out]
  clear HW0
  go_wp2_with (go_at_call 8; refine HN.out.mono ?_; rintro e w1 ⟨a, m, rfl, hD1, hb1⟩; refine park ?_; intro q hq)
  have HD1 := Lib.hid hD1
  have HC1 := Lib.hid hb1
  clear hD1 hb1 HN
  have HWk := Lib.hid (works_calls w1)
  refine hq.out ?_
  clear hq
  go_wp2_with (go_at_call 9; refine HWk.out.mono ?_; rintro e w2 ⟨rfl, hb2⟩; refine park ?_; intro q hq)
  have HC2 := Lib.hid (HC1.out.trans (hb2.mono HC1.out.size))
  have HD2 := Lib.hid (HD1.out.below hb2)
  clear hb2 HWk HD1 HC1
  refine hq.out ?_
  clear hq
  go_upto_block 0 with fail
  go_cut [9] (fun _ wc => Hid (∃ d wv i, i ≤ 12 ∧ DiskAt wc w0.heap.size a m wv d ∧ Below w0.heap.size w0 wc ∧ SyInv d i))
  case first =>
    go_wp2_with fail
    go_loopw [9] (fun s wr => ∃ (i : Nat), i ≤ 12 ∧ i ≤ l1.length ∧ s = .int .i64 i ∧ Hid (∃ d wv, DiskAt wr w0.heap.size a m wv d ∧ Below w0.heap.size w0 wr ∧ SyInv d i)) (fun s _ => 12 - (intOf s).toNat)
    case atStart => exact ⟨0, by omega, by omega, rfl, _, _, HD2.out, HC2.out, rfl, rfl, rfl, by simp [newD]⟩
    case round =>
      obtain ⟨i, hi12, hil, rfl, HR⟩ := hrel
      obtain ⟨d, wv, hD, hB, hI⟩ := HR.out
      have HD := Lib.hid hD
      have HB := Lib.hid hB
      have HV := Lib.hid hI
      clear HR hD hB hI HD2 HC2
      by_cases hlt : i < l1.length ∧ i < 12
      · obtain ⟨hlt, h12⟩ := hlt
        obtain ⟨ad, hA, hz⟩ := HI1.out i hlt
        subst hA
        obtain ⟨z, hzz⟩ : ∃ z, l1[i] = z := ⟨_, rfl⟩
        rw [hzz] at hz
        obtain ⟨hz, hz1⟩ := hz
        have HBw : Hid (Below q0 w wr) := by rw [← HQ0.out]; rw [← HQ0.out] at HB0; exact HB0.out.trans (HB.out.mono HB0.out.size)
        have hadq : (ad.add i).block < q0 := by rw [← HQ0.out]; exact World.block_lt_of_cell? w (ad.add i) hz
        have hzr : wr.cell? (ad.add i) = some (.int .i64 z) := (HBw.out.cell hadq).trans hz
        have hz0 : w0.cell? (ad.add i) = some (.int .i64 z) := (HB0.out.cell hadq).trans hz
        clear hzz
        obtain ⟨p, hp4, e2⟩ := mod_pick z 6 (by decide)
        have e2' : (IntKind.u64.wrap z).tmod (6 : Int) = (p : Int) := e2
        obtain ⟨c8, hc8⟩ : ∃ c8 : UInt8, IntKind.u8.wrap ((i : Int) + 1) = (c8.toNat : Int) := ⟨UInt8.ofNat (i + 1), by simp only [IntKind.wrap, IntKind.bits, IntKind.signed]; first | (simp; done) | (simp; omega)⟩
        clear e2
        have x1 : ∀ w', Hid (Below w0.heap.size w0 w') → w'.cell? (ad.add i) = some (.int .i64 z) := fun w' h => (h.out.cell (World.block_lt_of_cell? w0 _ hz0)).trans hz0
        have hS0 : Hid (Below w0.heap.size w0 wr.drew) := HB.out.drew
        have ew : IntKind.i64.wrap (p : Int) = (p : Int) := wrap6 p hp4
        have ei : IntKind.i64.wrap ((i : Int) + 1) = (i : Int) + 1 := IntWalk.i64_in _ (by omega)
        have HSz := Lib.hid HV.out.size
        have HSt := Lib.hid HV.out.steps
        have hpd : 0 ≤ (p : Int) ∧ (p : Int) < d.size := by have := HSz.out; omega
        have hbd : d.bud < 1000 := by have := HV.out.bud; have := HSt.out; omega
        have hst1 : d.steps + 1 ≤ 1000000 := by have := HSt.out; omega
        have HWr := Lib.hid (fun (wf : World) (g cc : Nat) (hDf : DiskAt wf w0.heap.size a m wv d) (hbs : w0.heap.size ≤ wf.heap.size) (hOb : Bytes wf (some ⟨g, 0, none⟩) (List.replicate 256 c8)) => Write_calls hDf hbs (p : Int) hpd HV.out.on (some ⟨g, 0, none⟩) cc (List.replicate 256 c8) List.length_replicate hOb hbd hst1)
        clear hpd hbd hst1 hz1 hz hz0 hadq
        go_wp2_with fail
        go_region_held (fun w' => Hid (Below w0.heap.size w0 w')) (first | exact hS0 | assumption) (first | (go_at_call 11; refine (filled_calls c8 _).mono ?_; rintro e wf ⟨g, cc, rfl, hO, hbf⟩; have hDf : Hid (DiskAt wf w0.heap.size a m wv d) := (HD.out.below ((Below.refl wr.heap.size wr).drew.trans hbf)); have hSf : Hid (Below w0.heap.size w0 wf) := (HB.out.trans (((Below.refl wr.heap.size wr).drew.trans hbf).mono HB.out.size)); have hOb := Lib.hid hO.bytes; clear hO hbf) | (go_at_call 10; (with_reducible refine (HWr.out wf g cc hDf.out hSf.out.size hOb.out).mono ?_); rintro e w4 ⟨rfl, wv4, hD4, hk4, _⟩; have hS4 : Hid (Below w0.heap.size w0 w4) := (hSf.out.trans (hk4.below hSf.out.size (fun k hk hf => by have := (hDf.out.foot k hf).1; omega))); have HD4 := Lib.hid hD4; clear hD4 hk4))
        all_goals
          have HB4 := hS4
          have HV4 := Lib.hid (HV.out.write (p : Int) (List.replicate 256 c8))
          clear x1 hS0 ei ew hc8 e2'
          go_wp2
          go_roundw
          case rel => exact ⟨i + 1, by omega, by omega, by go_num, _, _, HD4.out, HB4.out, HV4.out⟩
          case measure => simp [intOf]; omega
      · go_wp2_with fail
        all_goals
          go_meet
          exact ⟨_, _, _, hi12, HD.out, HB.out, HV.out⟩
  case rest =>
    obtain ⟨d0, wv0, i, hi12, hD, hB, hI⟩ := hcut.out
    have HD := Lib.hid hD
    have HB := Lib.hid hB
    have HV := Lib.hid hI
    clear hcut hD hB hI
    have hF0 := HD.out.foot
    obtain ⟨d, hd⟩ : ∃ d, d0.sync = d := ⟨_, rfl⟩
    obtain ⟨b1, hb1⟩ : ∃ b, wc.heap.size = b := ⟨_, rfl⟩
    rw [hb1] at hF0
    have HV1 : Hid (SyInv d (i + 1)) := by rw [← hd]; exact HV.out.sync
    have Hw0 : Hid (d.wait = []) := by rw [← hd]; rfl
    have hsz1 : (wc.alloc (.cells z6 35)).heap.size = b1 + 1 := by rw [← hb1]; simp
    have HA0 : Hid (∀ g, ArrB (wc.alloc (.cells z6 35)) b1 g 0) := fun g => by rw [← hb1]; exact ArrB.new wc g z6 rfl
    have HBa1 : Hid (Below wc.heap.size wc (wc.alloc (.cells z6 35))) := (Below.refl _ _).alloc (Nat.le_refl _) _
    have HBb := Lib.hid hb1
    have HF0 := Lib.hid hF0
    have HSz1 := Lib.hid hsz1
    have HSd := Lib.hid hd
    clear hb1 hF0 hsz1 hd
    go_wp2_with (with_reducible refine park_at (.alloc 35) ?_; intro q hq)
    refine hq.out ?_
    clear hq
    refine wpList_alloc35 rfl rfl ?_
    rw [HBb.out]
    generalize (wc.alloc (.cells z6 35)) = wa at HA0 HBa1 HSz1 ⊢
    go_wp2_with (with_reducible refine park_at (.alloc 35) ?_; intro q hq)
    refine hq.out ?_
    clear hq
    refine wpList_alloc35 rfl rfl ?_
    have HA1 : Hid (∀ g, ArrB (wa.alloc (.cells z6 35)) b1 g 0) := fun g => (HA0.out g).below ((Below.refl _ _).alloc (Nat.le_refl _) _)
    have HA2 : Hid (∀ g, ArrB (wa.alloc (.cells z6 35)) (b1 + 1) g 0) := fun g => by rw [← HSz1.out]; exact ArrB.new wa g z6 rfl
    have HBa2 : Hid (Below wc.heap.size wc (wa.alloc (.cells z6 35))) := HBa1.out.alloc HBa1.out.size _
    rw [HSz1.out]
    generalize (wa.alloc (.cells z6 35)) = w3 at HA1 HA2 HBa2 ⊢
    clear HA0 HBa1 HSz1
    have HD3 : Hid (DiskAt w3 w0.heap.size a m wv0 d0) := HD.out.below HBa2.out
    have HB3 : Hid (Below w0.heap.size w0 w3) := HB.out.trans (HBa2.out.mono HB.out.size)
    have hSy := Sync_calls HD3.out HV.out.on (by have := HV.out.steps; omega) (by have := HV.out.bud; have := HV.out.steps; omega)
    rw [HSd.out] at hSy
    have HSy := Lib.hid hSy
    clear hSy HV HBa2 HD HB
    go_wp2_with (go_at_call 12; refine HSy.out.mono ?_; rintro e w4 ⟨rfl, hD4, hk4⟩; refine park ?_; intro q hq)
    have hnf : ∀ b, b1 ≤ b → ¬ Foot a m wv0 b := fun b hb hf => by have := (HF0.out b hf).2; omega
    have HP : Hid (DiskAt w4 w0.heap.size a m (.slice none 0 0) d ∧ Below w0.heap.size w0 w4 ∧ (∀ g, ArrB w4 b1 g 0) ∧ (∀ g, ArrB w4 (b1 + 1) g 0)) :=
      ⟨hD4, HB3.out.trans (hk4.below HB3.out.size (fun k hk hf => by have := (HF0.out k hf).1; omega)), fun g => (HA1.out g).kept hk4 (hnf _ (Nat.le_refl _)), fun g => (HA2.out g).kept hk4 (hnf _ (by omega))⟩
    have HNe : Hid (a < b1 ∧ m < b1) := ⟨(HF0.out a (.inl rfl)).2, (HF0.out m (.inr (.inl rfl))).2⟩
    have HNb : Hid (w0.heap.size ≤ b1) := by
      show w0.heap.size ≤ b1
      have := (HF0.out a (.inl rfl))
      omega
    clear hD4 hk4 hnf HSy HB3 HA1 HA2 HD3 HF0 HBb
    refine hq.out ?_
    clear hq
    obtain ⟨g1, hg1⟩ : ∃ g : Nat → UInt8, g = fun j : Nat => at8 (d.held (j : Int)) 9 := ⟨_, rfl⟩
    have HG1 := Lib.hid hg1
    clear hg1
    go_wp2_with fail
    go_loopw [76] (fun s wr => ∃ (k : Nat), k ≤ 6 ∧ s = .int .i64 k ∧ Hid (DiskAt wr w0.heap.size a m (.slice none 0 0) d ∧ Below w0.heap.size w0 wr ∧ ArrB wr b1 g1 k ∧ (∀ g, ArrB wr (b1 + 1) g 0))) (fun s _ => 6 - (intOf s).toNat)
    case atStart => exact ⟨0, by omega, rfl, HP.out.1, HP.out.2.1, HP.out.2.2.1 _, HP.out.2.2.2⟩
    case round =>
      obtain ⟨k, hk6, rfl, HR⟩ := hrel
      by_cases hlt : k < 6
      · have hpd : 0 ≤ (k : Int) ∧ (k : Int) < d.size := by have := HV1.out.size; omega
        have HRd := Lib.hid (Read_calls HR.out.1 (k : Int) hpd HV1.out.on)
        clear hpd
        go_wp2_with (go_at_call 13; refine HRd.out.mono ?_; rintro e w5 ⟨g, cc, rfl, hO, hb5⟩; refine park ?_; intro q hq)
        have hnow : d.now (k : Int) = d.held (k : Int) := by unfold DiskM.now; rw [Hw0.out]; rfl
        have h9 := (hO.cells 9 (by rw [now_len HR.out.1.ok]; decide)).1
        rw [hnow, show at8 (d.held (k : Int)) 9 = g1 k by rw [HG1.out]] at h9
        have HB5 := Lib.hid hb5
        have HA5 : Hid (ArrB w5 b1 g1 k) := HR.out.2.2.1.below hb5
        obtain ⟨ov, hov⟩ := HA5.out.any k hlt
        have hfr := HA5.out.fr k
        have HN5 : Hid (DiskAt (w5.setCell ⟨b1, k, none⟩ (.int .u8 ((g1 k).toNat : Int))) w0.heap.size a m (.slice none 0 0) d ∧ Below w0.heap.size w0 (w5.setCell ⟨b1, k, none⟩ (.int .u8 ((g1 k).toNat : Int))) ∧ ArrB (w5.setCell ⟨b1, k, none⟩ (.int .u8 ((g1 k).toNat : Int))) b1 g1 (k + 1) ∧ (∀ g, ArrB (w5.setCell ⟨b1, k, none⟩ (.int .u8 ((g1 k).toNat : Int))) (b1 + 1) g 0)) := by
          have hB : Below w0.heap.size w0 w5 := HR.out.2.1.trans (hb5.mono HR.out.2.1.size)
          have hne := HNe.out
          refine ⟨(HR.out.1.below hb5).kept (Kept.set1 w5 b1 k _) (fun b hb e => ?_), hB.trans ((Kept.set1 w5 b1 k _).below hB.size (fun b hb e => by have := HNb.out; omega)), HA5.out.put hlt, fun g => ((HR.out.2.2.2 g).below hb5).kept (Kept.set1 w5 b1 k _) (by omega)⟩
          rcases hb with h | h | h
          · omega
          · omega
          · cases h
        clear hO hb5 HRd hnow HA5 HB5 HP
        refine hq.out ?_
        clear hq
        go_wp2_with fail
        go_roundw
        case rel => exact ⟨k + 1, by omega, by go_num, HN5⟩
        case measure => simp [intOf]; omega
      · obtain rfl : k = 6 := by omega
        rw [show ((6 : Nat) : Int) = (6 : Int) from rfl]
        have HSn := Lib.hid HV1.out.steps
        go_upto_block 4 with fail
        have hs3 : (wr.alloc (.cells #[.bool false, .bool false, .bool false, .bool false, .bool false, .bool false] 39)).heap.size = wr.heap.size + 1 := by simp
        have HS5 : Hid (∃ s, s ≤ 13 ∧ SynB ((wr.alloc (.cells #[.bool false, .bool false, .bool false, .bool false, .bool false, .bool false] 39)).alloc (.cells #[] 4)) w0 a m b1 wr.heap.size (.slice none 0 0) (.slice (some ⟨wr.heap.size + 1, 0, none⟩) 0 0) d d g1 [] 0 s) := by
          refine ⟨i + 1, by omega, ?_⟩
          have hb1 : Below wr.heap.size wr (wr.alloc (.cells #[.bool false, .bool false, .bool false, .bool false, .bool false, .bool false] 39)) := (Below.refl _ _).alloc (Nat.le_refl _) _
          have hb2 : Below (wr.heap.size + 1) (wr.alloc (.cells #[.bool false, .bool false, .bool false, .bool false, .bool false, .bool false] 39)) ((wr.alloc (.cells #[.bool false, .bool false, .bool false, .bool false, .bool false, .bool false] 39)).alloc (.cells #[] 4)) := (Below.refl _ _).alloc (by rw [hs3]; exact Nat.le_refl _) _
          have hb : Below wr.heap.size wr ((wr.alloc (.cells #[.bool false, .bool false, .bool false, .bool false, .bool false, .bool false] 39)).alloc (.cells #[] 4)) := hb1.trans (hb2.mono (by omega))
          have hz := (HR.out.2.2.2 g1).lt
          have hrow := row4_nil (wr.alloc (.cells #[.bool false, .bool false, .bool false, .bool false, .bool false, .bool false] 39)) (wr.heap.size + 1) (by rw [hs3]; exact Nat.le_refl _)
          rw [hs3] at hrow
          refine ⟨HR.out.1.below hb, HR.out.2.1.trans (hb.mono HR.out.2.1.size), HR.out.2.2.1.below hb, fun g => (HR.out.2.2.2 g).below hb, (ArrO.new wr).below (by rw [hs3]; exact hb2), rfl, hrow, ?_, HV1.out, ⟨HNb.out, hz⟩⟩
          intro j hj hf
          have hne := HNe.out
          have hfo := HR.out.1.foot
          rcases hf with e | e | e
          · rcases hj with c | c | c | c <;> first | omega | (have := (hfo a (.inl rfl)).2; first | omega | (have c2 : wr.heap.size + 1 = j := Option.some.inj c; omega))
          · rcases hj with c | c | c | c <;> first | omega | (have := (hfo m (.inr (.inl rfl))).2; first | omega | (have c2 : wr.heap.size + 1 = j := Option.some.inj c; omega))
          · cases e
        clear hs3 HSn
        generalize ((wr.alloc (.cells #[.bool false, .bool false, .bool false, .bool false, .bool false, .bool false] 39)).alloc (.cells #[] 4)) = w5 at HS5 ⊢
        obtain ⟨b3, hb3⟩ : ∃ b, wr.heap.size = b := ⟨_, rfl⟩
        have HB3 := Lib.hid hb3
        rw [HB3.out] at HS5 ⊢
        clear hb3 HR
        go_cut [16, 17] (fun kv _ wc => Hid (∃ wv d' W s, SynB wc w0 a m b1 b3 wv kv d d' g1 W W.length s ∧ W = d'.wait ∧ s ≤ 30))
        case first =>
          go_wp2_with fail
          go_loopw [16, 17] (fun kv s wr => ∃ (k : Nat), k ≤ 12 ∧ k ≤ l2.length ∧ s = .int .i64 k ∧ Hid (∃ wv d' W s, SynB wr w0 a m b1 b3 wv kv d d' g1 W W.length s ∧ W = d'.wait ∧ W.length = k ∧ s ≤ 13 + k)) (fun _ s _ => 12 - (intOf s).toNat)
          case atStart =>
            obtain ⟨s, hs, hS⟩ := HS5.out
            exact ⟨0, by omega, by omega, rfl, _, _, _, s, hS, Hw0.out.symm, rfl, hs⟩
          case round =>
            obtain ⟨k, hk12, hkl, rfl, HR⟩ := hrel
            obtain ⟨wv, d', W, s, hS, hW, hWk, hs13⟩ := HR.out
            have HS := Lib.hid hS
            have HW := Lib.hid hW
            have HWk := Lib.hid hWk
            clear HR hS hW hWk HS5
            by_cases hlt : k < l2.length ∧ k < 12
            · obtain ⟨hlt, h12⟩ := hlt
              obtain ⟨ad, hA, hz⟩ := HI2.out k hlt
              subst hA
              obtain ⟨z, hzz⟩ : ∃ z, l2[k] = z := ⟨_, rfl⟩
              rw [hzz] at hz
              obtain ⟨hz, hz1⟩ := hz
              have hadq : (ad.add k).block < w.heap.size := World.block_lt_of_cell? w (ad.add k) hz
              have hz0 : w0.cell? (ad.add k) = some (.int .i64 z) := (HB0.out.cell (by rw [← HQ0.out]; exact hadq)).trans hz
              have hzr : wr.cell? (ad.add k) = some (.int .i64 z) := (HS.out.be.cell (World.block_lt_of_cell? w0 _ hz0)).trans hz0
              clear hzz
              obtain ⟨p, hp6, e2⟩ := mod_pick z 6 (by decide)
              have e2' : (IntKind.u64.wrap z).tmod (6 : Int) = (p : Int) := e2
              have ew : IntKind.i64.wrap (p : Int) = (p : Int) := wrap6 p hp6
              obtain ⟨c8, hc8⟩ : ∃ c8 : UInt8, IntKind.u8.wrap ((k : Int) + 101) = (c8.toNat : Int) := ⟨UInt8.ofNat (k + 101), by simp only [IntKind.wrap, IntKind.bits, IntKind.signed]; first | (simp; done) | (simp; omega)⟩
              have hov := HS.out.ov.cell p hp6
              have hfr := HS.out.ov.fr p
              clear e2 hz1 hz hz0 hadq
              have HS1 := Lib.hid (HS.out.set p hp6 (List.replicate 256 c8))
              go_wp2_with (with_reducible refine park_append ?_; intro q hq)
              refine hq.out ?_
              clear hq
              have HS2 := Lib.hid (HS1.out.below ((Below.refl _ _).alloc (Nat.le_refl _) (.cells #[.bool true] 4)))
              obtain ⟨i0, hi, hz0, hz1, hz2⟩ := info_parts info4
              have hsc : (wr.setCell ⟨b3, p, none⟩ (.bool true)).heap.size = wr.heap.size := by simp [World.setCell]
              have hco := cell_one_new (wr.setCell ⟨b3, p, none⟩ (.bool true)) (.bool true) 4
              rw [hsc] at hco
              refine wpList_append_own_at _ rfl _ _ 23 rfl (b3 + 1) 4 i0 (.bool false) 1 1 Try.underlying23 hi hz0 hz1 hz2 rfl (by decide) u16 W.length (List.replicate W.length (.bool true)) rfl HS2.out.kr ⟨wr.heap.size, 0, none⟩ 1 1 [.bool true] rfl rfl hco (by intro u hu; rw [List.mem_singleton.1 hu]; rfl) (by have := HWk.out; unfold maxLen; omega) (by have := HWk.out; omega) (by have := HS2.out.ov.lt; omega) ?_
              intro kv' w6 hown hgr _ hat
              have HS3 := Lib.hid (HS2.out.app hown hgr hat)
              clear hown hgr hat HS1 HS2 hov hfr hi hz0 hz1 hz2 hzr e2' ew hsc hco
              go_wp2_with (go_at_call 11; refine (filled_calls c8 _).mono ?_; rintro e wf ⟨g, cc, rfl, hO, hbf⟩; refine park ?_; intro q hq)
              have HS4 := Lib.hid (HS3.out.below hbf)
              have hOb := Lib.hid hO.bytes
              clear hO hbf HS3 hc8
              have HWr := Lib.hid (Write_calls HS4.out.dk HS4.out.be.size (p : Int) (by have := HS4.out.si.size; omega) HS4.out.si.on (some ⟨g, 0, none⟩) cc (List.replicate 256 c8) List.length_replicate hOb.out (by have := HS4.out.si.bud; have := HS4.out.si.steps; omega) (by have := HS4.out.si.steps; omega))
              refine hq.out ?_
              clear hq
              go_wp2_with (go_at_call 10; (with_reducible refine HWr.out.mono ?_); rintro e w8 ⟨rfl, wv8, hD8, hk8, hv8⟩; refine park ?_; intro q hq)
              have HS8 := Lib.hid (HS4.out.write (p : Int) _ hD8 hk8 hv8)
              clear hD8 hk8 hv8 HWr HS4 hOb
              refine hq.out ?_
              clear hq
              go_wp2_with fail
              go_roundw
              case rel => exact ⟨k + 1, by omega, by omega, by go_num, wv8, _, W ++ [((p : Int), List.replicate 256 c8)], s + 1, by rw [List.length_append]; exact HS8.out, by rw [HW.out]; rfl, by rw [List.length_append, HWk.out]; rfl, by omega⟩
              case measure => simp [intOf]; omega
            · go_wp2_with fail
              all_goals
                go_meet
                exact ⟨wv, d', W, s, HS.out, HW.out, by omega⟩
        case rest =>
          obtain ⟨wv, d', W, s, hS, hW, hs30⟩ := hcut.out
          have HS := Lib.hid hS
          have HW := Lib.hid hW
          clear hcut hS hW HS5
          obtain ⟨g2, hg2⟩ : ∃ g : Nat → UInt8, g = fun j : Nat => at8 (lastOf (j : Int) (d.held (j : Int)) W) 9 := ⟨_, rfl⟩
          have HG2 := Lib.hid hg2
          clear hg2
          go_wp2_with fail
          go_loopw [130] (fun sl wr => ∃ (k : Nat), k ≤ 6 ∧ sl = .int .i64 k ∧ Hid (SynB wr w0 a m b1 b3 wv u16 d d' g1 W W.length s ∧ ArrB wr (b1 + 1) g2 k)) (fun s _ => 6 - (intOf s).toNat)
          case atStart => exact ⟨0, by omega, rfl, HS.out, HS.out.a2 _⟩
          case round =>
            obtain ⟨k, hk6, rfl, HR⟩ := hrel
            by_cases hlt : k < 6
            · have HRd := Lib.hid (Read_calls HR.out.1.dk (k : Int) (by have := HR.out.1.si.size; omega) HR.out.1.si.on)
              go_wp2_with (go_at_call 13; refine HRd.out.mono ?_; rintro e w6 ⟨g, cc, rfl, hO, hb6⟩; refine park ?_; intro q hq)
              have h9 := (hO.cells 9 (by rw [now_len HR.out.1.dk.ok]; decide)).1
              have h9' := h9
              rw [HR.out.1.now_ HW.out, show at8 (lastOf (k : Int) (d.held (k : Int)) W) 9 = g2 k by rw [HG2.out]] at h9
              have HS6 := Lib.hid (HR.out.1.below hb6)
              have HA6 := Lib.hid (HR.out.2.below hb6)
              have hP6 : ∀ nq, SynB ((w6.drewN nq).setCell ⟨b1 + 1, k, none⟩ (.int .u8 ((g2 k).toNat : Int))) w0 a m b1 b3 wv u16 d d' g1 W W.length s ∧ ArrB ((w6.drewN nq).setCell ⟨b1 + 1, k, none⟩ (.int .u8 ((g2 k).toNat : Int))) (b1 + 1) g2 (k + 1) := fun nq =>
                (HS6.out.below (drewB w6 nq)).put2 (HA6.out.below (drewB w6 nq)) hlt
              have HP6 := Lib.hid hP6
              have x1 := HS6.out.a1.cell k hlt hlt
              have x3 := HS6.out.ov.cell k hlt
              obtain ⟨ov, x2⟩ := HA6.out.any k hlt
              have f2 := HA6.out.fr k
              refine hq.out ?_
              clear hq
              cases hov : over_ W k
              · rw [hov] at x3
                have e9 : g2 k = g1 k := by rw [HG2.out, HG1.out]; show at8 (lastOf (k : Int) (d.held (k : Int)) W) 9 = at8 (d.held (k : Int)) 9; rw [lastOf_miss _ _ _ (over_not hov)]
                have u9 : (((g2 k).toNat : Int) != ((g1 k).toNat : Int)) = false := by rw [e9]; simp
                clear hO hb6 HRd h9' e9 HS6 HA6 HR hP6 hov
                go_wp2_with fail
                go_quiet (fail)
                go_wp2_with fail
                go_roundw
                case rel => exact ⟨k + 1, by omega, by go_num, HP6.out _⟩
                case measure => simp [intOf]; omega
              · rw [hov] at x3
                clear hO hb6 HRd h9' HS6 HA6 HR hP6 hov
                go_wp2_with fail
                go_quiet (fail)
                go_wp2_with fail
                go_roundw
                case rel => exact ⟨k + 1, by omega, by go_num, HP6.out _⟩
                case measure => simp [intOf]; omega
            · obtain rfl : k = 6 := by omega
              rw [show ((6 : Nat) : Int) = (6 : Int) from rfl]
              obtain ⟨A8, c8, rfl⟩ := HR.out.1.form
              have hKb := HR.out.1.bools.2
              have HS := Lib.hid HR.out.1
              have HA := Lib.hid HR.out.2
              have HL1 : Hid (Calls Try.prog 14 #[.pointer (some ⟨a, 0, none⟩), .agg #[.slice none 0 0, .int .i64 (-1), .int .i64 0]] wr (RetD wr (d'.lose [] (-1) 0) (.slice none 0 0))) :=
                Lose_calls HR.out.1.dk none 0 [] (-1) 0 (fun k hk => absurd hk (by simp)) (by simp) (by omega) (by omega) (by omega)
              have HKb := Lib.hid hKb
              clear hKb HR
              go_wp2_with (go_at_call 14; refine HL1.out.mono ?_; rintro e w7 ⟨a7, m7, rfl, hD7, hb7⟩; refine park ?_; intro q hq)
              have HD7 := Lib.hid hD7
              have HS7 := Lib.hid (HS.out.below hb7)
              have HA7 := Lib.hid (HA.out.below hb7)
              have HK7 := Lib.hid (HKb.out.below hb7)
              have hWl : W.length ≤ 1000 := by
                have h1 := HS.out.si.bud
                have h2 := HS.out.si.steps
                rw [← HW.out] at h1
                omega
              have HL2 : Hid (Calls Try.prog 14 #[.pointer (some ⟨a, 0, none⟩), .agg #[.slice A8 W.length c8, .int .i64 (-1), .int .i64 0]] w7 (RetD w7 (d'.lose (List.replicate W.length true) (-1) 0) (.slice none 0 0))) := by
                have := Lose_calls HS7.out.dk A8 c8 (List.replicate W.length true) (-1) 0 HK7.out (by simp; omega) (by omega) (by omega) (by omega)
                rw [List.length_replicate] at this
                exact this
              clear hD7 hb7 HL1 HS HA HKb
              refine hq.out ?_
              clear hq
              go_wp2_with (go_at_call 14; refine HL2.out.mono ?_; rintro e w8 ⟨a8, m8, rfl, hD8, hb8⟩; refine park ?_; intro q hq)
              have HD8 := Lib.hid hD8
              have HN8 := Lib.hid (HD7.out.below hb8)
              have HS8 := Lib.hid (HS7.out.below hb8)
              have HA8 := Lib.hid (HA7.out.below hb8)
              clear hD8 hb8 HL2 HD7 HS7 HA7 HK7
              refine hq.out ?_
              clear hq
              have l0 : w8.cell? ⟨q0, 0, none⟩ = some (.slice A3 K.length c3) := by
                rw [HS8.out.be.cell (p := ⟨q0, 0, none⟩) (Array.getElem?_eq_some_iff.1 HLb.out).1, cell_of_row _ _ _ _ _ _ HLb.out]; rfl
              have l1 : w8.cell? ⟨q0, 1, none⟩ = some (.int .i64 torn) := by
                rw [HS8.out.be.cell (p := ⟨q0, 1, none⟩) (Array.getElem?_eq_some_iff.1 HLb.out).1, cell_of_row _ _ _ _ _ _ HLb.out]; rfl
              have l2 : w8.cell? ⟨q0, 2, none⟩ = some (.int .i64 at_) := by
                rw [HS8.out.be.cell (p := ⟨q0, 2, none⟩) (Array.getElem?_eq_some_iff.1 HLb.out).1, cell_of_row _ _ _ _ _ _ HLb.out]; rfl
              have HK8 : Hid (Bools w8 A3 K) := HK.out.below (by
                have h1 := HB0.out
                rw [← HQ0.out] at h1
                exact h1.trans (HS8.out.be.mono h1.size))
              obtain ⟨BN, hBN⟩ : ∃ b, wr.heap.size = b := ⟨_, rfl⟩
              obtain ⟨BA, hBA⟩ : ∃ b, w7.heap.size = b := ⟨_, rfl⟩
              rw [hBN] at HN8
              rw [hBA] at HD8
              clear hBN hBA
              by_cases hbad : (0 ≤ torn ∧ torn < (d'.wait.length : Int)) ∧ (at_ < 0 ∨ 256 < at_)
              · have HL3 := Lib.hid (Lose_bad HS8.out.dk (.slice A3 K.length c3) torn at_ hbad.1 hbad.2)
                clear hbad
                go_wp2_with (go_at_call 14; refine HL3.out.mono ?_; rintro e w9 ⟨rfl, hb9⟩; refine park ?_; intro q hq)
                have HP9 : Hid (SynB w9 w0 a m b1 b3 wv (.slice A8 W.length c8) d d' g1 W W.length s ∧ ArrB w9 (b1 + 1) g2 6 ∧ DiskAt w9 BN a7 m7 (.slice none 0 0) (d'.lose [] (-1) 0) ∧ DiskAt w9 BA a8 m8 (.slice none 0 0) (d'.lose (List.replicate W.length true) (-1) 0)) :=
                  ⟨HS8.out.below hb9, HA8.out.below hb9, HN8.out.below hb9, HD8.out.below hb9⟩
                clear hb9 HL3 l0 l1 l2 HK8 HS8 HA8 HN8 HD8
                refine hq.out ?_
                clear hq
                go_wp2_with fail
                go_loopw [208] (fun sl wr => ∃ (k : Nat), k ≤ 6 ∧ sl = .int .i64 k ∧ Hid (SynB wr w0 a m b1 b3 wv (.slice A8 W.length c8) d d' g1 W W.length s ∧ ArrB wr (b1 + 1) g2 6 ∧ DiskAt wr BN a7 m7 (.slice none 0 0) (d'.lose [] (-1) 0) ∧ DiskAt wr BA a8 m8 (.slice none 0 0) (d'.lose (List.replicate W.length true) (-1) 0))) (fun sl _ => 6 - (intOf sl).toNat)
                case atStart => exact ⟨0, by omega, rfl, HP9.out⟩
                case round =>
                  obtain ⟨k, hk6, rfl, HR⟩ := hrel
                  clear HP9
                  by_cases hlt : k < 6
                  · have hsz : (0 : Int) ≤ (k : Int) ∧ (k : Int) < d'.size := by have := HR.out.1.si.size; omega
                    have HR1 := Lib.hid (Read_calls HR.out.2.2.1 (k : Int) hsz rfl)
                    have HSz := Lib.hid hsz
                    clear hsz
                    go_wp2_with (go_at_call 13; refine HR1.out.mono ?_; rintro e w10 ⟨gx, cx, rfl, hO, hb10⟩; refine park ?_; intro q hq)
                    have hx := (hO.cells 9 (by rw [HR.out.1.none9]; rw [← HR.out.1.hd, HR.out.1.dk.ok.hlen]; decide)).1
                    rw [HR.out.1.none9, show at8 (d.held (k : Int)) 9 = g1 k by rw [HG1.out]] at hx
                    have HX := Lib.hid (World.block_lt_of_cell? _ _ hx)
                    have hx := Lib.hid hx
                    have HM := Lib.hid hb10
                    have HR2 := Lib.hid (Read_calls (HR.out.2.2.2.below hb10) (k : Int) HSz.out rfl)
                    clear hO hb10 HR1
                    refine hq.out ?_
                    clear hq
                    go_wp2_with (go_at_call 13; refine HR2.out.mono ?_; rintro e w11 ⟨gy, cy, rfl, hO, hb11⟩; refine park ?_; intro q hq)
                    have hy := (hO.cells 9 (by rw [HR.out.1.all9 HW.out, lastOf_len _ _ _ (fun e he => (HR.out.1.dk.ok.wlen e (by rw [← HW.out]; exact he)).1) (by rw [← HR.out.1.hd]; exact HR.out.1.dk.ok.hlen _)]; decide)).1
                    rw [HR.out.1.all9 HW.out, show at8 (lastOf (k : Int) (d.held (k : Int)) W) 9 = g2 k by rw [HG2.out]] at hy
                    have hbb := HM.out.trans (hb11.mono HM.out.size)
                    have hx := (hb11.cell HX.out).trans hx.out
                    have hP : ∀ nq, SynB (w11.drewN nq) w0 a m b1 b3 wv (.slice A8 W.length c8) d d' g1 W W.length s ∧ ArrB (w11.drewN nq) (b1 + 1) g2 6 ∧ DiskAt (w11.drewN nq) BN a7 m7 (.slice none 0 0) (d'.lose [] (-1) 0) ∧ DiskAt (w11.drewN nq) BA a8 m8 (.slice none 0 0) (d'.lose (List.replicate W.length true) (-1) 0) := fun nq => by
                      have hbn := hbb.trans ((drewB w11 nq).mono hbb.size)
                      exact ⟨HR.out.1.below hbn, HR.out.2.1.below hbn, HR.out.2.2.1.below hbn, HR.out.2.2.2.below hbn⟩
                    have HP := Lib.hid hP
                    have x1 : w11.cell? ⟨b1, k, none⟩ = some (.int .u8 ((g1 k).toNat : Int)) := (HP.out 0).1.a1.cell k hlt hlt
                    have x2 : w11.cell? ⟨b1 + 1, k, none⟩ = some (.int .u8 ((g2 k).toNat : Int)) := (HP.out 0).2.1.cell k hlt hlt
                    have x3 : ∀ nq, (w11.drewN nq).cell? ⟨b3, k, none⟩ = some (.bool (over_ W k)) := fun nq => (HP.out nq).1.ov.cell k hlt
                    have X3 := Lib.hid x3
                    have v1 : (((g1 k).toNat : Int) != ((g1 k).toNat : Int)) = false := by simp
                    have v2 : (((g2 k).toNat : Int) != ((g2 k).toNat : Int)) = false := by simp
                    clear hO hb11 HR2 hbb hP x3 HR HM HX
                    refine hq.out ?_
                    clear hq
                    go_wp2_with fail
                    go_quiet (fail)
                    have y3 := X3.out nq
                    have HN := Lib.hid (HP.out nq)
                    clear X3 HP x1 x2 hx hy
                    generalize w11.drewN nq = w12 at y3 HN ⊢
                    go_wp2_with fail
                    go_roundw
                    case rel => exact ⟨k + 1, by omega, by go_num, HN.out⟩
                    case measure => simp [intOf]; omega
                  · obtain rfl : k = 6 := by omega
                    have hbe := HR.out.1.be
                    have HBE : Hid (Below w.heap.size w wr) := by
                      rw [HQ0.out]
                      have hs0 := HB0.out.size
                      rw [HQ0.out] at hs0
                      exact HB0.out.trans (hbe.mono hs0)
                    go_wp2_with fail
                    go_ret
                    exact ⟨rfl, HBE.out⟩
              · have HL3 := Lib.hid (Lose_calls HS8.out.dk A3 c3 K torn at_ HK8.out hKl (fun h => by
                  by_cases h2 : at_ < 0 ∨ 256 < at_
                  · exact absurd ⟨h, h2⟩ hbad
                  · omega) ht2 ha2)
                clear hbad
                go_wp2_with (go_at_call 14; refine HL3.out.mono ?_; rintro e w9 ⟨a9, m9, rfl, hD9, hb9⟩; refine park ?_; intro q hq)
                obtain ⟨BS, hBS⟩ : ∃ b, w8.heap.size = b := ⟨_, rfl⟩
                have HP9 : Hid (SynB w9 w0 a m b1 b3 wv (.slice A8 W.length c8) d d' g1 W W.length s ∧ ArrB w9 (b1 + 1) g2 6 ∧ DiskAt w9 BN a7 m7 (.slice none 0 0) (d'.lose [] (-1) 0) ∧ DiskAt w9 BA a8 m8 (.slice none 0 0) (d'.lose (List.replicate W.length true) (-1) 0) ∧ DiskAt w9 BS a9 m9 (.slice none 0 0) (d'.lose K torn at_)) :=
                  ⟨HS8.out.below hb9, HA8.out.below hb9, HN8.out.below hb9, HD8.out.below hb9, by rw [← hBS]; exact hD9⟩
                clear hb9 hD9 hBS HL3 l0 l1 l2 HK8 HS8 HA8 HN8 HD8
                refine hq.out ?_
                clear hq
                go_wp2_with fail
                go_loopw [208] (fun sl wr => ∃ (k : Nat), k ≤ 6 ∧ sl = .int .i64 k ∧ Hid (SynB wr w0 a m b1 b3 wv (.slice A8 W.length c8) d d' g1 W W.length s ∧ ArrB wr (b1 + 1) g2 6 ∧ DiskAt wr BN a7 m7 (.slice none 0 0) (d'.lose [] (-1) 0) ∧ DiskAt wr BA a8 m8 (.slice none 0 0) (d'.lose (List.replicate W.length true) (-1) 0) ∧ DiskAt wr BS a9 m9 (.slice none 0 0) (d'.lose K torn at_))) (fun sl _ => 6 - (intOf sl).toNat)
                case atStart => exact ⟨0, by omega, rfl, HP9.out⟩
                case round =>
                  obtain ⟨k, hk6, rfl, HR⟩ := hrel
                  clear HP9
                  by_cases hlt : k < 6
                  · have hsz : (0 : Int) ≤ (k : Int) ∧ (k : Int) < d'.size := by have := HR.out.1.si.size; omega
                    have HR1 := Lib.hid (Read_calls HR.out.2.2.1 (k : Int) hsz rfl)
                    have HSz := Lib.hid hsz
                    clear hsz
                    go_wp2_with (go_at_call 13; refine HR1.out.mono ?_; rintro e w10 ⟨gx, cx, rfl, hO, hb10⟩; refine park ?_; intro q hq)
                    have hx := (hO.cells 9 (by rw [HR.out.1.none9]; rw [← HR.out.1.hd, HR.out.1.dk.ok.hlen]; decide)).1
                    rw [HR.out.1.none9, show at8 (d.held (k : Int)) 9 = g1 k by rw [HG1.out]] at hx
                    have HX := Lib.hid (World.block_lt_of_cell? _ _ hx)
                    have hx := Lib.hid hx
                    have HM := Lib.hid hb10
                    have HR2 := Lib.hid (Read_calls (HR.out.2.2.2.1.below hb10) (k : Int) HSz.out rfl)
                    clear hO hb10 HR1
                    refine hq.out ?_
                    clear hq
                    go_wp2_with (go_at_call 13; refine HR2.out.mono ?_; rintro e w11 ⟨gy, cy, rfl, hO, hb11⟩; refine park ?_; intro q hq)
                    have hy := (hO.cells 9 (by rw [HR.out.1.all9 HW.out, lastOf_len _ _ _ (fun e he => (HR.out.1.dk.ok.wlen e (by rw [← HW.out]; exact he)).1) (by rw [← HR.out.1.hd]; exact HR.out.1.dk.ok.hlen _)]; decide)).1
                    rw [HR.out.1.all9 HW.out, show at8 (lastOf (k : Int) (d.held (k : Int)) W) 9 = g2 k by rw [HG2.out]] at hy
                    have hbb := HM.out.trans (hb11.mono HM.out.size)
                    have hx := (hb11.cell HX.out).trans hx.out
                    have hP : ∀ nq, SynB (w11.drewN nq) w0 a m b1 b3 wv (.slice A8 W.length c8) d d' g1 W W.length s ∧ ArrB (w11.drewN nq) (b1 + 1) g2 6 ∧ DiskAt (w11.drewN nq) BN a7 m7 (.slice none 0 0) (d'.lose [] (-1) 0) ∧ DiskAt (w11.drewN nq) BA a8 m8 (.slice none 0 0) (d'.lose (List.replicate W.length true) (-1) 0) ∧ DiskAt (w11.drewN nq) BS a9 m9 (.slice none 0 0) (d'.lose K torn at_) := fun nq => by
                      have hbn := hbb.trans ((drewB w11 nq).mono hbb.size)
                      exact ⟨HR.out.1.below hbn, HR.out.2.1.below hbn, HR.out.2.2.1.below hbn, HR.out.2.2.2.1.below hbn, HR.out.2.2.2.2.below hbn⟩
                    have HP := Lib.hid hP
                    have x1 : w11.cell? ⟨b1, k, none⟩ = some (.int .u8 ((g1 k).toNat : Int)) := (HP.out 0).1.a1.cell k hlt hlt
                    have x2 : w11.cell? ⟨b1 + 1, k, none⟩ = some (.int .u8 ((g2 k).toNat : Int)) := (HP.out 0).2.1.cell k hlt hlt
                    have x3 : ∀ nq, (w11.drewN nq).cell? ⟨b3, k, none⟩ = some (.bool (over_ W k)) := fun nq => (HP.out nq).1.ov.cell k hlt
                    have X3 := Lib.hid x3
                    have v1 : (((g1 k).toNat : Int) != ((g1 k).toNat : Int)) = false := by simp
                    have v2 : (((g2 k).toNat : Int) != ((g2 k).toNat : Int)) = false := by simp
                    clear hO hb11 HR2 hbb hP x3 HR HM HX
                    refine hq.out ?_
                    clear hq
                    go_wp2_with fail
                    go_quiet (fail)
                    have y3 := X3.out nq
                    have HN := Lib.hid (HP.out nq)
                    clear X3 HP x1 x2 hx hy
                    generalize w11.drewN nq = w12 at y3 HN ⊢
                    cases hov : over_ W k
                    · rw [hov] at y3
                      have HRz := Lib.hid (Read_calls HN.out.2.2.2.2 (k : Int) HSz.out rfl)
                      have HOv := Lib.hid hov
                      clear hov
                      go_wp2_with (go_at_call 13; refine HRz.out.mono ?_; rintro e w13 ⟨gz, cz, rfl, hO, hb13⟩; refine park ?_; intro q hq)
                      have hz := (hO.cells 9 (by rw [HN.out.1.some9 HW.out _ _ _ _ HOv.out]; rw [← HN.out.1.hd, HN.out.1.dk.ok.hlen]; decide)).1
                      rw [HN.out.1.some9 HW.out _ _ _ _ HOv.out, show at8 (d.held (k : Int)) 9 = g1 k by rw [HG1.out]] at hz
                      have hP : ∀ nq, SynB (w13.drewN nq) w0 a m b1 b3 wv (.slice A8 W.length c8) d d' g1 W W.length s ∧ ArrB (w13.drewN nq) (b1 + 1) g2 6 ∧ DiskAt (w13.drewN nq) BN a7 m7 (.slice none 0 0) (d'.lose [] (-1) 0) ∧ DiskAt (w13.drewN nq) BA a8 m8 (.slice none 0 0) (d'.lose (List.replicate W.length true) (-1) 0) ∧ DiskAt (w13.drewN nq) BS a9 m9 (.slice none 0 0) (d'.lose K torn at_) := fun nq => by
                        have hbn := hb13.trans ((drewB w13 nq).mono hb13.size)
                        exact ⟨HN.out.1.below hbn, HN.out.2.1.below hbn, HN.out.2.2.1.below hbn, HN.out.2.2.2.1.below hbn, HN.out.2.2.2.2.below hbn⟩
                      have HP := Lib.hid hP
                      have x1 : w13.cell? ⟨b1, k, none⟩ = some (.int .u8 ((g1 k).toNat : Int)) := (HP.out 0).1.a1.cell k hlt hlt
                      clear hO hb13 HRz hP HN y3
                      refine hq.out ?_
                      clear hq
                      go_wp2_with fail
                      go_quiet (fail)
                      go_wp2_with fail
                      go_roundw
                      case rel => exact ⟨k + 1, by omega, by go_num, HP.out _⟩
                      case measure => simp [intOf]; omega
                    · rw [hov] at y3
                      clear hov
                      go_wp2_with fail
                      go_roundw
                      case rel => exact ⟨k + 1, by omega, by go_num, HN.out⟩
                      case measure => simp [intOf]; omega
                  · obtain rfl : k = 6 := by omega
                    have hbe := HR.out.1.be
                    have HBE : Hid (Below w.heap.size w wr) := by
                      rw [HQ0.out]
                      have hs0 := HB0.out.size
                      rw [HQ0.out] at hs0
                      exact HB0.out.trans (hbe.mono hs0)
                    go_wp2_with fail
                    go_ret
                    exact ⟨rfl, HBE.out⟩
theorem synced_row (A1 : Option Addr) (c1 : Nat) (l1 : List Int) (A2 : Option Addr) (c2 : Nat) (l2 : List Int) (A3 : Option Addr) (c3 : Nat) (K : List Bool) (torn at_ : Int) (w : World)
    (hb1 : Ints w A1 l1) (_ : A1 = none → c1 = 0) (_ : l1.length ≤ c1) (hl1 : l1.length ≤ 140737488351232) (hb2 : Ints w A2 l2) (_ : A2 = none → c2 = 0) (_ : l2.length ≤ c2) (hl2 : l2.length ≤ 140737488351232)
    (hK : Bools w A3 K) (hKl : K.length ≤ 140737488351232) (ht2 : -9223372036854775808 ≤ torn ∧ torn ≤ 9223372036854775807) (ha2 : -9223372036854775808 ≤ at_ ∧ at_ ≤ 9223372036854775807) :
    Calls Try.prog 3 #[.slice A1 l1.length c1, .slice A2 l2.length c2, .agg #[.slice A3 K.length c3, .int .i64 torn, .int .i64 at_]] w fun e w' => e = .returned (.bool true) ∧ Below w.heap.size w w' :=
  synced_calls A1 A2 A3 c1 c2 c3 l1 l2 K torn at_ w hb1 hl1 hb2 hl2 hK hKl ht2 ha2
end Go.Proofs.Ytgodnmlggomaaaa
