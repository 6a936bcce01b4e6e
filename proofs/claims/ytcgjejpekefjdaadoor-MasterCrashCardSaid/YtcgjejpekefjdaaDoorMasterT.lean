/- Save. -/
import Derived.Test.YtcgjejpekefjdaaDoorMasterS
import Derived.Test.YtcgjejpekefjdaaDoorMasterL
import Derived.Test.YtcgjejpekefjdaaDoorMasterQ
set_option linter.unusedSimpArgs false
set_option linter.unusedVariables false
namespace Go.Proofs.YtcgjejpekefjdaaDoor
open Go.RowKit Go.Proofs.YtcgjejpekefjdaaDoor.Crc
open Go.Proofs.YtcgjejpekefjdaaDoor.Dsk
def MasM.nx (x : MasM) : Nat := if x.slot = 0 then 1 else 0
def MasM.save (x : MasM) (ep : Nat) (fs : List Nat) : MasM := if x.nx = 0 then { x with e0 := ep, f0 := fs } else { x with e1 := ep, f1 := fs }
theorem MasM.nx_le (x : MasM) : x.nx ≤ 1 := by
  unfold MasM.nx
  split
  · exact Nat.le_refl 1
  · exact Nat.zero_le 1
theorem wrap_pos (p q : Nat) (hp : p ≤ 4096) (hq : q ≤ 1) : wrap64 ((p : Int) + (q : Int)) = (p : Int) + (q : Int) := by unfold wrap64; omega
theorem wrap_pos1 (p : Nat) (hp : p ≤ 4096) : IntKind.i64.wrap ((p : Int) + 1) = (p : Int) + 1 := by simp only [IntKind.wrap, IntKind.bits, IntKind.signed]; simp; omega
theorem wrap_pos0 (p : Nat) (hp : p ≤ 4096) : IntKind.i64.wrap (p : Int) = (p : Int) := by simp only [IntKind.wrap, IntKind.bits, IntKind.signed]; simp; omega
theorem in_pos (p q : Nat) (s : Int) (hs : (p : Int) + 2 ≤ s) (hq : q ≤ 1) : 0 ≤ (p : Int) + (q : Int) ∧ (p : Int) + (q : Int) < s := by omega
theorem Dsk.DiskAt.not_u64 {w : World} {base a m : Nat} {wv : Value} {d : DiskM} (h : DiskAt w base a m wv d) (k : Nat) (cs : Array Value) (fz : Nat × Nat) (hk : w.heap[k]? = some (.cells cs 49 fz)) : ¬ Foot a m wv k := by
  rintro (rfl | rfl | hF)
  · have := h.blk; rw [hk] at this; cases this
  · obtain ⟨n, D, ⟨⟨es, c, hb, _⟩, _⟩, _⟩ := h.map
    rw [hk] at hb; cases hb
  · rcases h.row.2 with h2 | ⟨g, cap, cur, h1, h2, h3, r⟩
    · rw [h2.1] at hF; cases hF
    · rw [h1] at hF; cases hF
      rw [hk] at h3; cases h3
theorem Kept.trans' {S T : Nat → Prop} {a b c : World} (h : Kept S a b) (k : Kept T b c) (hs : ∀ k, k < a.heap.size → T k → S k ∨ a.heap.size ≤ k) : Kept S a c :=
  ⟨k.os.trans h.os, k.tape.trans h.tape, k.output.trans h.output, Nat.le_trans h.size k.size, fun i hi hn => (k.block i (Nat.lt_of_lt_of_le hi h.size) (fun ht => by rcases hs i hi ht with h1 | h1; exact hn h1; omega)).trans (h.block i hi hn)⟩
/-- What a Save leaves of a disk. -/
def Dsk.DiskM.put2 (d : DiskM) (i : Int) (s : List UInt8) : DiskM := if d.isOff then d else if (d.write i s).isOff then d.write i s else (d.write i s).sync
def ok2 (d : DiskM) (i : Int) (s : List UInt8) : Bool := !d.isOff && !(d.write i s).isOff
/-- What a Save answers, and leaves. -/
def SaveR (w : World) (base a m : Nat) (wv : Value) (d : DiskM) (r : Nat) (x : MasM) (ep : Nat) (fs : List Nat) (e : Ending) (w' : World) : Prop :=
  e = .returned (.int .i64 (if ok2 d ((x.pos : Int) + (x.nx : Int)) (secU ep fs) then 0 else 10)) ∧ Hid (∃ wv', DiskAt w' base a m wv' (DiskM.put2 d ((x.pos : Int) + (x.nx : Int)) (secU ep fs)) ∧ MsAt w' r (some ⟨a, 0, none⟩) (if ok2 d ((x.pos : Int) + (x.nx : Int)) (secU ep fs) then x.save ep fs else x) ∧ Kept (fun k => Foot a m wv k ∨ k = r) w w' ∧ (∀ k, wv'.ownBlock = some k → wv.ownBlock = some k ∨ w.heap.size ≤ k))
set_option maxRecDepth 10000 in
set_option maxHeartbeats 2000000 in
theorem Save_ok {w : World} {base a m : Nat} {wv : Value} {d : DiskM} (hd : DiskAt w base a m wv d) (hbase : base ≤ w.heap.size) {r : Nat} {x : MasM} (h : MsAt w r (some ⟨a, 0, none⟩) x) (hh : HalfIs w) 
    (A : Option Addr) (n c ep : Nat) (fs : List Nat) (hn : n = fs.length) (hnil : A = none → c = 0) (hU : U64s w A fs) (hA : ∀ ad, A = some ad → fs = [] ∨ ad.block < w.heap.size ∧ ¬ Foot a m wv ad.block ∧ ad.block ≠ r)
    (he : x.last.1 < ep ∧ ep ≤ 1000000000) (hl : fs.length ≤ 20) (hf : ∀ f ∈ fs, f < 18446744073709551616) (hp : (x.pos : Int) + 2 ≤ d.size) (hbd : d.bud + d.wait.length + 2 ≤ 1000) (hst : d.steps + 2 ≤ 1000000) (hrf : ¬ Foot a m wv r) :
    Calls Tryd.prog 13 #[.pointer (some ⟨r, 0, none⟩), .slice A n c, .int .i64 (ep : Int)] w (SaveR w base a m wv d r x ep fs) := by
  have HL := Lib.hid (Latest_calls h)
  have HM := Lib.hid h
  have HD := Lib.hid hd
  have HU := Lib.hid hU
  have HH := Lib.hid hh
  have HN := Lib.hid hn
  have HF := Lib.hid hf
  have HA := Lib.hid hA
  have HLn := Lib.hid hl
  have HEp := Lib.hid he
  obtain ⟨A0, c0, A1, c1, h1, _⟩ := h
  obtain ⟨k0, _⟩ := h1.cells
  clear h1 hd hU hh hf hA
  obtain ⟨l, hle⟩ : ∃ l, x.last = l := ⟨_, rfl⟩
  rw [hle] at HL he
  obtain ⟨le, lf⟩ := l
  simp only at HL he
  clear hle
  have d1 : decide (ep ≤ le) = false := by simp; omega
  have d0 : ¬ ep ≤ le := by omega
  have d2 : decide ((ep : Int) > 1000000000) = false := by simp; omega
  have d3 : decide ((n : Int) > 20) = false := by simp; omega
  have w1 : IntKind.u64.wrap (n : Int) = (n : Int) := by simp only [IntKind.wrap, IntKind.bits, IntKind.signed]; simp; omega
  have w2 : IntKind.u64.wrap (ep : Int) = (ep : Int) := by simp only [IntKind.wrap, IntKind.bits, IntKind.signed]; simp; omega
  have HPu : Hid (∀ w', Below w.heap.size w w' → Calls Tryd.prog 39 #[.slice none 0 0, .int .u64 (n : Int)] w' fun e w'' => ∃ v', e = .returned v' ∧ Hid (OwnB w'' w.heap.size v' (putU fs.length) ∧ Below w.heap.size w w'')) := fun w' hb => by
    refine (PutUint_calls w.heap.size (.slice none 0 0) [] n w' (World.ownsRow_nil _ _ _ _) hb.size (by simp) (by omega)).mono ?_
    rintro e w'' ⟨v', rfl, g1, g2⟩
    exact ⟨v', rfl, by rw [← HN.out]; exact g1, hb.trans g2⟩
  clear he hn hl
  go_enter Tryd.func13, Tryd.ntmps13
  go_wp2_with (first | (go_at_call 11; refine HL.out.mono ?_; rintro e w' ⟨A2, c2, rfl, _, _, hb⟩) | (go_at_call 39; (with_reducible refine (HPu.out _ (by assumption)).mono ?_); rintro e w4 ⟨v4, rfl, hv4⟩; refine park ?_; intro q hq))
  refine hq.out ?_
  clear hq
  go_wp2_with fail
  go_loopw [10, 47] (fun v i wr => ∃ (t : Nat) (acc : List UInt8), t ≤ n ∧ i = .int .i64 (t : Int) ∧ Hid (acc ++ putsU (fs.drop t) = bodyU fs ∧ OwnB wr w.heap.size v acc ∧ Below w.heap.size w wr)) (fun _ i _ => n - (intOf i).toNat)
  case atStart => exact ⟨0, _, Nat.zero_le _, rfl, rfl, hv4.out.1, hv4.out.2⟩
  case round =>
    obtain ⟨t, acc, ht, rfl, HV⟩ := hrel
    by_cases hlt : t < n
    · have hlf : t < fs.length := by rw [← HN.out]; exact hlt
      obtain ⟨ad, hAd, hcl⟩ := (HU.out.below HV.out.2.2) t hlf
      obtain ⟨f, hf⟩ : ∃ f, fs[t] = f := ⟨_, rfl⟩
      rw [hf] at hcl
      subst hAd
      have hfl : f < 18446744073709551616 := HF.out f (by rw [← hf]; exact List.getElem_mem hlf)
      have hal : acc.length ≤ 1000000 := by
        have h1 := congrArg List.length HV.out.1
        have h2 := bodyU_len fs HF.out HLn.out
        rw [List.length_append] at h1
        omega
      have HP := Lib.hid (PutUint_calls w.heap.size u10 acc f wr HV.out.2.1 HV.out.2.2.size hal hfl)
      have HE : Hid ((acc ++ putU f) ++ putsU (fs.drop (t + 1)) = bodyU fs) := by
        have := HV.out.1
        rw [putsU_drop fs t hlf, hf, ← List.append_assoc] at this
        exact this
      clear hal hfl hlf hf
      go_wp2_with (go_at_call 39; (with_reducible refine HP.out.mono ?_); rintro e w5 ⟨v5, rfl, g5, b5⟩; refine park ?_; intro q hq)
      refine hq.out ?_
      clear hq
      have HN5 : Hid ((acc ++ putU f) ++ putsU (fs.drop (t + 1)) = bodyU fs ∧ OwnB w5 w.heap.size v5 (acc ++ putU f) ∧ Below w.heap.size w w5) := ⟨HE.out, g5, HV.out.2.2.trans b5⟩
      have hn20 : n ≤ 20 := by rw [HN.out]; exact HLn.out
      have ht20 : (t : Int) + 1 ≤ 20 := by omega
      clear g5 b5 HP HE hcl
      go_wp2_with fail
      go_roundw
      case rel => exact ⟨t + 1, _, Nat.succ_le_of_lt hlt, congrArg (Value.int .i64) (Int.natCast_succ t).symm, HN5⟩
      case measure =>
        clear w1 w2 d1 d0 d2 d3 hp hbd hst hbase
        simp [intOf]
        omega
    · obtain rfl : t = n := by omega
      have hdr : fs.drop t = [] := List.drop_eq_nil_of_le (by rw [← HN.out]; exact Nat.le_refl _)
      have hV := HV.out
      rw [hdr, putsU_nil, List.append_nil] at hV
      obtain ⟨hacc, hOv, hBv⟩ := hV
      subst hacc
      have hv := hOv.form
      obtain ⟨A3, c3, hv3⟩ : ∃ A3 c3, u10 = .slice A3 (bodyU fs).length c3 := by
        rcases hv with ⟨h1, h2⟩ | ⟨g, c', h1, _⟩
        · exact ⟨none, 0, by rw [h1, h2]; rfl⟩
        · exact ⟨_, c', h1⟩
      subst hv3
      have hbl := bodyU_len fs HF.out HLn.out
      have hwr : wrapR ep 3 (bodyU fs) = (secU ep fs, 0) := by
        unfold wrapR secU
        rw [if_neg (by have := HEp.out.1; intro h; rcases h with h | h; omega; cases h), if_neg (by omega)]
      have hsl : (secU ep fs).length = 256 := wrapB_length ep 3 _ (by omega)
      have hW := Wrap_calls ep (by have := HEp.out.2; omega) 3 A3 (bodyU fs).length c3 (bodyU fs) wr (HH.out.below hBv) rfl hOv.bytes (fun h => by subst h; exact hOv.nilcap.2.1) (by omega)
      rw [hwr] at hW
      have HW : Hid (Calls Tryd.prog 40 #[.int .u64 (ep : Int), .int .u8 3, .slice A3 (bodyU fs).length c3] wr fun e w' => ∃ A4 c4, e = .returned (.tuple #[.slice A4 256 c4, .int .i64 0]) ∧ Hid (OwnB w' w.heap.size (.slice A4 256 c4) (secU ep fs) ∧ Below w.heap.size w w')) := by
        refine hW.mono ?_
        rintro e w' ⟨A4, c4, rfl, g1, g2⟩
        rw [hsl] at g1 ⊢
        exact ⟨A4, c4, rfl, g1.base hBv.size, hBv.trans (g2.mono hBv.size)⟩
      have HSl := Lib.hid hsl
      clear hdr hOv hBv hv hbl hwr hsl hW HV
      obtain ⟨bl, hbl⟩ : ∃ bl, (bodyU fs).length = bl := ⟨_, rfl⟩
      rw [hbl] at HW
      simp only [hbl]
      clear hbl
      go_wp2_with (go_at_call 40; (with_reducible refine HW.out.mono ?_); rintro e w5 ⟨A4, c4, rfl, h5⟩; refine park ?_; intro q hq)
      refine hq.out ?_
      clear hq
      have HM5 := Lib.hid (HM.out.below h5.out.2)
      have HS5 := Lib.hid (Slot_calls HM5.out)
      go_wp2_with (go_at_call 12; (with_reducible refine HS5.out.mono ?_); rintro e w6 ⟨rfl, hb6⟩; refine park ?_; intro q hq)
      refine hq.out ?_
      clear hq
      have HB6 : Hid (Below w.heap.size w w6.drew) := (h5.out.2.trans (hb6.mono h5.out.2.size)).drew
      have hO6 : OwnB w6.drew w.heap.size (.slice A4 256 c4) (secU ep fs) := (h5.out.1.below hb6).below (Below.refl _ _).drew
      obtain ⟨A0', c0', A1', c1', h1', _⟩ := HM.out.below HB6.out
      obtain ⟨k0', k1', _⟩ := h1'.cells
      have hnx := x.nx_le
      have HNx := Lib.hid hnx
      have hw7 := wrap_pos x.pos x.nx HM.out.ok.pos hnx
      have hin := in_pos x.pos x.nx d.size hp hnx
      have HM7 : Hid (∀ w7, Kept (Foot a m wv) w6.drew w7 → MsAt w7 r (some ⟨a, 0, none⟩) x) := fun w7 hk => (HM.out.below HB6.out).kept hk hrf (fun k cs fz hk hF => (HD.out.below HB6.out).not_u64 k cs fz hk hF)
      have HWr : Hid (Calls Tryd.prog 41 #[.pointer (some ⟨a, 0, none⟩), .int .i64 ((x.pos : Int) + (x.nx : Int)), .slice A4 256 c4] w6.drew fun e w' => (d.isOff = true ∧ e = .returned (.int .i64 10) ∧ w6.drew = w') ∨ (d.isOff = false ∧ e = .returned (.int .i64 0) ∧ ∃ wv', DiskAt w' base a m wv' (d.write ((x.pos : Int) + (x.nx : Int)) (secU ep fs)) ∧ Kept (Foot a m wv) w6.drew w' ∧ (wv'.ownBlock = wv.ownBlock ∨ ∃ k, wv'.ownBlock = some k ∧ w6.drew.heap.size ≤ k))) := by
        cases ho : d.isOff with
        | true => exact (Go.Proofs.YtcgjejpekefjdaaDoor.Dsk.Write_off (HD.out.below HB6.out) _ hin ho A4 c4).mono fun e w' h => .inl ⟨rfl, h.1, h.2⟩
        | false => exact (Go.Proofs.YtcgjejpekefjdaaDoor.Dsk.Write_calls (HD.out.below HB6.out) (Nat.le_trans hbase HB6.out.size) ((x.pos : Int) + (x.nx : Int)) hin ho A4 c4 (secU ep fs) HSl.out hO6.bytes (by omega) (by omega)).mono fun e w' h => .inr ⟨rfl, h.1, h.2⟩
      clear h1' hO6
      by_cases hs0 : x.slot = 0
      · have hnx1 : x.nx = 1 := if_pos hs0
        rw [hnx1, show ((1 : Nat) : Int) = 1 from rfl] at HWr hw7
        rw [hs0]
        have hw8 := wrap_pos1 x.pos HM.out.ok.pos
        clear hs0 hin
        have hS0 : w6.drew.cell? ⟨r, 0, none⟩ = some (.pointer (some ⟨a, 0, none⟩)) ∧ w6.drew.cell? ⟨r, 1, none⟩ = some (.int .i64 (x.pos : Int)) := ⟨k0', k1'⟩
        have hQp : ((x.pos : Int) + (x.nx : Int)) = (x.pos : Int) + 1 := by rw [hnx1]; rfl
        go_wp2_with fail
        have HWc : Hid (Calls Tryd.prog 41 #[.pointer (some ⟨a, 0, none⟩), .int .i64 ((x.pos : Int) + 1), .slice A4 256 c4] w6.drew fun e w' => ∃ er : Int, e = .returned (.int .i64 er) ∧ (w'.cell? ⟨r, 0, none⟩ = some (.pointer (some ⟨a, 0, none⟩)) ∧ w'.cell? ⟨r, 1, none⟩ = some (.int .i64 (x.pos : Int))) ∧ Hid ((er = 10 ∧ d.isOff = true ∧ Below w.heap.size w w') ∨ (er = 0 ∧ d.isOff = false ∧ ∃ wv', DiskAt w' base a m wv' (d.write ((x.pos : Int) + 1) (secU ep fs)) ∧ Kept (Foot a m wv) w6.drew w' ∧ (∀ k, wv'.ownBlock = some k → wv.ownBlock = some k ∨ w.heap.size ≤ k)))) := by
          refine HWr.out.mono ?_
          rintro e w' (⟨h1, rfl, rfl⟩ | ⟨h1, rfl, wv', g1, g2, g3⟩)
          · exact ⟨10, rfl, hS0, .inl ⟨rfl, h1, HB6.out⟩⟩
          · refine ⟨0, rfl, ⟨g2.cell hS0.1 hrf, g2.cell hS0.2 hrf⟩, .inr ⟨rfl, h1, wv', g1, g2, fun k hk => ?_⟩⟩
            rcases g3 with g3 | ⟨k', g3, g4⟩
            · exact .inl (by rw [← g3]; exact hk)
            · rw [g3] at hk; cases hk; exact .inr (Nat.le_trans HB6.out.size g4)
        go_region_held3 (fun w2 => w2.cell? ⟨r, 0, none⟩ = some (.pointer (some ⟨a, 0, none⟩)) ∧ w2.cell? ⟨r, 1, none⟩ = some (.int .i64 (x.pos : Int))) (first | assumption) (first | (go_at_call 41; (with_reducible refine HWc.out.mono ?_); rintro e w7 ⟨er, rfl, hS7, hW7⟩))
        rcases hW7.out with ⟨rfl, hoff, hb7⟩ | ⟨rfl, hon, wv', g1, g2, g3⟩
        · have HR : Hid (DiskAt w7 base a m wv d ∧ MsAt w7 r (some ⟨a, 0, none⟩) x ∧ Kept (fun k => Foot a m wv k ∨ k = r) w w7) := ⟨HD.out.below hb7, HM.out.below hb7, Kept.of_below hb7⟩
          clear hW7 hS7 hb7
          go_wp2_with fail
          go_ret
          refine ⟨by rw [hQp]; unfold ok2; rw [hoff]; rfl, wv, ?_, ?_, HR.out.2.2, fun k hk => .inl hk⟩
          · unfold Dsk.DiskM.put2; rw [if_pos hoff]; exact HR.out.1
          · unfold ok2; rw [hoff]; exact HR.out.2.1
        · obtain ⟨d2, hd2⟩ : ∃ d2, d.write ((x.pos : Int) + 1) (secU ep fs) = d2 := ⟨_, rfl⟩
          have HD2e := Lib.hid hd2
          have hdw : d2.wait.length = d.wait.length + 1 ∧ d2.bud = d.bud + 1 ∧ d2.steps = d.steps + 1 := by
            rw [← hd2]; unfold DiskM.write DiskM.put DiskM.step; simp
          rw [hd2] at g1
          have hK7 : Kept (fun k => Foot a m wv k ∨ k = r) w w7 := (Kept.of_below HB6.out).trans (g2.mono fun k _ hk => .inl hk)
          have hM7 : MsAt w7 r (some ⟨a, 0, none⟩) x := HM7.out w7 g2
          have HG := Lib.hid (And.intro g1 (And.intro hM7 (And.intro hK7 g3)))
          have c70 := hS7.1
          have HSy : Hid (Calls Tryd.prog 42 #[.pointer (some ⟨a, 0, none⟩)] w7 fun e w' => ∃ es : Int, e = .returned (.int .i64 es) ∧ Hid ((es = 10 ∧ d2.isOff = true ∧ w7 = w') ∨ (es = 0 ∧ d2.isOff = false ∧ DiskAt w' base a m (.slice none 0 0) d2.sync ∧ MsAt w' r (some ⟨a, 0, none⟩) x ∧ Kept (fun k => Foot a m wv k ∨ k = r) w w'))) := by
            cases ho2 : d2.isOff with
            | true => exact (Go.Proofs.YtcgjejpekefjdaaDoor.Dsk.Sync_off g1 ho2).mono fun e w' ⟨h1, h2⟩ => ⟨10, h1, .inl ⟨rfl, rfl, h2⟩⟩
            | false =>
              refine (Go.Proofs.YtcgjejpekefjdaaDoor.Dsk.Sync_calls g1 ho2 (by omega) (by omega)).mono fun e w' ⟨h1, h2, h3⟩ => ⟨0, h1, .inr ⟨rfl, rfl, h2, ?_, ?_⟩⟩
              · refine hM7.kept h3 ?_ ?_
                · rintro (h | h | h)
                  · exact hrf (.inl h)
                  · exact hrf (.inr (.inl h))
                  · rcases g3 _ h with h | h
                    · exact hrf (.inr (.inr h))
                    · exact absurd HM.out.lt (by omega)
                · intro k cs fz hk hF
                  exact g1.not_u64 k cs fz hk hF
              · refine hK7.trans' h3 ?_
                rintro k hk (h | h | h)
                · exact .inl (.inl (.inl h))
                · exact .inl (.inl (.inr (.inl h)))
                · rcases g3 _ h with h | h
                  · exact .inl (.inl (.inr (.inr h)))
                  · exact .inr h
          have HS70 := Lib.hid hS7
          clear g1 g2 g3 hM7 hK7 hW7 hS7 HWc hS0 HWr hd2
          go_wp2_with (go_at_call 42; (with_reducible refine HSy.out.mono ?_); rintro e w8 ⟨es, rfl, h8⟩; refine park ?_; intro q hq)
          refine hq.out ?_
          clear hq HSy c70
          rcases h8.out with ⟨rfl, hoff, rfl⟩ | ⟨rfl, hon2, g1, g2, g3⟩
          · clear h8
            go_wp2_with fail
            go_ret
            obtain ⟨g1, g2, g3, g4⟩ := HG.out
            refine ⟨by rw [hQp]; unfold ok2; rw [HD2e.out, hon, hoff]; rfl, wv', ?_, ?_, g3, g4⟩
            · unfold Dsk.DiskM.put2; rw [hQp, HD2e.out, if_neg (by rw [hon]; decide), if_pos hoff]; exact g1
            · rw [hQp]; unfold ok2; rw [HD2e.out, hon, hoff]; exact g2
          · clear h8
            have HG8 := Lib.hid (And.intro g1 (And.intro g2 g3))
            clear g1 g2 g3 HG
            have hU8 : U64s w8 A fs := by
              by_cases hz : fs = []
              · intro k hk
                exact absurd hk (by rw [hz]; exact Nat.not_lt_zero _)
              refine HU.out.kept HG8.out.2.2 (fun ad hA h => ?_)
              rcases HA.out ad hA with h1 | ⟨h1, h2, h3⟩
              · exact hz h1
              rcases h with h | h
              · exact h2 h
              · exact h3 h
            have HCl : Hid (∀ w', Below w8.heap.size w8 w' → Calls Tryd.prog 38 #[.slice A t c] w' fun e w'' => ∃ A' c', e = .returned (.slice A' t c') ∧ Hid ((A' = none → c' = 0) ∧ U64o w'' A' fs ∧ (∀ ad, A' = some ad → w8.heap.size ≤ ad.block) ∧ Below w8.heap.size w8 w'')) := fun w' hb =>
              (Clone_calls A t c fs w' HN.out hnil (hU8.below hb) (by rw [HN.out]; have := HLn.out; omega)).mono fun _ _ ⟨A', c', e1, e2, e3, e4, e5⟩ => ⟨A', c', e1, e2, e3, fun ad hA => Nat.le_trans hb.size (e4 ad hA), hb.trans (e5.mono hb.size)⟩
            clear hU8
            have hbd8 : Below w8.heap.size w8 w8.drew := (Below.refl _ _).drew
            go_wp2_with fail
            go_region_law (first | (go_simp; go_at_call 38; (with_reducible refine (HCl.out _ hbd8).mono ?_); rintro e w9 ⟨A9, c9, rfl, h9⟩; obtain ⟨⟨v2, q2⟩, ⟨v3, q3⟩, ⟨v4, q4⟩, ⟨v5, q5⟩, f2, f3, f4, f5⟩ := (HG8.out.2.1.below h9.out.2.2.2).four))
            have HN9 : Hid (MsAt ((w9.setCell ⟨r, 4, none⟩ (.int .i64 (ep : Int))).setCell ⟨r, 5, none⟩ (.slice A9 t c9)) r (some ⟨a, 0, none⟩) (x.save ep fs) ∧ DiskAt ((w9.setCell ⟨r, 4, none⟩ (.int .i64 (ep : Int))).setCell ⟨r, 5, none⟩ (.slice A9 t c9)) base a m (.slice none 0 0) d2.sync ∧ Kept (fun k => Foot a m wv k ∨ k = r) w ((w9.setCell ⟨r, 4, none⟩ (.int .i64 (ep : Int))).setCell ⟨r, 5, none⟩ (.slice A9 t c9))) := by
              have hb := h9.out.2.2.2
              have hks : Kept (· = r) w9 ((w9.setCell ⟨r, 4, none⟩ (.int .i64 (ep : Int))).setCell ⟨r, 5, none⟩ (.slice A9 t c9)) := (Kept.set1 w9 r 4 _).trans (Kept.set1 _ r 5 _)
              refine ⟨?_, ?_, ?_⟩
              · have := HG8.out.2.1.put1 (Kept.of_below hb) ep fs A9 c9 h9.out.1 h9.out.2.1 h9.out.2.2.1 HEp.out.2 HLn.out
                rw [← HN.out] at this
                unfold MasM.save
                rw [if_neg (by rw [hnx1]; decide)]
                exact this
              · refine (HG8.out.1.below hb).kept hks ?_
                rintro k hF rfl
                rcases hF with h | h | h
                · exact hrf (.inl h)
                · exact hrf (.inr (.inl h))
                · cases h
              · exact (HG8.out.2.2.trans (Kept.of_below hb)).trans (hks.mono fun k _ h => .inr h)
            clear q2 q3 q4 q5 f2 f3 f4 f5 h9 HG8 HCl hbd8
            go_wp2_with fail
            go_ret
            refine ⟨by rw [hQp]; unfold ok2; rw [HD2e.out, hon, hon2]; rfl, .slice none 0 0, ?_, ?_, HN9.out.2.2, fun k hk => by cases hk⟩
            · unfold Dsk.DiskM.put2; rw [hQp, HD2e.out, if_neg (by rw [hon]; decide), if_neg (by rw [hon2]; decide)]; exact HN9.out.2.1
            · rw [hQp]; unfold ok2; rw [HD2e.out, hon, hon2]; exact HN9.out.1
      · have hnx1 : x.nx = 0 := if_neg hs0
        rw [hnx1, show ((0 : Nat) : Int) = 0 from rfl, Int.add_zero] at HWr hw7
        have hsd : (x.slot == 0) = false := by simpa using hs0
        have hw8 := wrap_pos0 x.pos HM.out.ok.pos
        clear hs0 hin
        have hS0 : w6.drew.cell? ⟨r, 0, none⟩ = some (.pointer (some ⟨a, 0, none⟩)) ∧ w6.drew.cell? ⟨r, 1, none⟩ = some (.int .i64 (x.pos : Int)) := ⟨k0', k1'⟩
        have hQp : ((x.pos : Int) + (x.nx : Int)) = (x.pos : Int) := by rw [hnx1]; exact Int.add_zero _
        go_wp2_with fail
        have HWc : Hid (Calls Tryd.prog 41 #[.pointer (some ⟨a, 0, none⟩), .int .i64 (x.pos : Int), .slice A4 256 c4] w6.drew fun e w' => ∃ er : Int, e = .returned (.int .i64 er) ∧ (w'.cell? ⟨r, 0, none⟩ = some (.pointer (some ⟨a, 0, none⟩)) ∧ w'.cell? ⟨r, 1, none⟩ = some (.int .i64 (x.pos : Int))) ∧ Hid ((er = 10 ∧ d.isOff = true ∧ Below w.heap.size w w') ∨ (er = 0 ∧ d.isOff = false ∧ ∃ wv', DiskAt w' base a m wv' (d.write (x.pos : Int) (secU ep fs)) ∧ Kept (Foot a m wv) w6.drew w' ∧ (∀ k, wv'.ownBlock = some k → wv.ownBlock = some k ∨ w.heap.size ≤ k)))) := by
          refine HWr.out.mono ?_
          rintro e w' (⟨h1, rfl, rfl⟩ | ⟨h1, rfl, wv', g1, g2, g3⟩)
          · exact ⟨10, rfl, hS0, .inl ⟨rfl, h1, HB6.out⟩⟩
          · refine ⟨0, rfl, ⟨g2.cell hS0.1 hrf, g2.cell hS0.2 hrf⟩, .inr ⟨rfl, h1, wv', g1, g2, fun k hk => ?_⟩⟩
            rcases g3 with g3 | ⟨k', g3, g4⟩
            · exact .inl (by rw [← g3]; exact hk)
            · rw [g3] at hk; cases hk; exact .inr (Nat.le_trans HB6.out.size g4)
        go_region_held3 (fun w2 => w2.cell? ⟨r, 0, none⟩ = some (.pointer (some ⟨a, 0, none⟩)) ∧ w2.cell? ⟨r, 1, none⟩ = some (.int .i64 (x.pos : Int))) (first | assumption) (first | (go_at_call 41; (with_reducible refine HWc.out.mono ?_); rintro e w7 ⟨er, rfl, hS7, hW7⟩))
        rcases hW7.out with ⟨rfl, hoff, hb7⟩ | ⟨rfl, hon, wv', g1, g2, g3⟩
        · have HR : Hid (DiskAt w7 base a m wv d ∧ MsAt w7 r (some ⟨a, 0, none⟩) x ∧ Kept (fun k => Foot a m wv k ∨ k = r) w w7) := ⟨HD.out.below hb7, HM.out.below hb7, Kept.of_below hb7⟩
          clear hW7 hS7 hb7
          go_wp2_with fail
          go_ret
          refine ⟨by rw [hQp]; unfold ok2; rw [hoff]; rfl, wv, ?_, ?_, HR.out.2.2, fun k hk => .inl hk⟩
          · unfold Dsk.DiskM.put2; rw [if_pos hoff]; exact HR.out.1
          · unfold ok2; rw [hoff]; exact HR.out.2.1
        · obtain ⟨d2, hd2⟩ : ∃ d2, d.write (x.pos : Int) (secU ep fs) = d2 := ⟨_, rfl⟩
          have HD2e := Lib.hid hd2
          have hdw : d2.wait.length = d.wait.length + 1 ∧ d2.bud = d.bud + 1 ∧ d2.steps = d.steps + 1 := by
            rw [← hd2]; unfold DiskM.write DiskM.put DiskM.step; simp
          rw [hd2] at g1
          have hK7 : Kept (fun k => Foot a m wv k ∨ k = r) w w7 := (Kept.of_below HB6.out).trans (g2.mono fun k _ hk => .inl hk)
          have hM7 : MsAt w7 r (some ⟨a, 0, none⟩) x := HM7.out w7 g2
          have HG := Lib.hid (And.intro g1 (And.intro hM7 (And.intro hK7 g3)))
          have c70 := hS7.1
          have HSy : Hid (Calls Tryd.prog 42 #[.pointer (some ⟨a, 0, none⟩)] w7 fun e w' => ∃ es : Int, e = .returned (.int .i64 es) ∧ Hid ((es = 10 ∧ d2.isOff = true ∧ w7 = w') ∨ (es = 0 ∧ d2.isOff = false ∧ DiskAt w' base a m (.slice none 0 0) d2.sync ∧ MsAt w' r (some ⟨a, 0, none⟩) x ∧ Kept (fun k => Foot a m wv k ∨ k = r) w w'))) := by
            cases ho2 : d2.isOff with
            | true => exact (Go.Proofs.YtcgjejpekefjdaaDoor.Dsk.Sync_off g1 ho2).mono fun e w' ⟨h1, h2⟩ => ⟨10, h1, .inl ⟨rfl, rfl, h2⟩⟩
            | false =>
              refine (Go.Proofs.YtcgjejpekefjdaaDoor.Dsk.Sync_calls g1 ho2 (by omega) (by omega)).mono fun e w' ⟨h1, h2, h3⟩ => ⟨0, h1, .inr ⟨rfl, rfl, h2, ?_, ?_⟩⟩
              · refine hM7.kept h3 ?_ ?_
                · rintro (h | h | h)
                  · exact hrf (.inl h)
                  · exact hrf (.inr (.inl h))
                  · rcases g3 _ h with h | h
                    · exact hrf (.inr (.inr h))
                    · exact absurd HM.out.lt (by omega)
                · intro k cs fz hk hF
                  exact g1.not_u64 k cs fz hk hF
              · refine hK7.trans' h3 ?_
                rintro k hk (h | h | h)
                · exact .inl (.inl (.inl h))
                · exact .inl (.inl (.inr (.inl h)))
                · rcases g3 _ h with h | h
                  · exact .inl (.inl (.inr (.inr h)))
                  · exact .inr h
          have HS70 := Lib.hid hS7
          clear g1 g2 g3 hM7 hK7 hW7 hS7 HWc hS0 HWr hd2
          go_wp2_with (go_at_call 42; (with_reducible refine HSy.out.mono ?_); rintro e w8 ⟨es, rfl, h8⟩; refine park ?_; intro q hq)
          refine hq.out ?_
          clear hq HSy c70
          rcases h8.out with ⟨rfl, hoff, rfl⟩ | ⟨rfl, hon2, g1, g2, g3⟩
          · clear h8
            go_wp2_with fail
            go_ret
            obtain ⟨g1, g2, g3, g4⟩ := HG.out
            refine ⟨by rw [hQp]; unfold ok2; rw [HD2e.out, hon, hoff]; rfl, wv', ?_, ?_, g3, g4⟩
            · unfold Dsk.DiskM.put2; rw [hQp, HD2e.out, if_neg (by rw [hon]; decide), if_pos hoff]; exact g1
            · rw [hQp]; unfold ok2; rw [HD2e.out, hon, hoff]; exact g2
          · clear h8
            have HG8 := Lib.hid (And.intro g1 (And.intro g2 g3))
            clear g1 g2 g3 HG
            have hU8 : U64s w8 A fs := by
              by_cases hz : fs = []
              · intro k hk
                exact absurd hk (by rw [hz]; exact Nat.not_lt_zero _)
              refine HU.out.kept HG8.out.2.2 (fun ad hA h => ?_)
              rcases HA.out ad hA with h1 | ⟨h1, h2, h3⟩
              · exact hz h1
              rcases h with h | h
              · exact h2 h
              · exact h3 h
            have HCl : Hid (∀ w', Below w8.heap.size w8 w' → Calls Tryd.prog 38 #[.slice A t c] w' fun e w'' => ∃ A' c', e = .returned (.slice A' t c') ∧ Hid ((A' = none → c' = 0) ∧ U64o w'' A' fs ∧ (∀ ad, A' = some ad → w8.heap.size ≤ ad.block) ∧ Below w8.heap.size w8 w'')) := fun w' hb =>
              (Clone_calls A t c fs w' HN.out hnil (hU8.below hb) (by rw [HN.out]; have := HLn.out; omega)).mono fun _ _ ⟨A', c', e1, e2, e3, e4, e5⟩ => ⟨A', c', e1, e2, e3, fun ad hA => Nat.le_trans hb.size (e4 ad hA), hb.trans (e5.mono hb.size)⟩
            clear hU8
            have hbd8 : Below w8.heap.size w8 w8.drew := (Below.refl _ _).drew
            go_wp2_with fail
            go_region_law (first | (go_simp; go_at_call 38; (with_reducible refine (HCl.out _ hbd8).mono ?_); rintro e w9 ⟨A9, c9, rfl, h9⟩; obtain ⟨⟨v2, q2⟩, ⟨v3, q3⟩, ⟨v4, q4⟩, ⟨v5, q5⟩, f2, f3, f4, f5⟩ := (HG8.out.2.1.below h9.out.2.2.2).four))
            have HN9 : Hid (MsAt ((w9.setCell ⟨r, 2, none⟩ (.int .i64 (ep : Int))).setCell ⟨r, 3, none⟩ (.slice A9 t c9)) r (some ⟨a, 0, none⟩) (x.save ep fs) ∧ DiskAt ((w9.setCell ⟨r, 2, none⟩ (.int .i64 (ep : Int))).setCell ⟨r, 3, none⟩ (.slice A9 t c9)) base a m (.slice none 0 0) d2.sync ∧ Kept (fun k => Foot a m wv k ∨ k = r) w ((w9.setCell ⟨r, 2, none⟩ (.int .i64 (ep : Int))).setCell ⟨r, 3, none⟩ (.slice A9 t c9))) := by
              have hb := h9.out.2.2.2
              have hks : Kept (· = r) w9 ((w9.setCell ⟨r, 2, none⟩ (.int .i64 (ep : Int))).setCell ⟨r, 3, none⟩ (.slice A9 t c9)) := (Kept.set1 w9 r 2 _).trans (Kept.set1 _ r 3 _)
              refine ⟨?_, ?_, ?_⟩
              · have := HG8.out.2.1.put0 (Kept.of_below hb) ep fs A9 c9 h9.out.1 h9.out.2.1 h9.out.2.2.1 HEp.out.2 HLn.out
                rw [← HN.out] at this
                unfold MasM.save
                rw [if_pos hnx1]
                exact this
              · refine (HG8.out.1.below hb).kept hks ?_
                rintro k hF rfl
                rcases hF with h | h | h
                · exact hrf (.inl h)
                · exact hrf (.inr (.inl h))
                · cases h
              · exact (HG8.out.2.2.trans (Kept.of_below hb)).trans (hks.mono fun k _ h => .inr h)
            clear q2 q3 q4 q5 f2 f3 f4 f5 h9 HG8 HCl hbd8
            go_wp2_with fail
            go_ret
            refine ⟨by rw [hQp]; unfold ok2; rw [HD2e.out, hon, hon2]; rfl, .slice none 0 0, ?_, ?_, HN9.out.2.2, fun k hk => by cases hk⟩
            · unfold Dsk.DiskM.put2; rw [hQp, HD2e.out, if_neg (by rw [hon]; decide), if_neg (by rw [hon2]; decide)]; exact HN9.out.2.1
            · rw [hQp]; unfold ok2; rw [HD2e.out, hon, hon2]; exact HN9.out.1
end Go.Proofs.YtcgjejpekefjdaaDoor
