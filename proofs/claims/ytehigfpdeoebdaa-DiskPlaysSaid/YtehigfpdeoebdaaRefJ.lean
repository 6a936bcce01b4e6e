/- The document's disk: Spoil. -/
import Derived.Test.YtehigfpdeoebdaaRefI
set_option linter.unusedSimpArgs false
set_option linter.unusedVariables false
namespace Go.Proofs.Ytehigfpdeoebdaa.Dsk
open Go.RowKit
/-- What waits is written. -/
theorem RefAt.setW {w : World} {base a g n c : Nat} {hv : Value} {r : RefM} (h : RefAt w base a hv (.slice (some ⟨g, 0, none⟩) n c) r) (j : Nat) (hj : j < r.wait.length) (s : List UInt8) (hs : s.length = 256) :
    RefAt (w.setCell ⟨g, j * 2 + 1, none⟩ (.string (bstr s))) base a hv (.slice (some ⟨g, 0, none⟩) n c) { r with wait := r.wait.set j (r.wait[j].1, s) } := by
  have hk' : Kept (· = g) w (w.setCell ⟨g, j * 2 + 1, none⟩ (.string (bstr s))) := Kept.set1 w g _ _
  have hn : n = r.wait.length := by
    rcases h.wrow.2 with ⟨h1, _⟩ | ⟨g', cap, cur, h1, _⟩
    · cases h1
    · cases h1; rfl
  subst hn
  refine ⟨?_, ?_, ?_, h.lo, ⟨h.ok.hlen, ?_, h.ok.size, by simpa using h.ok.wsize, h.ok.steps, h.ok.left⟩⟩
  · rw [hk'.block a (Array.getElem?_eq_some_iff.1 h.blk).1 (fun e => h.wa (by rw [e]; rfl))]; exact h.blk
  · exact h.row.kept hk' (fun k e e' => h.hw k e (by rw [e']; rfl))
  · simp only [List.length_set]
    rw [← wrCells_set _ j hj s]
    exact (World.ownsRow.stored h.wrow (j * 2 + 1) (.string (bstr s))).1
  · intro e he
    rcases List.mem_or_eq_of_mem_set he with he | rfl
    · exact h.ok.wlen e he
    · exact ⟨hs, (h.ok.wlen _ (List.getElem_mem hj)).2⟩
def RefM.spoil (r : RefM) (i : Nat) (k : Nat) (b : UInt8) : RefM := { r with held := r.held.set i ((atH r.held i).set k b), wait := r.wait.map (spoil1 (i : Int) k b) }
theorem set_split (l : List UInt8) (k : Nat) (b : UInt8) (h : k < l.length) : l.set k b = (l.take k ++ [b]) ++ l.drop (k + 1) := by
  rw [List.set_eq_take_append_cons_drop, if_pos h, List.append_assoc]; rfl
section
variable {w : World} {base a : Nat} {hv wv : Value} {r : RefM}
set_option maxRecDepth 100000 in
set_option maxHeartbeats 1000000 in
theorem SpoilR_bad (h : RefAt w base a hv wv r) (i k : Int) (b : UInt8) (hb : ¬ (0 ≤ i ∧ i < r.held.length) ∨ k < 0 ∨ 256 ≤ k) :
    Calls Try.prog 18 #[.pointer (some ⟨a, 0, none⟩), .int .i64 i, .int .i64 k, .int .u8 (b.toNat : Int)] w fun e w' => e = .returned (.int .i64 2) ∧ w = w' := by
  have hs := h.ok.size
  have c0 := h.c0
  obtain ⟨A, c, rfl, _⟩ := h.hform
  clear h
  by_cases h0 : i < 0
  · have e1 : decide (i < (0 : Int)) = true := by simpa using h0
    go_enter Try.func18, Try.ntmps18
    go_wp2
    go_ret
    exact ⟨rfl, rfl⟩
  · have e1 : decide (i < (0 : Int)) = false := by simpa using h0
    by_cases h1 : i < r.held.length
    · have e2 : decide (i ≥ (r.held.length : Int)) = false := by simp; omega
      by_cases h2 : k < 0
      · have e3 : decide (k < (0 : Int)) = true := by simpa using h2
        clear hb
        go_enter Try.func18, Try.ntmps18
        go_wp2
        go_ret
        exact ⟨rfl, rfl⟩
      · have e3 : decide (k < (0 : Int)) = false := by simpa using h2
        have e4 : decide (k ≥ (256 : Int)) = true := by
          simp
          rcases hb with hb | hb | hb
          · exact absurd ⟨by omega, h1⟩ hb
          · exact absurd hb h2
          · exact hb
        clear hb
        go_enter Try.func18, Try.ntmps18
        go_wp2
        go_ret
        exact ⟨rfl, rfl⟩
    · have e2 : decide (i ≥ (r.held.length : Int)) = true := by simp; omega
      clear hb
      go_enter Try.func18, Try.ntmps18
      go_wp2
      go_ret
      exact ⟨rfl, rfl⟩
end
/-- The pieces of a text that is changed in one place, as the walk takes them. -/
theorem cut_text (l : List UInt8) (k : Nat) (b : UInt8) (hl : l.length = 256) (hk : k < 256) : ∃ s p q pb lc : ByteArray, bstr l = s ∧ bstr [b] = pb ∧ bstr (l.set k b) = lc ∧ s.size = 256 ∧ s.extract 0 k = p ∧ s.extract (k + 1) 256 = q ∧
    ∃ pp, (∀ w', (Op.stringOp .add p pb).run Try.prog w' = .ok (.string pp) w') ∧ (∀ w', (Op.stringOp .add pp q).run Try.prog w' = .ok (.string lc) w') := by
  have z4 : (bstr l).size = 256 := by rw [bstr_size, hl]
  have z2 := bstr_drop l (k + 1) (by omega)
  rw [z4] at z2
  refine ⟨_, _, _, _, _, rfl, rfl, rfl, z4, bstr_take l k (by omega), z2, bstr (l.take k ++ [b]), fun w' => ?_, fun w' => ?_⟩
  · rw [run_string_add_sum _ _ _ (by rw [bstr_size, bstr_size, List.length_take]; simp; omega), bstr_append]
  · rw [run_string_add_sum _ _ _ (by rw [bstr_size, bstr_size, List.length_append, List.length_take, List.length_drop]; simp; omega), bstr_append, ← set_split l k b (by omega)]
set_option maxRecDepth 100000 in
set_option maxHeartbeats 2000000 in
theorem SpoilR_ok {w : World} {base a : Nat} {hv wv : Value} {r : RefM} (h : RefAt w base a hv wv r) (i : Nat) (hi : i < r.held.length) (k : Nat) (hk : k < 256) (b : UInt8) (hbase : base ≤ w.heap.size) :
    Calls Try.prog 18 #[.pointer (some ⟨a, 0, none⟩), .int .i64 (i : Int), .int .i64 (k : Int), .int .u8 (b.toNat : Int)] w fun e w' => e = .returned (.int .i64 0) ∧ RefAt w' base a hv wv (r.spoil i k b) ∧ Kept (FootR a hv wv) w w' := by
  have hs := h.ok.size
  have hws := h.ok.wsize
  have H := Lib.hid h
  obtain ⟨A, c, rfl, hA⟩ := h.hform
  obtain ⟨B, c', rfl, _⟩ := h.wform
  have c0 := h.c0
  have e1 : decide ((i : Int) < (0 : Int)) = false := by simp
  have e2 : decide (i ≥ r.held.length) = false := by simp; omega
  have e3 : decide ((k : Int) < (0 : Int)) = false := by simp
  have e4 : decide ((k : Int) ≥ (256 : Int)) = false := by simp; omega
  clear h hA
  go_enter Try.func18, Try.ntmps18
  have hB1 : Hid (Below w.heap.size w (w.alloc (.cells #[.int .u8 (b.toNat : Int)] 5))) := (Below.refl _ _).alloc (Nat.le_refl _) _
  have hrun := run_str (w := w.alloc (.cells #[.int .u8 (b.toNat : Int)] 5)) (A := some ⟨w.heap.size, 0, none⟩) (m := 1) (c := 1) (l := [b]) rfl (fun z hz => by
    obtain rfl : z = 0 := by simpa using hz
    exact ⟨_, rfl, by rw [Addr.add_lit, cell_of_row _ _ _ _ _ _ (heap_alloc_new w _)]; rfl⟩)
  have hH := H.out.ok.hlen _ (List.getElem_mem hi)
  have hat := atH_eq r.held i hi
  rw [← hat] at hH
  obtain ⟨l, hl⟩ : ∃ l, atH r.held i = l := ⟨_, rfl⟩
  have HLq := Lib.hid hl
  rw [hl] at hH hat
  have HH := Lib.hid hH
  obtain ⟨ss, p, q, pb, lc, hss, hpb, hlc, z4, z1, z2, pp, z5, z6⟩ := cut_text l k b hH hk
  have HLC := Lib.hid hlc
  have HPB := Lib.hid hpb
  rw [hpb] at hrun
  have HD1 := Lib.hid (H.out.below hB1.out)
  obtain ⟨A2, c3, hAA, hA⟩ := HD1.out.hform
  obtain ⟨g, hg, p0, p1⟩ := hA i hi
  injection hAA with hA1 hA2 hA3
  clear hA2
  subst hA1
  subst hA3
  subst hg
  rw [← hat, hss] at p0
  have i1 : 0 ≤ (k : Int) + 1 := by omega
  have i2 : (k : Int) + 1 ≤ 256 := by omega
  have i3 : ((k : Int) + 1).toNat = k + 1 := by omega
  have i4 : (k : Int) ≤ 256 := by omega
  have i5 : k ≤ 256 := by omega
  have i6 : IntKind.i64.wrap ((k : Int) + 1) = (k : Int) + 1 := IntWalk.i64_in _ (by omega)
  have x0 := HD1.out.c0
  have hne : a < w.heap.size := (H.out.foot a (.inl rfl)).2
  clear hH hat hl hss hpb hlc hA
  have g1 := HD1.out.foot g (.inr (.inl rfl))
  go_upto_region 4 with fail
  generalize (w.alloc (.cells #[.int .u8 (b.toNat : Int)] 5)) = w1 at hB1 HD1 p0 p1 x0 g1 ⊢
  clear hrun
  go_still_tail 28, (by kernel_rfl)
  have HB2 : Hid (Below w1.heap.size w1 (w1.drewN 1)) := below_drewN w1 1
  change wpList _ _ _ _ _ (w1.drewN 1)
  have p06 : (w1.drewN 1).cell? ⟨g, i, none⟩ = some (.string ss) := p0
  have p16 : (w1.drewN 1).frozen? ⟨g, i, none⟩ = false := p1
  have HL2 : Hid ((l.set k b).length = 256) := (List.length_set).trans HH.out
  obtain ⟨w2, hw2⟩ : ∃ w2, w1.drewN 1 = w2 := ⟨_, rfl⟩
  rw [hw2] at HB2 p06 p16 ⊢
  clear hw2 p0 p1 x0 c0 e1 e2 e3 e4 z1 z2 z4 z5 z6
  have HD3 : Hid (RefAt (w2.setCell ⟨g, i, none⟩ (.string lc)) base a (.slice (some ⟨g, 0, none⟩) r.held.length c) (.slice B r.wait.length c') { r with held := r.held.set i (l.set k b) }) := by
    have := (HD1.out.below HB2.out).setH i (l.set k b) HL2.out; rw [HLC.out] at this; exact this
  have HK3 : Hid (Kept (FootR a (.slice (some ⟨g, 0, none⟩) r.held.length c) (.slice B r.wait.length c')) w (w2.setCell ⟨g, i, none⟩ (.string lc))) :=
    ((Kept.of_below hB1.out).trans (Kept.of_below HB2.out)).trans ((Kept.set1 w2 g i _).mono (fun z _ e => .inr (.inl (by rw [e]; rfl))))
  go_upto_region 5 with fail
  generalize (w2.setCell ⟨g, i, none⟩ (.string lc)) = w3 at HD3 HK3 ⊢
  clear p06 p16 HD1 HB2 hB1
  go_wp2
  obtain ⟨wo, rfl⟩ : ∃ wo : World, wo = w3 := ⟨_, rfl⟩
  go_loopw [10] (fun s wr => ∃ j : Nat, j ≤ r.wait.length ∧ s = .int .i64 j ∧ Hid (RefAt wr base a (.slice (some ⟨g, 0, none⟩) r.held.length c) (.slice B r.wait.length c') { r with held := r.held.set i (l.set k b), wait := spoilW (i : Int) k b j r.wait } ∧ Kept (FootR a (.slice (some ⟨g, 0, none⟩) r.held.length c) (.slice B r.wait.length c')) wo wr)) (fun s _ => r.wait.length - (intOf s).toNat)
  case atStart =>
    refine ⟨0, Nat.zero_le _, rfl, ?_, Kept.refl _ _⟩
    have e : spoilW (i : Int) k b 0 r.wait = r.wait := by simp [spoilW]
    rw [e]; exact HD3.out
  case round =>
    obtain ⟨j, hj, rfl, HR⟩ := hrel
    have c1 := HR.out.1.c1
    by_cases hlt : j < r.wait.length
    · obtain ⟨B2, c2, hBB, hB⟩ := HR.out.1.wform
      have hjw : j < (spoilW (i : Int) k b j r.wait).length := by rw [spoilW_length]; exact hlt
      obtain ⟨g2, hg2, q0, q1, q2⟩ := hB j hjw
      injection hBB with hB1 hB2 hB3
      clear hB2
      subst hB1
      subst hB3
      subst hg2
      have hge : (spoilW (i : Int) k b j r.wait)[j] = r.wait[j] := by
        have := spoilW_get (i : Int) k b j r.wait hlt
        rw [List.getElem?_eq_getElem hjw] at this; injection this
      have hel := (H.out.ok.wlen _ (List.getElem_mem hlt)).1
      obtain ⟨e, he⟩ : ∃ e, r.wait[j] = e := ⟨_, rfl⟩
      simp only [hge] at q0 q1
      rw [he] at q0 q1 hel
      have HSu : Hid (spoilW (i : Int) k b (j + 1) r.wait = (spoilW (i : Int) k b j r.wait).set j (spoil1 (i : Int) k b e)) := Lib.hid (by rw [spoilW_succ _ _ _ _ _ hlt, he])
      have HGe : Hid ((spoilW (i : Int) k b j r.wait)[j]'hjw = e) := Lib.hid (by rw [hge, he])
      by_cases heq : e.1 = (i : Int)
      · have hb : (e.1 == (i : Int)) = true := by simp [heq]
        have HS1 : Hid (spoil1 (i : Int) k b e = (e.1, e.2.set k b)) := Lib.hid (by unfold spoil1; rw [if_pos heq])
        have hl2 : (e.2.set k b).length = 256 := by rw [List.length_set]; exact hel
        have HL4 := Lib.hid hl2
        obtain ⟨s4, p4, r4, pb4, lc4, h1, h2, h3, z4, z1, z2, pp4, z5, z6⟩ := cut_text e.2 k b hel hk
        rw [HPB.out] at h2
        subst h2
        rw [h1] at q1
        have HLC4 := Lib.hid h3
        clear h1 h3 hge he hel heq hl2 hB
        go_wp2_with fail
        go_still_tail 17, (by kernel_rfl)
        have HB6 : Hid (Below wr.heap.size wr (wr.drewN 1)) := below_drewN wr 1
        change wpList _ _ _ _ _ (wr.drewN 1)
        have q16 : (wr.drewN 1).cell? ⟨g2, j * 2 + 1, none⟩ = some (.string s4) := q1
        have q26 : (wr.drewN 1).frozen? ⟨g2, j * 2 + 1, none⟩ = false := q2
        obtain ⟨w6, hw6⟩ : ∃ w6, wr.drewN 1 = w6 := ⟨_, rfl⟩
        rw [hw6] at HB6 q16 q26 ⊢
        clear hw6 q0 q1 q2 z1 z2 z4 z5 z6 c1
        have HD : Hid (RefAt (w6.setCell ⟨g2, j * 2 + 1, none⟩ (.string lc4)) base a (.slice (some ⟨g, 0, none⟩) r.held.length c) (.slice (some ⟨g2, 0, none⟩) r.wait.length c') { r with held := r.held.set i (l.set k b), wait := spoilW (i : Int) k b (j + 1) r.wait }) := by
          rw [HSu.out, HS1.out, ← HLC4.out]
          have := (HR.out.1.below HB6.out).setW j hjw (e.2.set k b) HL4.out
          simp only [HGe.out] at this
          exact this
        go_wp2
        go_roundw
        case rel => exact ⟨j + 1, by omega, by go_num, HD.out, (HR.out.2.trans (Kept.of_below HB6.out)).trans ((Kept.set1 w6 g2 _ _).mono (fun z _ e => .inr (.inr (by rw [e]; rfl))))⟩
        case measure => simp [intOf]; omega
      · have hb : (e.1 == (i : Int)) = false := by simp [heq]
        have HS1 : Hid (spoil1 (i : Int) k b e = e) := Lib.hid (by unfold spoil1; rw [if_neg heq])
        have HD : Hid (RefAt wr base a (.slice (some ⟨g, 0, none⟩) r.held.length c) (.slice (some ⟨g2, 0, none⟩) r.wait.length c') { r with held := r.held.set i (l.set k b), wait := spoilW (i : Int) k b (j + 1) r.wait }) := by
          rw [HSu.out, HS1.out]
          have e5 : (spoilW (i : Int) k b j r.wait).set j e = spoilW (i : Int) k b j r.wait := by rw [← HGe.out]; exact List.set_getElem_self _
          rw [e5]; exact HR.out.1
        clear hge he hel heq hB
        go_wp2
        go_roundw
        case rel => exact ⟨j + 1, by omega, by go_num, HD.out, HR.out.2⟩
        case measure => simp [intOf]; omega
    · obtain rfl : j = r.wait.length := by omega
      have HQ2 := HR.out.1
      have e4 : spoilW (i : Int) k b r.wait.length r.wait = r.wait.map (spoil1 (i : Int) k b) := by simp [spoilW]
      rw [e4] at HQ2
      have HQ3 : Hid (RefAt wr base a (.slice (some ⟨g, 0, none⟩) r.held.length c) (.slice B r.wait.length c') (r.spoil i k b)) := by unfold RefM.spoil; rw [HLq.out]; exact HQ2
      clear HQ2 e4
      go_wp2
      go_ret
      exact ⟨rfl, HQ3.out, HK3.out.trans HR.out.2⟩
end Go.Proofs.Ytehigfpdeoebdaa.Dsk
