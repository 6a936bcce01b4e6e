/- The disk: Sync; Lose that is refused. -/
import Derived.Test.YtehigfpdeoebdaaDiskL
set_option linter.unusedSimpArgs false
set_option linter.unusedVariables false
namespace Go.Proofs.Ytehigfpdeoebdaa.Dsk
open Go.RowKit
def syncF : List (Int × List UInt8) → (Int → List UInt8) → (Int → List UInt8)
  | [], f => f
  | e :: r, f => syncF r (upd f e.1 e.2)
theorem syncF_snoc (e : Int × List UInt8) : ∀ (l : List (Int × List UInt8)) (f : Int → List UInt8), syncF (l ++ [e]) f = upd (syncF l f) e.1 e.2
  | [], f => rfl
  | x :: l, f => by rw [List.cons_append, syncF, syncF_snoc e l, syncF]
def DiskM.settled (d : DiskM) : DiskM := { d with held := syncF d.wait d.held, wait := [], bud := d.bud + d.wait.length }
def DiskM.sync (d : DiskM) : DiskM := d.settled.step
set_option maxRecDepth 100000 in
set_option maxHeartbeats 2000000 in
theorem Sync_calls {w : World} {base a m : Nat} {wv : Value} {d : DiskM} (h : DiskAt w base a m wv d) (ho : d.isOff = false) (hst : d.steps + 1 ≤ 1000000) (hbd : d.bud + d.wait.length ≤ 1000) :
    Calls Try.prog 10 #[.pointer (some ⟨a, 0, none⟩)] w fun e w' => e = .returned (.int .i64 0) ∧ DiskAt w' base a m (.slice none 0 0) d.sync ∧ Kept (Foot a m wv) w w' := by
  have H := Lib.hid h
  have HM := Lib.hid (made_calls h)
  have hf := off_calls h
  rw [ho] at hf
  have HFo := Lib.hid hf
  have HO := Lib.hid ho
  have HSt := Lib.hid hst
  obtain ⟨W, cw, rfl, hf0⟩ := h.form2
  have HF := Lib.hid hf0
  have hsz := h.ok.size
  have c2 := h.c2
  clear h hf hf0 ho hst
  go_enter Try.func10, Try.ntmps10
  go_wp2_with (first | (go_at_call 22; refine HM.out.mono ?_; rintro e w' ⟨rfl, rfl⟩) | (go_at_call 24; refine HFo.out.mono ?_; rintro e w' ⟨rfl, rfl⟩))
  obtain ⟨wo, rfl⟩ : ∃ wo : World, wo = w := ⟨_, rfl⟩
  go_loopw [15] (fun s wr => ∃ j : Nat, j ≤ d.wait.length ∧ s = .int .i64 j ∧ Hid (DiskAt wr base a m (.slice W d.wait.length cw) { d with held := syncF (d.wait.take j) d.held, bud := d.bud + j } ∧ Kept (fun b => b = m) wo wr)) (fun s _ => d.wait.length - (intOf s).toNat)
  case atStart => exact ⟨0, Nat.zero_le _, rfl, H.out, Kept.refl _ _⟩
  case round =>
    obtain ⟨j, hj, rfl, HR⟩ := hrel
    by_cases hlt : j < d.wait.length
    · obtain ⟨g, hg⟩ := HF.out j hlt
      subst hg
      have hra := Lib.hid (wait_at HR.out.1 j hlt)
      have hel := Lib.hid (HR.out.1.ok.wlen _ (List.getElem_mem hlt)).1
      have HEr := Lib.hid (HR.out.1.ok.wlen _ (List.getElem_mem hlt)).2
      obtain ⟨e, he⟩ : ∃ e, d.wait[j] = e := ⟨_, rfl⟩
      have HEe := Lib.hid he
      have hra : Hid (wr.rangeAt g (j * 257) (entL e)) := by have := hra.out; rw [← he]; exact this
      have hel : Hid (e.2.length = 256) := by rw [← he]; exact hel.out
      have HEr : Hid (0 ≤ e.1 ∧ e.1 < d.size) := by rw [← he]; exact HEr.out
      clear he
      go_wp2_with ((first | with_reducible refine park_at (.load 64 _) ?_ | with_reducible refine park_at (.load 66 _) ?_ | with_reducible refine park_at (.store 64 _ _) ?_ | with_reducible refine park_at (.store 66 _ _) ?_ | with_reducible refine park_at (.alloc 64) ?_ | with_reducible refine park_at (.alloc 66) ?_ | with_reducible refine park_at (.box 64 _) ?_ | with_reducible refine park_at (.build 64 _) ?_ | with_reducible refine park_at (.build 66 _) ?_ | with_reducible refine park_at (.binOp _ 64 _ _ _) ?_ | with_reducible refine park_at (.lookup _ _ _ _) ?_ | with_reducible refine park_at (.mapUpdate _ _ _ _) ?_ | with_reducible refine park_at (.makeMap _ _) ?_ | with_reducible refine park_at (.range _ _) ?_ | with_reducible refine park_at (.next _ _) ?_ | with_reducible refine park_append ?_ | with_reducible refine park_copy ?_ | with_reducible refine park_delete ?_); intro pq6 hq6)
      refine hq6.out ?_
      clear hq6
      refine wpList_load71 rfl _ rfl g (j * 257) rfl e hel.out hra.out ?_
      obtain ⟨ev, hev⟩ : ∃ ev, entV e = ev := ⟨_, rfl⟩
      have HEv := Lib.hid hev
      rw [hev]
      clear hev
      go_wp2_with ((first | with_reducible refine park_at (.load 64 _) ?_ | with_reducible refine park_at (.load 66 _) ?_ | with_reducible refine park_at (.store 64 _ _) ?_ | with_reducible refine park_at (.store 66 _ _) ?_ | with_reducible refine park_at (.alloc 64) ?_ | with_reducible refine park_at (.alloc 66) ?_ | with_reducible refine park_at (.box 64 _) ?_ | with_reducible refine park_at (.build 64 _) ?_ | with_reducible refine park_at (.build 66 _) ?_ | with_reducible refine park_at (.binOp _ 64 _ _ _) ?_ | with_reducible refine park_at (.lookup _ _ _ _) ?_ | with_reducible refine park_at (.mapUpdate _ _ _ _) ?_ | with_reducible refine park_at (.makeMap _ _) ?_ | with_reducible refine park_at (.range _ _) ?_ | with_reducible refine park_at (.next _ _) ?_ | with_reducible refine park_append ?_ | with_reducible refine park_copy ?_ | with_reducible refine park_delete ?_); intro pq6 hq6)
      refine hq6.out ?_
      clear hq6
      refine wpList_alloc71 rfl rfl ?_
      have HR5 : Hid ((wr.alloc (.cells (entL (0, zsec)).toArray 66)).heap[wr.heap.size]? = some (.cells (entL (0, zsec)).toArray 66 (0, 0))) := heap_alloc_new wr _
      have HB5 : Hid (Below wr.heap.size wr (wr.alloc (.cells (entL (0, zsec)).toArray 66))) := (Below.refl _ _).alloc (Nat.le_refl _) _
      generalize (wr.alloc (.cells (entL (0, zsec)).toArray 66)) = w5 at HR5 HB5 ⊢
      obtain ⟨r1, hr1⟩ : ∃ r, wr.heap.size = r := ⟨_, rfl⟩
      have hr1 := Lib.hid hr1
      rw [hr1.out] at HR5 HB5 ⊢
      go_wp2_with ((first | with_reducible refine park_at (.load 64 _) ?_ | with_reducible refine park_at (.load 66 _) ?_ | with_reducible refine park_at (.store 64 _ _) ?_ | with_reducible refine park_at (.store 66 _ _) ?_ | with_reducible refine park_at (.alloc 64) ?_ | with_reducible refine park_at (.alloc 66) ?_ | with_reducible refine park_at (.box 64 _) ?_ | with_reducible refine park_at (.build 64 _) ?_ | with_reducible refine park_at (.build 66 _) ?_ | with_reducible refine park_at (.binOp _ 64 _ _ _) ?_ | with_reducible refine park_at (.lookup _ _ _ _) ?_ | with_reducible refine park_at (.mapUpdate _ _ _ _) ?_ | with_reducible refine park_at (.makeMap _ _) ?_ | with_reducible refine park_at (.range _ _) ?_ | with_reducible refine park_at (.next _ _) ?_ | with_reducible refine park_append ?_ | with_reducible refine park_copy ?_ | with_reducible refine park_delete ?_); intro pq6 hq6)
      refine hq6.out ?_
      clear hq6
      refine wpList_store71 rfl _ _ rfl r1 rfl e (0, zsec) HEv.out.symm hel.out zsec_length HR5.out ?_
      intro w6 hr6 hk6
      have HB6 : Hid (Below r1 wr w6) := HB5.out.trans (hk6.below (Nat.le_of_lt (Array.getElem?_eq_some_iff.1 HR5.out).1) (fun b hb e => by omega))
      clear hk6 HB5 HR5
      have HB6' : Hid (Below wr.heap.size wr w6) := by rw [hr1.out]; exact HB6.out
      have HD6 := Lib.hid (HR.out.1.below HB6'.out)
      have ke : w6.cell? ⟨r1, 0, none⟩ = some (.int .i64 e.1) := by rw [cell_of_row _ _ _ _ _ _ hr6.out]; rfl
      have HSet := Lib.hid (settle_calls HD6.out e.1 HEr.out.1 (by have := HEr.out; omega) e.2 hel.out (by simp only []; omega))
      go_wp2_with ((first | with_reducible refine park_at (.load 64 _) ?_ | with_reducible refine park_at (.load 66 _) ?_ | with_reducible refine park_at (.store 64 _ _) ?_ | with_reducible refine park_at (.store 66 _ _) ?_ | with_reducible refine park_at (.alloc 64) ?_ | with_reducible refine park_at (.alloc 66) ?_ | with_reducible refine park_at (.box 64 _) ?_ | with_reducible refine park_at (.build 64 _) ?_ | with_reducible refine park_at (.build 66 _) ?_ | with_reducible refine park_at (.binOp _ 64 _ _ _) ?_ | with_reducible refine park_at (.lookup _ _ _ _) ?_ | with_reducible refine park_at (.mapUpdate _ _ _ _) ?_ | with_reducible refine park_at (.makeMap _ _) ?_ | with_reducible refine park_at (.range _ _) ?_ | with_reducible refine park_at (.next _ _) ?_ | with_reducible refine park_append ?_ | with_reducible refine park_copy ?_ | with_reducible refine park_delete ?_); intro pq7 hq7)
      refine hq7.out ?_
      clear hq7
      refine wpList_load69 rfl _ rfl r1 1 rfl e.2 hel.out (rangeAt_tail (e := e) (o := 0) (by have := World.rangeAt_of_block hr6.out 0 257; rw [Nat.zero_add, ← entL_length e hel.out] at this; simpa using this)) ?_
      obtain ⟨dv, hdv⟩ : ∃ dv, secV e.2 = dv := ⟨_, rfl⟩
      rw [hdv] at HSet ⊢
      clear hdv
      go_wp2_with (go_at_call 27; refine HSet.out.mono ?_; rintro e9 w9 ⟨rfl, hD9, hk9⟩; have HD9 := Lib.hid hD9; have HK9 := Lib.hid hk9; clear hD9 hk9)
      go_roundw
      case rel =>
        refine ⟨j + 1, by omega, by go_num, ?_, (HR.out.2.trans (Kept.of_below HB6'.out)).trans HK9.out⟩
        have hD9 := HD9.out
        rw [List.take_succ_eq_append_getElem hlt, syncF_snoc, HEe.out]
        exact hD9
      case measure => simp [intOf]; omega
    · obtain rfl : j = d.wait.length := by omega
      have hR1 := HR.out.1
      rw [List.take_length] at hR1
      have c2' := hR1.c2
      have f2 := hR1.fr 2
      have hD : DiskAt (wr.setCell ⟨a, 2, none⟩ (.slice none 0 0)) base a m (.slice none 0 0) d.settled := by
        obtain ⟨n9, D9, hM9, hn9⟩ := hR1.map
        refine ⟨by rw [blk_put hR1.blk]; rfl, ⟨n9, D9, hM9.kept (Kept.set1 wr a 2 _) hR1.am, ?_⟩, ⟨rfl, .inl ⟨rfl, rfl⟩⟩, H.out.lo, ⟨hR1.ok.hlen, by simp [DiskM.settled], H.out.ok.size, by simp only [DiskM.settled]; omega, H.out.ok.steps, H.out.ok.left⟩⟩
        have : n9 + d.wait.length ≤ d.bud + d.wait.length := hn9
        show n9 + 0 ≤ d.bud + d.wait.length
        omega
      have HD := Lib.hid hD
      have hcut : d.settled.cut = true → 1 ≤ d.settled.left := fun h => by
        have h1 := HO.out
        have h2 := H.out.ok.left
        simp only [DiskM.isOff, DiskM.settled] at h1 h ⊢
        rw [h] at h1
        simp at h1
        omega
      have HSp := Lib.hid (step_calls HD.out (by have := HSt.out; simp only [DiskM.settled]; omega) hcut)
      have HKw := Lib.hid (HR.out.2)
      clear hR1 hD HR hcut c2
      go_wp2_with (go_at_call 25; refine HSp.out.mono ?_; rintro e w5 ⟨rfl, hD5, hk5⟩)
      go_ret
      exact ⟨rfl, hD5, (HKw.out.mono (fun b _ e => .inr (.inl e))).trans (((Kept.set1 wr a 2 _).mono (fun b _ e => .inl e)).trans (hk5.mono (fun b _ e => .inl e)))⟩
set_option maxRecDepth 100000 in
set_option maxHeartbeats 2000000 in
theorem Lose_err {w : World} {base a m : Nat} {wv : Value} {d : DiskM} (h : DiskAt w base a m wv d) (at_ : Int) (hd : 0 < d.wait.length) (ha : at_ < 0 ∨ 256 < at_) :
    Calls Try.prog 14 #[.pointer (some ⟨a, 0, none⟩), .agg #[.slice none 0 0, .int .i64 0, .int .i64 at_]] w fun e w' => e = .returned (.tuple #[.pointer none, .int .i64 2]) ∧ Below w.heap.size w w' := by
  obtain ⟨W, cw, rfl, _⟩ := h.form2
  obtain ⟨w1, hw1⟩ : ∃ w1, w.alloc (.cells #[.slice none 0 0, .int .i64 0, .int .i64 at_] 33) = w1 := ⟨_, rfl⟩
  have HW1 := Lib.hid hw1
  have HB1 : Hid (Below w.heap.size w w1) := by rw [← hw1]; exact (Below.refl _ _).alloc (Nat.le_refl _) _
  have HA : Hid (DiskAt w1 base a m (.slice W d.wait.length cw) d) := h.below HB1.out
  have HM := Lib.hid (made_calls HA.out)
  obtain ⟨q, hq⟩ : ∃ q, w.heap.size = q := ⟨_, rfl⟩
  have HQ := Lib.hid hq
  have hlb : w1.heap[q]? = some (.cells #[.slice none 0 0, .int .i64 0, .int .i64 at_] 33 (0, 0)) := by rw [← hw1, ← hq]; exact heap_alloc_new w _
  have l1 : w1.cell? ⟨q, 1, none⟩ = some (.int .i64 0) := by rw [cell_of_row _ _ _ _ _ _ hlb]; rfl
  have l2 : w1.cell? ⟨q, 2, none⟩ = some (.int .i64 at_) := by rw [cell_of_row _ _ _ _ _ _ hlb]; rfl
  have c2 := HA.out.c2
  have hlen : d.wait.length ≤ 1000 := by obtain ⟨n, D, _, hn⟩ := h.map; have := h.ok.bud; omega
  clear h hlb hq
  have e1 : decide ((0 : Int) < (d.wait.length : Int)) = true := by simp; omega
  go_enter Try.func14, Try.ntmps14
  clear hw1
  go_wp2_with (with_reducible refine park_at (.box 33 _) ?_; intro pq hq)
  refine hq.out ?_
  clear hq
  refine Great.wpList_boxTo rfl 33 _ rfl _ rfl q HQ.out #[.slice none 0 0, .int .i64 0, .int .i64 at_] rfl ?_
  rw [HW1.out]
  go_wp2_with (first | (go_at_call 22; refine HM.out.mono ?_; rintro e w' ⟨rfl, rfl⟩))
  have k1 : ∀ w', Hid (Below w1.heap.size w1 w') → w'.cell? ⟨q, 1, none⟩ = some (.int .i64 0) := fun w' h => (h.out.cell (World.block_lt_of_cell? w1 _ l1)).trans l1
  have k2 : ∀ w', Hid (Below w1.heap.size w1 w') → w'.cell? ⟨a, 2, none⟩ = some (.slice W d.wait.length cw) := fun w' h => (HA.out.below h.out).c2
  have hd1 : Hid (Below w1.heap.size w1 w1.drew) := (Below.refl _ _).drew
  go_cut [6] (fun s wc => s = .bool true ∧ Hid (Below w1.heap.size w1 wc))
  case first =>
    go_region_held (fun w' => Hid (Below w1.heap.size w1 w')) (first | exact hd1 | assumption) (fail)
    all_goals
      go_wp2
      go_meet
      case rel => exact ⟨rfl, by assumption⟩
  case rest =>
    obtain ⟨rfl, HC⟩ := hcut
    have j2 : wc.cell? ⟨q, 2, none⟩ = some (.int .i64 at_) := (HC.out.cell (World.block_lt_of_cell? w1 _ l2)).trans l2
    clear k1 k2 hd1 l1 l2 c2
    have HB2 : Hid (Below w.heap.size w wc) := HB1.out.trans (HC.out.mono HB1.out.size)
    rcases ha with ha | ha
    · have e2 : decide (at_ < (0 : Int)) = true := by simpa using ha
      go_wp2
      go_ret2
      exact ⟨rfl, HB2.out⟩
    · have e2 : decide (at_ < (0 : Int)) = false := by simp; omega
      have e3 : decide (at_ > (256 : Int)) = true := by simpa using ha
      go_wp2
      go_ret2
      exact ⟨rfl, HB2.out⟩
end Go.Proofs.Ytehigfpdeoebdaa.Dsk
