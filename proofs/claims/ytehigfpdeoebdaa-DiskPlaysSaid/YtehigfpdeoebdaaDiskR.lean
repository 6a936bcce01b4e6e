/- The disk: Read, settle. -/
import Derived.Test.YtehigfpdeoebdaaDiskN
import Derived.Deep.RegionHeld
set_option linter.unusedSimpArgs false
set_option linter.unusedVariables false
namespace Go.Proofs.Ytehigfpdeoebdaa.Dsk
open Go.RowKit
theorem secAt_bytes {w : World} {r : Nat} {l : List UInt8} (h : w.heap[r]? = some (.cells (cells8 l).toArray 64 (0, 0))) : Bytes w (some ⟨r, 0, none⟩) l := by
  intro i hi
  refine ⟨_, rfl, ?_⟩
  rw [Addr.add_lit, Nat.zero_add, cell_of_row _ _ _ _ _ _ h]
  simpa using cells8_get l i hi
theorem lastOf_len (i : Int) : ∀ (l : List (Int × List UInt8)) (z : List UInt8), (∀ e ∈ l, e.2.length = 256) → z.length = 256 → (lastOf i z l).length = 256
  | [], z, _, hz => hz
  | x :: l, z, h, hz => by
    rw [lastOf]
    refine lastOf_len i l _ (fun e he => h e (.tail _ he)) ?_
    split
    · exact h x (.head _)
    · exact hz
theorem now_len {d : DiskM} (h : d.Ok) (i : Int) : (d.now i).length = 256 := lastOf_len i _ _ (fun e he => (h.wlen e he).1) (h.hlen i)
/-- What Read hands back: a sector, in memory of its own. -/
def RetS (w0 : World) (l : List UInt8) (e : Ending) (w' : World) : Prop :=
  ∃ g c, e = .returned (.tuple #[.slice (some ⟨g, 0, none⟩) 256 c, .int .i64 0]) ∧ OwnB w' w0.heap.size (.slice (some ⟨g, 0, none⟩) 256 c) l ∧ Below w0.heap.size w0 w'
set_option maxRecDepth 100000 in
set_option maxHeartbeats 1000000 in
theorem Read_calls {w : World} {base a m : Nat} {wv : Value} {d : DiskM} (h : DiskAt w base a m wv d) (i : Int) (hi : 0 ≤ i ∧ i < d.size) (ho : d.isOff = false) :
    Calls Try.prog 21 #[.pointer (some ⟨a, 0, none⟩), .int .i64 i] w (RetS w (d.now i)) := by
  have H := Lib.hid h
  have hb := h.ok.size
  have hm := made_calls h
  have hh := has_calls h i
  have hf := off_calls h
  have hn := now_calls h i (by omega) (by omega)
  have hl := Lib.hid (now_len h.ok i)
  rw [show decide (0 ≤ i ∧ i < d.size) = true by simpa using hi] at hh
  rw [ho] at hf
  have HM := Lib.hid hm
  have HH := Lib.hid hh
  have HF := Lib.hid hf
  have HN := Lib.hid hn
  clear h hm hh hf hn
  go_enter Try.func21, Try.ntmps21
  go_wp2_with (first | (go_at_call 22; refine HM.out.mono ?_; rintro e w' ⟨rfl, rfl⟩) | (go_at_call 23; refine HH.out.mono ?_; rintro e w' ⟨rfl, rfl⟩) | (go_at_call 24; refine HF.out.mono ?_; rintro e w' ⟨rfl, rfl⟩) | (go_at_call 34; refine HN.out.mono ?_; rintro e w1 ⟨rfl, hb1⟩; refine park ?_; intro q hq))
  have HB1 := Lib.hid hb1
  clear hb1
  refine hq.out ?_
  clear hq
  go_wp2_with ((first | with_reducible refine park_at (.load 64 _) ?_ | with_reducible refine park_at (.load 66 _) ?_ | with_reducible refine park_at (.store 64 _ _) ?_ | with_reducible refine park_at (.store 66 _ _) ?_ | with_reducible refine park_at (.alloc 64) ?_ | with_reducible refine park_at (.alloc 66) ?_ | with_reducible refine park_at (.box 64 _) ?_ | with_reducible refine park_at (.build 64 _) ?_ | with_reducible refine park_at (.build 66 _) ?_ | with_reducible refine park_at (.binOp _ 64 _ _ _) ?_ | with_reducible refine park_at (.lookup _ _ _ _) ?_ | with_reducible refine park_at (.mapUpdate _ _ _ _) ?_ | with_reducible refine park_at (.makeMap _ _) ?_ | with_reducible refine park_at (.range _ _) ?_ | with_reducible refine park_at (.next _ _) ?_ | with_reducible refine park_append ?_ | with_reducible refine park_copy ?_ | with_reducible refine park_delete ?_); intro q hq)
  refine hq.out ?_
  clear hq
  refine wpList_alloc69 rfl rfl ?_
  have HR : Hid ((w1.alloc (.cells (cells8 zsec).toArray 64)).heap[w1.heap.size]? = some (.cells (cells8 zsec).toArray 64 (0, 0))) := heap_alloc_new w1 _
  have HB2 : Hid (Below w.heap.size w (w1.alloc (.cells (cells8 zsec).toArray 64))) := HB1.out.alloc HB1.out.size _
  have hr : Hid (w.heap.size ≤ w1.heap.size) := HB1.out.size
  have hr1 : Hid (w1.heap.size < (w1.alloc (.cells (cells8 zsec).toArray 64)).heap.size) := (Array.getElem?_eq_some_iff.1 HR.out).1
  generalize (w1.alloc (.cells (cells8 zsec).toArray 64)) = w2 at HR HB2 hr1 ⊢
  obtain ⟨r, hrr⟩ : ∃ r, w1.heap.size = r := ⟨_, rfl⟩
  rw [hrr] at HR hr hr1 ⊢
  clear hrr
  go_wp2_with ((first | with_reducible refine park_at (.load 64 _) ?_ | with_reducible refine park_at (.load 66 _) ?_ | with_reducible refine park_at (.store 64 _ _) ?_ | with_reducible refine park_at (.store 66 _ _) ?_ | with_reducible refine park_at (.alloc 64) ?_ | with_reducible refine park_at (.alloc 66) ?_ | with_reducible refine park_at (.box 64 _) ?_ | with_reducible refine park_at (.build 64 _) ?_ | with_reducible refine park_at (.build 66 _) ?_ | with_reducible refine park_at (.binOp _ 64 _ _ _) ?_ | with_reducible refine park_at (.lookup _ _ _ _) ?_ | with_reducible refine park_at (.mapUpdate _ _ _ _) ?_ | with_reducible refine park_at (.makeMap _ _) ?_ | with_reducible refine park_at (.range _ _) ?_ | with_reducible refine park_at (.next _ _) ?_ | with_reducible refine park_append ?_ | with_reducible refine park_copy ?_ | with_reducible refine park_delete ?_); intro q hq)
  refine hq.out ?_
  clear hq
  refine wpList_store69 rfl _ _ rfl r rfl (d.now i) zsec rfl hl.out zsec_length HR.out ?_
  intro w3 hr3 hk3
  have HB3 : Hid (Below w.heap.size w w3) := HB2.out.trans (hk3.below HB2.out.size (fun k hk e => by have := hr.out; omega))
  have HY := Lib.hid (secAt_bytes hr3.out)
  go_wp2_with ((first | with_reducible refine park_at (.load 64 _) ?_ | with_reducible refine park_at (.load 66 _) ?_ | with_reducible refine park_at (.store 64 _ _) ?_ | with_reducible refine park_at (.store 66 _ _) ?_ | with_reducible refine park_at (.alloc 64) ?_ | with_reducible refine park_at (.alloc 66) ?_ | with_reducible refine park_at (.box 64 _) ?_ | with_reducible refine park_at (.build 64 _) ?_ | with_reducible refine park_at (.build 66 _) ?_ | with_reducible refine park_at (.binOp _ 64 _ _ _) ?_ | with_reducible refine park_at (.lookup _ _ _ _) ?_ | with_reducible refine park_at (.mapUpdate _ _ _ _) ?_ | with_reducible refine park_at (.makeMap _ _) ?_ | with_reducible refine park_at (.range _ _) ?_ | with_reducible refine park_at (.next _ _) ?_ | with_reducible refine park_append ?_ | with_reducible refine park_copy ?_ | with_reducible refine park_delete ?_); intro q hq)
  refine hq.out ?_
  clear hq
  refine wpList_append_bytes rfl _ _ rfl w.heap.size (.slice none 0 0) [] rfl ⟨rfl, .inl ⟨rfl, rfl⟩⟩ (some ⟨r, 0, none⟩) 256 256 (d.now i) rfl hl.out.symm (fun h => by cases h) HY.out (by rw [hl.out]; decide) HB3.out.size ?_
  intro v w4 hown hgr _
  have HB4 := Lib.hid (HB3.out.grown hgr HB3.out.size (fun k hk => by cases hk))
  have HO := Lib.hid hown
  clear hown hgr
  go_wp2
  go_ret2
  have HO2 := HO.out
  rw [List.nil_append] at HO2
  rcases HO2.form with ⟨_, h2⟩ | ⟨g, c, rfl, _⟩
  · have := hl.out; rw [h2] at this; cases this
  · rw [hl.out] at HO2 ⊢
    exact ⟨g, c, rfl, HO2, HB4.out⟩
/-! settle -/
theorem DiskAt.remap {w w' : World} {base a m n : Nat} {wv : Value} {d d' : DiskM} {D : DataW Value} (h : DiskAt w base a m wv d) (hM : MAt w' m n D d'.held) (hk : Kept (· = m) w w') (hn : n + d'.wait.length ≤ d'.bud)
    (hs : d'.size = d.size) (hw : d'.wait = d.wait) (hst : d'.steps = d.steps) (hc : d'.cut = d.cut) (hl : d'.left = d.left) (hok : d'.Ok) : DiskAt w' base a m wv d' :=
  ⟨by rw [hk.block a (Array.getElem?_eq_some_iff.1 h.blk).1 (fun e => h.am e.symm), h.blk, hs, hst, hc, hl], ⟨n, D, hM, hn⟩, by rw [hw]; exact row_kept h.row hk h.mg, h.lo, hok⟩
def DiskM.settle (d : DiskM) (i : Int) (l : List UInt8) : DiskM := { d with held := upd d.held i l, bud := d.bud + 1 }
set_option maxRecDepth 100000 in
set_option maxHeartbeats 1000000 in
theorem settle_calls {w : World} {base a m : Nat} {wv : Value} {d : DiskM} (h : DiskAt w base a m wv d) (i : Int) (h0 : 0 ≤ i) (h1 : i ≤ 9223372036854775807) (l : List UInt8) (hl : l.length = 256) (hb : d.bud < 1000) :
    Calls Try.prog 27 #[.pointer (some ⟨a, 0, none⟩), .int .i64 i, secV l] w fun e w' => e = .returned undef ∧ DiskAt w' base a m wv (d.settle i l) ∧ Kept (· = m) w w' := by
  have H := Lib.hid h
  have HL := Lib.hid hl
  have HBd := Lib.hid hb
  obtain ⟨n, D, hM, hn⟩ := h.map
  have HM := Lib.hid hM
  have HN := Lib.hid hn
  have hok : (d.settle i l).Ok := ⟨fun j => by simp only [DiskM.settle, upd]; split; exact hl; exact h.ok.hlen j, h.ok.wlen, h.ok.size, by simp only [DiskM.settle]; omega, h.ok.steps, h.ok.left⟩
  have HK := Lib.hid hok
  clear h hl hb hM hn hok
  obtain ⟨sv, hsv⟩ : ∃ sv, secV l = sv := ⟨_, rfl⟩
  have HS := Lib.hid hsv
  rw [HS.out]
  clear hsv
  go_enter Try.func27, Try.ntmps27
  go_wp2_with ((first | with_reducible refine park_at (.load 64 _) ?_ | with_reducible refine park_at (.load 66 _) ?_ | with_reducible refine park_at (.store 64 _ _) ?_ | with_reducible refine park_at (.store 66 _ _) ?_ | with_reducible refine park_at (.alloc 64) ?_ | with_reducible refine park_at (.alloc 66) ?_ | with_reducible refine park_at (.box 64 _) ?_ | with_reducible refine park_at (.build 64 _) ?_ | with_reducible refine park_at (.build 66 _) ?_ | with_reducible refine park_at (.binOp _ 64 _ _ _) ?_ | with_reducible refine park_at (.lookup _ _ _ _) ?_ | with_reducible refine park_at (.mapUpdate _ _ _ _) ?_ | with_reducible refine park_at (.makeMap _ _) ?_ | with_reducible refine park_at (.range _ _) ?_ | with_reducible refine park_at (.next _ _) ?_ | with_reducible refine park_append ?_ | with_reducible refine park_copy ?_ | with_reducible refine park_delete ?_); intro q hq)
  refine hq.out ?_
  clear hq
  refine wpList_box69 rfl _ rfl l HS.out.symm ?_
  have HR : Hid ((w.alloc (.cells (cells8 l).toArray 64)).heap[w.heap.size]? = some (.cells (cells8 l).toArray 64 (0, 0))) := heap_alloc_new w _
  have HA : Hid (DiskAt (w.alloc (.cells (cells8 l).toArray 64)) base a m wv d) := H.out.below ((Below.refl _ _).alloc (Nat.le_refl _) _)
  have HMA : Hid (MAt (w.alloc (.cells (cells8 l).toArray 64)) m n D d.held) := HM.out.kept (S := fun _ => False) (Kept.of_below ((Below.refl _ _).alloc (Nat.le_refl _) _)) (fun x => x)
  have HB : Hid (Below w.heap.size w (w.alloc (.cells (cells8 l).toArray 64))) := (Below.refl _ _).alloc (Nat.le_refl _) _
  generalize (w.alloc (.cells (cells8 l).toArray 64)) = w1 at HR HA HB HMA ⊢
  have c1 := HA.out.c1
  obtain ⟨r, hr⟩ : ∃ r, w.heap.size = r := ⟨_, rfl⟩
  have hr := Lib.hid hr
  rw [hr.out] at HB HR ⊢
  go_wp2_with ((first | with_reducible refine park_at (.load 64 _) ?_ | with_reducible refine park_at (.load 66 _) ?_ | with_reducible refine park_at (.store 64 _ _) ?_ | with_reducible refine park_at (.store 66 _ _) ?_ | with_reducible refine park_at (.alloc 64) ?_ | with_reducible refine park_at (.alloc 66) ?_ | with_reducible refine park_at (.box 64 _) ?_ | with_reducible refine park_at (.build 64 _) ?_ | with_reducible refine park_at (.build 66 _) ?_ | with_reducible refine park_at (.binOp _ 64 _ _ _) ?_ | with_reducible refine park_at (.lookup _ _ _ _) ?_ | with_reducible refine park_at (.mapUpdate _ _ _ _) ?_ | with_reducible refine park_at (.makeMap _ _) ?_ | with_reducible refine park_at (.range _ _) ?_ | with_reducible refine park_at (.next _ _) ?_ | with_reducible refine park_append ?_ | with_reducible refine park_copy ?_ | with_reducible refine park_delete ?_); intro q hq)
  refine hq.out ?_
  clear hq
  refine wpList_load69 rfl _ rfl r 0 rfl l HL.out (by have := World.rangeAt_of_block HR.out 0 256; rw [Nat.zero_add, ← HL.out, ← cells8_length l] at this; simpa using this) ?_
  rw [HS.out]
  go_wp2_with ((first | with_reducible refine park_at (.load 64 _) ?_ | with_reducible refine park_at (.load 66 _) ?_ | with_reducible refine park_at (.store 64 _ _) ?_ | with_reducible refine park_at (.store 66 _ _) ?_ | with_reducible refine park_at (.alloc 64) ?_ | with_reducible refine park_at (.alloc 66) ?_ | with_reducible refine park_at (.box 64 _) ?_ | with_reducible refine park_at (.build 64 _) ?_ | with_reducible refine park_at (.build 66 _) ?_ | with_reducible refine park_at (.binOp _ 64 _ _ _) ?_ | with_reducible refine park_at (.lookup _ _ _ _) ?_ | with_reducible refine park_at (.mapUpdate _ _ _ _) ?_ | with_reducible refine park_at (.makeMap _ _) ?_ | with_reducible refine park_at (.range _ _) ?_ | with_reducible refine park_at (.next _ _) ?_ | with_reducible refine park_append ?_ | with_reducible refine park_copy ?_ | with_reducible refine park_delete ?_); intro q hq)
  refine hq.out ?_
  clear hq
  refine wpList_build69 rfl rfl ?_
  obtain ⟨zv, hzv⟩ : ∃ zv, secV zsec = zv := ⟨_, rfl⟩
  have HZ := Lib.hid hzv
  rw [HZ.out]
  clear hzv
  go_wp2_with ((first | with_reducible refine park_at (.load 64 _) ?_ | with_reducible refine park_at (.load 66 _) ?_ | with_reducible refine park_at (.store 64 _ _) ?_ | with_reducible refine park_at (.store 66 _ _) ?_ | with_reducible refine park_at (.alloc 64) ?_ | with_reducible refine park_at (.alloc 66) ?_ | with_reducible refine park_at (.box 64 _) ?_ | with_reducible refine park_at (.build 64 _) ?_ | with_reducible refine park_at (.build 66 _) ?_ | with_reducible refine park_at (.binOp _ 64 _ _ _) ?_ | with_reducible refine park_at (.lookup _ _ _ _) ?_ | with_reducible refine park_at (.mapUpdate _ _ _ _) ?_ | with_reducible refine park_at (.makeMap _ _) ?_ | with_reducible refine park_at (.range _ _) ?_ | with_reducible refine park_at (.next _ _) ?_ | with_reducible refine park_append ?_ | with_reducible refine park_copy ?_ | with_reducible refine park_delete ?_); intro q hq)
  refine hq.out ?_
  clear hq
  refine wpList_eq69 rfl _ _ _ rfl l zsec HS.out.symm HZ.out.symm HL.out zsec_length ?_
  cases hz : (l == zsec)
  · go_wp2
    have hc1 : ∀ w', (w'.rangeAt r 0 (cells8 l) ∧ Hid (Kept (· = m) w1 w')) → w'.cell? ⟨a, 1, none⟩ = some (.map (some m)) := fun w' h => h.2.out.cell HA.out.c1 (fun e => HA.out.am e.symm)
    have hra : w1.rangeAt r 0 (cells8 l) := by
      have := World.rangeAt_of_block HR.out 0 256; rw [Nat.zero_add, ← HL.out, ← cells8_length l] at this; simpa using this
    obtain ⟨w2, hmu, hM2, hk2⟩ := MAt.update_run (w := w1.drew) HMA.out (by have := HN.out; have := HBd.out; unfold maxLen; omega) i (by omega) h1 l
    have HM2 := Lib.hid hM2
    have hk3 : Kept (· = m) w1 w2 := Kept.trans ((Kept.refl (· = m) w1).drew) hk2
    have HK2 := Lib.hid hk3
    have hrm : r ≠ m := by have := (H.out.foot m (.inr (.inl rfl))).2; have := hr.out; omega
    have hS2 : w2.rangeAt r 0 (cells8 l) ∧ Hid (Kept (· = m) w1 w2) := ⟨fun j v hv => hk3.cell (hra j v hv) hrm, hk3⟩
    unfold secV at hmu
    clear hM2 hk2 hk3 hrm
    have hu := under69
    have hsz : (Try.prog.info? 64).map (·.size) = some (cells8 l).length := by rw [cells8_length, HL.out]; exact size69
    go_region_held (fun w' => w'.rangeAt r 0 (cells8 l) ∧ Hid (Kept (· = m) w1 w')) (first | exact ⟨hra, (Kept.refl _ _).drew⟩ | assumption) (fail)
    all_goals
      go_wp2
      go_end0
      exact ⟨rfl, HA.out.remap (n := n + 1) (d' := d.settle i l) HM2.out HK2.out (by have := HN.out; simp only [DiskM.settle]; omega) rfl rfl rfl rfl rfl HK.out, (Kept.of_below (by rw [hr.out]; exact HB.out)).trans HK2.out⟩
  · go_wp2_with ((first | with_reducible refine park_at (.load 64 _) ?_ | with_reducible refine park_at (.load 66 _) ?_ | with_reducible refine park_at (.store 64 _ _) ?_ | with_reducible refine park_at (.store 66 _ _) ?_ | with_reducible refine park_at (.alloc 64) ?_ | with_reducible refine park_at (.alloc 66) ?_ | with_reducible refine park_at (.box 64 _) ?_ | with_reducible refine park_at (.build 64 _) ?_ | with_reducible refine park_at (.build 66 _) ?_ | with_reducible refine park_at (.binOp _ 64 _ _ _) ?_ | with_reducible refine park_at (.lookup _ _ _ _) ?_ | with_reducible refine park_at (.mapUpdate _ _ _ _) ?_ | with_reducible refine park_at (.makeMap _ _) ?_ | with_reducible refine park_at (.range _ _) ?_ | with_reducible refine park_at (.next _ _) ?_ | with_reducible refine park_append ?_ | with_reducible refine park_copy ?_ | with_reducible refine park_delete ?_); intro q hq)
    refine hq.out ?_
    clear hq
    refine wpList_del60 rfl _ _ rfl m n D d.held rfl HMA.out i (by omega) h1 rfl ?_
    intro w2 hM2 hk2
    go_wp2
    refine bodyPost_ret (results_none rfl _ _ _) rfl ?_
    have hz' : l = zsec := by simpa using hz
    refine ⟨rfl, HA.out.remap (n := n) (d' := d.settle i l) (by rw [hz']; exact hM2.out) hk2 (by have := HN.out; simp only [DiskM.settle]; omega) rfl rfl rfl rfl rfl HK.out, ?_⟩
    exact (Kept.of_below (by rw [hr.out]; exact HB.out)).trans hk2
end Go.Proofs.Ytehigfpdeoebdaa.Dsk
