/- The law of the disk: the bytes of a write; the loop that spoils what was told; 'same'. -/
import Derived.Test.YtehigfpdeoebdaaDiskRl
import Derived.Deep.RegionHeld3
set_option linter.unusedSimpArgs false
set_option linter.unusedVariables false
namespace Go.Proofs.Ytehigfpdeoebdaa.Dsk
open Go.RowKit
theorem ownB_setI {w : World} {base g n c : Nat} {l : List UInt8} (h : OwnB w base (.slice (some ⟨g, 0, none⟩) n c) l) (i : Nat) (y : Int) (h0 : 0 ≤ y) (h1 : y ≤ 255) :
    OwnB (w.setCell ⟨g, i, none⟩ (.int .u8 y)) base (.slice (some ⟨g, 0, none⟩) n c) (l.set i (UInt8.ofNat y.toNat)) := by
  have := h.set i (UInt8.ofNat y.toNat)
  have e : (((UInt8.ofNat y.toNat).toNat : Nat) : Int) = y := by simp; omega
  rw [e] at this; exact this
/-- Bytes of one's own, of a length. -/
def RetL (w0 : World) (n : Nat) (e : Ending) (w' : World) : Prop :=
  ∃ g c l, e = .returned (.slice (some ⟨g, 0, none⟩) n c) ∧ l.length = n ∧ OwnB w' w0.heap.size (.slice (some ⟨g, 0, none⟩) n c) l ∧ Below w0.heap.size w0 w'
set_option maxRecDepth 100000 in
set_option maxHeartbeats 1000000 in
theorem body_full (w : World) (x0 x1 x2 : Int) (fill : UInt8) (kv : Value) (x5 x6 : Int) :
    Calls Try.prog 7 #[.agg #[.int .i64 x0, .int .i64 x1, .int .i64 x2, .int .u8 (fill.toNat : Int), .bool false, kv, .int .i64 x5, .int .i64 x6]] w (RetL w 256) := by
  obtain ⟨q, hq⟩ : ∃ q, w.heap.size = q := ⟨_, rfl⟩
  have HQ := Lib.hid hq
  obtain ⟨w1, hw1⟩ : ∃ w1, w.alloc (.cells #[.int .i64 x0, .int .i64 x1, .int .i64 x2, .int .u8 (fill.toNat : Int), .bool false, kv, .int .i64 x5, .int .i64 x6] 35) = w1 := ⟨_, rfl⟩
  have HW1 := Lib.hid hw1
  have HB1 : Hid (Below w.heap.size w w1) := by rw [← hw1]; exact (Below.refl _ _).alloc (Nat.le_refl _) _
  have hlb : w1.heap[q]? = some (.cells #[.int .i64 x0, .int .i64 x1, .int .i64 x2, .int .u8 (fill.toNat : Int), .bool false, kv, .int .i64 x5, .int .i64 x6] 35 (0, 0)) := by rw [← hw1, ← hq]; exact heap_alloc_new w _
  have l3 : w1.cell? ⟨q, 3, none⟩ = some (.int .u8 (fill.toNat : Int)) := by rw [cell_of_row _ _ _ _ _ _ hlb]; rfl
  have l4 : w1.cell? ⟨q, 4, none⟩ = some (.bool false) := by rw [cell_of_row _ _ _ _ _ _ hlb]; rfl
  have HL3 := Lib.hid l3
  clear hlb hq
  go_enter Try.func7, Try.ntmps7
  clear hw1
  go_wp2_with (with_reducible refine park_at (.box 35 _) ?_; intro pq hq)
  refine hq.out ?_
  clear hq
  refine Great.wpList_boxTo rfl 35 _ rfl _ rfl q HQ.out #[.int .i64 x0, .int .i64 x1, .int .i64 x2, .int .u8 (fill.toNat : Int), .bool false, kv, .int .i64 x5, .int .i64 x6] rfl ?_
  rw [HW1.out]
  go_wp2_with (with_reducible refine park_make ?_; intro pq hq7)
  refine hq7.out ?_
  clear hq7
  refine wpList_make_bytes rfl _ _ rfl w.heap.size _ _ 256 rfl rfl rfl rfl (by decide) HB1.out.size ?_
  intro w2 hown hg
  have HB2 : Hid (Below w.heap.size w w2) := HB1.out.trans (((Below.refl w1.heap.size w1).grown hg (Nat.le_refl _) (fun k hk => by cases hk)).mono HB1.out.size)
  have l32 : w2.cell? ⟨q, 3, none⟩ = some (.int .u8 (fill.toNat : Int)) := (((Below.refl w1.heap.size w1).grown hg (Nat.le_refl _) (fun k hk => by cases hk)).cell (World.block_lt_of_cell? w1 _ l3)).trans l3
  have hqg : q < w1.heap.size := World.block_lt_of_cell? w1 _ l3
  have HO := Lib.hid hown
  obtain ⟨g, hgg⟩ : ∃ g, w1.heap.size = g := ⟨_, rfl⟩
  have hsz : w.heap.size ≤ g := by rw [← hgg]; exact HB1.out.size
  rw [hgg] at HO hqg ⊢
  clear hown hg hgg l3 l4 HL3
  go_wp2
  go_loopw [14] (fun i wr => ∃ k : Nat, k ≤ 256 ∧ i = .int .i64 k ∧ ∃ l, Hid (l.length = 256 ∧ OwnB wr w.heap.size (.slice (some ⟨g, 0, none⟩) 256 256) l ∧ Kept (fun b => b = g) w2 wr)) (fun i _ => 256 - (intOf i).toNat)
  case atStart => exact ⟨0, by omega, rfl, _, List.length_replicate, HO.out, Kept.refl _ _⟩
  case round =>
    obtain ⟨k, hk, rfl, l, HR⟩ := hrel
    by_cases hlt : k < 256
    · obtain ⟨hc1, hc2⟩ := HR.out.2.1.cells k (by rw [HR.out.1]; exact hlt)
      have l3 : wr.cell? ⟨q, 3, none⟩ = some (.int .u8 (fill.toNat : Int)) := HR.out.2.2.cell l32 (by show ¬ q = g; omega)
      have HF := ltu8 fill
      go_wp2
      go_roundw
      case rel =>
        refine ⟨k + 1, by omega, by go_num, _, ?_, ownB_setI HR.out.2.1 k _ ?_ ?_, HR.out.2.2.setCell (Or.inl rfl) _⟩
        · rw [List.length_set]; exact HR.out.1
        · omega
        · omega
      case measure => simp [intOf]; omega
    · obtain rfl : k = 256 := by omega
      go_wp2
      go_ret
      refine ⟨g, 256, l, rfl, HR.out.1, HR.out.2.1, HB2.out.trans (HR.out.2.2.below HB2.out.size (fun b hb e => by omega))⟩
set_option maxRecDepth 100000 in
set_option maxHeartbeats 1000000 in
theorem body_short (w : World) (x0 x1 x2 : Int) (fill : UInt8) (kv : Value) (x5 x6 : Int) :
    Calls Try.prog 7 #[.agg #[.int .i64 x0, .int .i64 x1, .int .i64 x2, .int .u8 (fill.toNat : Int), .bool true, kv, .int .i64 x5, .int .i64 x6]] w (RetL w 255) := by
  obtain ⟨q, hq⟩ : ∃ q, w.heap.size = q := ⟨_, rfl⟩
  have HQ := Lib.hid hq
  obtain ⟨w1, hw1⟩ : ∃ w1, w.alloc (.cells #[.int .i64 x0, .int .i64 x1, .int .i64 x2, .int .u8 (fill.toNat : Int), .bool true, kv, .int .i64 x5, .int .i64 x6] 35) = w1 := ⟨_, rfl⟩
  have HW1 := Lib.hid hw1
  have HB1 : Hid (Below w.heap.size w w1) := by rw [← hw1]; exact (Below.refl _ _).alloc (Nat.le_refl _) _
  have hlb : w1.heap[q]? = some (.cells #[.int .i64 x0, .int .i64 x1, .int .i64 x2, .int .u8 (fill.toNat : Int), .bool true, kv, .int .i64 x5, .int .i64 x6] 35 (0, 0)) := by rw [← hw1, ← hq]; exact heap_alloc_new w _
  have l3 : w1.cell? ⟨q, 3, none⟩ = some (.int .u8 (fill.toNat : Int)) := by rw [cell_of_row _ _ _ _ _ _ hlb]; rfl
  have l4 : w1.cell? ⟨q, 4, none⟩ = some (.bool true) := by rw [cell_of_row _ _ _ _ _ _ hlb]; rfl
  have HL3 := Lib.hid l3
  clear hlb hq
  go_enter Try.func7, Try.ntmps7
  clear hw1
  go_wp2_with (with_reducible refine park_at (.box 35 _) ?_; intro pq hq)
  refine hq.out ?_
  clear hq
  refine Great.wpList_boxTo rfl 35 _ rfl _ rfl q HQ.out #[.int .i64 x0, .int .i64 x1, .int .i64 x2, .int .u8 (fill.toNat : Int), .bool true, kv, .int .i64 x5, .int .i64 x6] rfl ?_
  rw [HW1.out]
  go_wp2_with (with_reducible refine park_make ?_; intro pq hq7)
  refine hq7.out ?_
  clear hq7
  refine wpList_make_bytes rfl _ _ rfl w.heap.size _ _ 255 rfl rfl rfl rfl (by decide) HB1.out.size ?_
  intro w2 hown hg
  have HB2 : Hid (Below w.heap.size w w2) := HB1.out.trans (((Below.refl w1.heap.size w1).grown hg (Nat.le_refl _) (fun k hk => by cases hk)).mono HB1.out.size)
  have l32 : w2.cell? ⟨q, 3, none⟩ = some (.int .u8 (fill.toNat : Int)) := (((Below.refl w1.heap.size w1).grown hg (Nat.le_refl _) (fun k hk => by cases hk)).cell (World.block_lt_of_cell? w1 _ l3)).trans l3
  have hqg : q < w1.heap.size := World.block_lt_of_cell? w1 _ l3
  have HO := Lib.hid hown
  obtain ⟨g, hgg⟩ : ∃ g, w1.heap.size = g := ⟨_, rfl⟩
  have hsz : w.heap.size ≤ g := by rw [← hgg]; exact HB1.out.size
  rw [hgg] at HO hqg ⊢
  clear hown hg hgg l3 l4 HL3
  go_wp2
  go_loopw [14] (fun i wr => ∃ k : Nat, k ≤ 255 ∧ i = .int .i64 k ∧ ∃ l, Hid (l.length = 255 ∧ OwnB wr w.heap.size (.slice (some ⟨g, 0, none⟩) 255 255) l ∧ Kept (fun b => b = g) w2 wr)) (fun i _ => 255 - (intOf i).toNat)
  case atStart => exact ⟨0, by omega, rfl, _, List.length_replicate, HO.out, Kept.refl _ _⟩
  case round =>
    obtain ⟨k, hk, rfl, l, HR⟩ := hrel
    by_cases hlt : k < 255
    · obtain ⟨hc1, hc2⟩ := HR.out.2.1.cells k (by rw [HR.out.1]; exact hlt)
      have l3 : wr.cell? ⟨q, 3, none⟩ = some (.int .u8 (fill.toNat : Int)) := HR.out.2.2.cell l32 (by show ¬ q = g; omega)
      have HF := ltu8 fill
      go_wp2
      go_roundw
      case rel =>
        refine ⟨k + 1, by omega, by go_num, _, ?_, ownB_setI HR.out.2.1 k _ ?_ ?_, HR.out.2.2.setCell (Or.inl rfl) _⟩
        · rw [List.length_set]; exact HR.out.1
        · omega
        · omega
      case measure => simp [intOf]; omega
    · obtain rfl : k = 255 := by omega
      go_wp2
      go_ret
      refine ⟨g, 255, l, rfl, HR.out.1, HR.out.2.1, HB2.out.trans (HR.out.2.2.below HB2.out.size (fun b hb e => by omega))⟩
theorem bup {B : Nat} {w a b : World} (h : Below B w a) (k : Below a.heap.size a b) (hB : B ≤ w.heap.size) : Below B w b := h.trans (k.mono (Nat.le_trans hB h.size))
theorem RefM.readS_len {r : RefM} (h : r.Ok) (i : Int) : (r.readS i).length ≤ 256 := by
  by_cases h1 : 0 ≤ i ∧ i < r.held.length
  · by_cases h2 : r.left = 0
    · rw [(r.read_off i h1 h2).1]; simp
    · rw [(r.read_ok i h1 h2).1]
      unfold RefM.now
      rw [lastOf_len i _ _ (fun e he => (h.wlen e he).1)]
      · exact Nat.le_refl _
      · rw [atH_eq _ _ (by omega)]; exact h.hlen _ (List.getElem_mem _)
  · rw [(r.read_bad i h1).1]; simp
def RetRd (w0 : World) (s : List UInt8) (c : Int) (e : Ending) (w' : World) : Prop :=
  ∃ A n k, e = .returned (.tuple #[.slice A n k, .int .i64 c]) ∧ n = s.length ∧ OwnB w' w0.heap.size (.slice A n k) s ∧ Below w0.heap.size w0 w'
theorem ReadD_any {w : World} {base a m : Nat} {wv : Value} {d : DiskM} (h : DiskAt w base a m wv d) {r : RefM} (R : Rel d r) (i : Int) :
    Calls Try.prog 21 #[.pointer (some ⟨a, 0, none⟩), .int .i64 i] w (RetRd w (r.readS i) (r.readC i)) := by
  by_cases h1 : 0 ≤ i ∧ i < r.held.length
  · by_cases h2 : r.left = 0
    · rw [(r.read_off i h1 h2).1, (r.read_off i h1 h2).2]
      refine (Read_off h i ((R.has i).2 h1) (R.offT h2)).mono ?_
      rintro e w' ⟨rfl, rfl⟩
      exact ⟨none, 0, 0, rfl, rfl, ⟨rfl, .inl ⟨rfl, rfl⟩⟩, Below.refl _ _⟩
    · rw [(r.read_ok i h1 h2).1, (r.read_ok i h1 h2).2]
      refine (Read_calls h i ((R.has i).2 h1) (R.offF h2)).mono ?_
      rintro e w' ⟨g, c, rfl, hO, hb⟩
      rw [R.now i h1] at hO
      exact ⟨_, _, _, rfl, hO.len, hO, hb⟩
  · rw [(r.read_bad i h1).1, (r.read_bad i h1).2]
    refine (Read_bad h i (fun x => h1 ((R.has i).1 x))).mono ?_
    rintro e w' ⟨rfl, rfl⟩
    exact ⟨none, 0, 0, rfl, rfl, ⟨rfl, .inl ⟨rfl, rfl⟩⟩, Below.refl _ _⟩
theorem RetI.form {w0 w' : World} {vs : List Value} {e : Ending} (h : RetI w0 vs e w') (n : Nat) (hn : vs.length = n) : ∃ A c, e = .returned (.slice A n c) ∧ Hid (OwnVs w' w0.heap.size 3 (.slice A n c) vs ∧ Below w0.heap.size w0 w') := by
  obtain ⟨v, rfl, hO, hb⟩ := h
  obtain ⟨A, c, rfl, _⟩ := hO.sl
  subst hn
  exact ⟨A, c, rfl, hO, hb⟩
set_option maxRecDepth 100000 in
set_option maxHeartbeats 4000000 in
theorem same_calls {w : World} {base a m : Nat} {wv : Value} {d : DiskM} (h : DiskAt w base a m wv d) {b a' : Nat} {hv wv' : Value} {r : RefM} (h' : RefAt w b a' hv wv' r) (R : Rel d r) :
    Calls Try.prog 16 #[.pointer (some ⟨a, 0, none⟩), .pointer (some ⟨a', 0, none⟩)] w fun e w' => e = .returned (.bool true) ∧ Below w.heap.size w w' := by
  have H := Lib.hid h
  have H' := Lib.hid h'
  have HR := Lib.hid R
  have hs := h'.ok.size
  have hws := h'.ok.wsize
  have c0 := h'.c0
  have c2 := h'.c2
  obtain ⟨A, c, rfl, _⟩ := h'.hform
  obtain ⟨n, hn⟩ : ∃ n, r.held.length = n := ⟨_, rfl⟩
  have HN := Lib.hid hn
  have HSz : Hid (∀ w', Below w.heap.size w w' → Calls Try.prog 28 #[.pointer (some ⟨a, 0, none⟩)] w' fun e w2 => e = .returned (.int .i64 (n : Int)) ∧ w' = w2) := fun w' hb => by
    have := Size_calls (h.below hb); rw [R.size, hn] at this; exact this
  have HSt : Hid (∀ w', Below w.heap.size w w' → Calls Try.prog 29 #[.pointer (some ⟨a, 0, none⟩)] w' fun e w2 => e = .returned (.int .i64 r.steps) ∧ w' = w2) := fun w' hb => by
    have := Steps_calls (h.below hb); rw [R.steps] at this; exact this
  obtain ⟨vs, hvs⟩ : ∃ vs, (r.wait.map fun e => iv e.1) = vs := ⟨_, rfl⟩
  have hvl : vs.length = r.wait.length := by rw [← hvs]; simp
  obtain ⟨nw, hnw⟩ : ∃ nw, r.wait.length = nw := ⟨_, rfl⟩
  have HPd : Hid (∀ w', Below w.heap.size w w' → Calls Try.prog 31 #[.pointer (some ⟨a, 0, none⟩)] w' (RetI w' vs)) := fun w' hb => by
    have := Pending_calls (h.below hb); rw [R.wait, hvs] at this; exact this
  have HPr : Hid (∀ w', Below w.heap.size w w' → Calls Try.prog 32 #[.pointer (some ⟨a', 0, none⟩)] w' (RetI w' vs)) := fun w' hb => by
    have := PendingR_calls (h'.below hb); rw [hvs] at this; exact this
  have HIn : Hid (∀ w' (A B : Option Addr) (ca cb : Nat), ValsAt w' A vs → ValsAt w' B vs → Calls Try.prog 30 #[.slice A nw ca, .slice B nw cb] w' fun e w2 => e = .returned (.bool true) ∧ ∃ n, w2 = w'.drewN n) := fun w' A B ca cb hA hB => by
    have := Ints_same A B ca cb vs (r.wait.map fun e => e.1) (by rw [← hvs, List.map_map]; rfl) hA hB (by simpa using hws)
    rw [List.length_map, hnw] at this; exact this
  have HVl : Hid (vs.length = nw) := Lib.hid (hvl.trans hnw)
  have HRd : Hid (∀ w' i, Below w.heap.size w w' → Calls Try.prog 21 #[.pointer (some ⟨a, 0, none⟩), .int .i64 i] w' (RetRd w' (r.readS i) (r.readC i))) := fun w' i hb => ReadD_any (h.below hb) R i
  have HRr : Hid (∀ w' i, Below w.heap.size w w' → Calls Try.prog 33 #[.pointer (some ⟨a', 0, none⟩), .int .i64 i] w' fun e w2 => e = .returned (.tuple #[.string (bstr (r.readS i)), .int .i64 (r.readC i)]) ∧ w' = w2) := fun w' i hb => ReadR_calls (h'.below hb) i
  have k0 : ∀ w', Hid (Below w.heap.size w w') → w'.cell? ⟨a', 0, none⟩ = some (.slice A n c) := fun w' hb => by rw [← hn]; exact (h'.below hb.out).c0
  have k2 : ∀ w', Hid (Below w.heap.size w w') → w'.cell? ⟨a', 2, none⟩ = some (.int .i64 r.steps) := fun w' hb => (h'.below hb.out).c2
  have K : Hid (∀ w', Hid (Below w.heap.size w w') → w'.cell? ⟨a', 0, none⟩ = some (.slice A n c) ∧ w'.cell? ⟨a', 2, none⟩ = some (.int .i64 r.steps) ∧ Hid (Below w.heap.size w w')) := fun w' hb => ⟨k0 w' hb, k2 w' hb, hb⟩
  have hd1 : Hid (Below w.heap.size w w.drew) := (Below.refl _ _).drew
  have hS1 := K.out _ hd1
  rw [hn] at c0 hs
  rw [hnw] at hws
  clear h h' R hn hvs hvl hnw k0 k2
  go_enter Try.func16, Try.ntmps16
  go_wp2_with fail
  go_cut [35] (fun s wc => s = .bool false ∧ Hid (Below w.heap.size w wc))
  case first =>
    go_region_held3 (fun w' => w'.cell? ⟨a', 0, none⟩ = some (.slice A n c) ∧ w'.cell? ⟨a', 2, none⟩ = some (.int .i64 r.steps) ∧ Hid (Below w.heap.size w w')) (first | assumption | exact K.out _ (by assumption)) (first
      | (go_at_call 28; (with_reducible refine (HSz.out _ (show _ ∧ _ ∧ Hid (Below w.heap.size w _) from by assumption).2.2.out).mono ?_); rintro e w4 ⟨rfl, rfl⟩)
      | (go_at_call 29; (with_reducible refine (HSt.out _ (show _ ∧ _ ∧ Hid (Below w.heap.size w _) from by assumption).2.2.out).mono ?_); rintro e w4 ⟨rfl, rfl⟩)
      | (go_at_call 31; (with_reducible refine (HPd.out _ (show _ ∧ _ ∧ Hid (Below w.heap.size w _) from by assumption).2.2.out).mono ?_); intro e w4 hret; obtain ⟨A1, k1, rfl, hO1⟩ := hret.form nw HVl.out; have hB4 : Hid (Below w.heap.size w w4) := bup (show _ ∧ _ ∧ Hid (Below w.heap.size w _) from by assumption).2.2.out hO1.out.2 (Nat.le_refl _); have hS4 := K.out w4 hB4; clear hret)
      | (go_at_call 32; (with_reducible refine (HPr.out _ (by exact hB4.out)).mono ?_); intro e w5 hret; obtain ⟨A2, k2, rfl, hO2⟩ := hret.form nw HVl.out; have hB5 : Hid (Below w.heap.size w w5) := bup hB4.out hO2.out.2 (Nat.le_refl _); have hS5 := K.out w5 hB5; have hO15 := Lib.hid (own_vals (hO1.out.1.below hO2.out.2)); clear hret)
      | (go_at_call 30; (with_reducible refine (HIn.out _ _ _ _ _ hO15.out (own_vals hO2.out.1)).mono ?_); rintro e w6 ⟨rfl, nn, rfl⟩; have hB6 : Hid (Below w.heap.size w (w5.drewN nn)) := bup hB5.out (below_drewN w5 nn) (Nat.le_refl _); have hS6 := K.out _ hB6))
    all_goals
      go_wp2
      go_meet
      case rel => exact ⟨rfl, hB6⟩
  case rest =>
    obtain ⟨rfl, HC⟩ := hcut
    clear c0 c2 hd1 hS1
    go_wp2
    go_loopw [5] (fun s wr => ∃ i : Int, -1 ≤ i ∧ i ≤ (n : Int) + 1 ∧ s = .int .i64 i ∧ Hid (Below w.heap.size w wr)) (fun s _ => ((n : Int) + 1 - intOf s).toNat)
    case atStart => exact ⟨-1, by omega, by omega, rfl, HC.out⟩
    case round =>
      obtain ⟨i, hi0, hi1, rfl, HB⟩ := hrel
      have r0 := (K.out wr HB).1
      by_cases hlt : i ≤ (n : Int)
      · have e0 : decide (i ≤ (n : Int)) = true := by simpa using hlt
        have HRd1 := Lib.hid (HRd.out wr i HB.out)
        obtain ⟨sl, hsl⟩ : ∃ sl, r.readS i = sl := ⟨_, rfl⟩
        obtain ⟨cc, hcc⟩ : ∃ cc, r.readC i = cc := ⟨_, rfl⟩
        have HRr1 := Lib.hid (fun w' hb => HRr.out w' i hb)
        obtain ⟨sb, hsb⟩ : ∃ sb, bstr sl = sb := ⟨_, rfl⟩
        have hsl6 := RefM.readS_len H'.out.ok i
        rw [hsl, hcc] at HRd1
        rw [hsl] at hsl6
        simp only [hsl, hcc, hsb] at HRr1
        clear hsl hcc
        go_wp2_with (first | (go_at_call 21; refine HRd1.out.mono ?_; rintro e w1 ⟨A1, n1, k1, rfl, hn1, hO, hb1⟩; refine park ?_; intro pq hq))
        have HB1 : Hid (Below w.heap.size w w1) := bup HB.out hb1 (Nat.le_refl _)
        have hrun := run_str (w := w1) (m := n1) (c := k1) hn1 hO.bytes
        rw [hsb] at hrun
        have HO := Lib.hid hO
        have hsz : w.heap.size ≤ wr.heap.size := HB.out.size
        have HN1 := Lib.hid hn1
        have hn6 : n1 ≤ 256 := by omega
        have HRr2 := Lib.hid (HRr1.out w1 HB1.out)
        clear hn1 hO hb1 hsb HRr1 HRd1
        refine hq.out ?_
        clear hq
        go_wp2_with (first | (go_at_call 33; refine HRr2.out.mono ?_; rintro e w2 ⟨rfl, rfl⟩))
        obtain ⟨z, hz⟩ : ∃ z, wr.heap.size = z := ⟨_, rfl⟩
        rw [hz] at HO hsz
        clear hz
        go_loopw [68] (fun s wq => ∃ k : Nat, k ≤ n1 ∧ s = .int .i64 k ∧ ∃ l, Hid (OwnB wq z (.slice A1 n1 k1) l ∧ l.length = n1 ∧ Below w.heap.size w wq)) (fun s _ => n1 - (intOf s).toNat)
        case atStart => exact ⟨0, Nat.zero_le _, rfl, _, HO.out, HN1.out.symm, HB1.out⟩
        case round =>
          obtain ⟨k, hk, rfl, l, HQ⟩ := hrel
          by_cases hkn : k < n1
          · obtain ⟨g, rfl, hgs⟩ : ∃ g, A1 = some ⟨g, 0, none⟩ ∧ z ≤ g := by
              rcases HQ.out.1.form with ⟨e, _⟩ | ⟨g, c9, e, h9, _⟩
              · cases e; omega
              · cases e; exact ⟨g, rfl, h9⟩
            obtain ⟨q1, q2⟩ := HQ.out.1.cells k (by rw [HQ.out.2.1]; exact hkn)
            have hu := ltu8 (at8 l k)
            go_wp2
            go_roundw
            case rel =>
              refine ⟨k + 1, by omega, by go_num, _, ownB_setI HQ.out.1 k _ ?_ ?_, by rw [List.length_set]; exact HQ.out.2.1, ?_⟩
              · omega
              · omega
              · exact HQ.out.2.2.trans ((Kept.set1 _ g k _).below HQ.out.2.2.size (fun b hb e => by omega))
            case measure => simp [intOf]; omega
          · obtain rfl : k = n1 := by omega
            go_wp2
            go_roundw
            case rel => exact ⟨i + 1, by omega, by omega, by go_num, HQ.out.2.2⟩
            case measure => simp [intOf]; omega
      · have e0 : decide (i ≤ (n : Int)) = false := by simpa using hlt
        go_wp2
        go_ret
        exact ⟨rfl, HB.out⟩
end Go.Proofs.Ytehigfpdeoebdaa.Dsk
