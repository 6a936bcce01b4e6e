/- The disk: Spoil, Pending; what is refused. -/
import Derived.Test.YtehigfpdeoebdaaDiskC
import Derived.Test.YtehigfpdeoebdaaVals
set_option linter.unusedSimpArgs false
set_option linter.unusedVariables false
namespace Go.Proofs.Ytehigfpdeoebdaa.Dsk
open Go.RowKit
theorem cells8_put (l : List UInt8) (k : Nat) (b : UInt8) : (cells8 l).toArray.setIfInBounds k (.int .u8 (b.toNat : Int)) = (cells8 (l.set k b)).toArray := by
  rw [List.setIfInBounds_toArray, cells8_set]
def spoil1 (i : Int) (k : Nat) (b : UInt8) (e : Int × List UInt8) : Int × List UInt8 := if e.1 = i then (e.1, e.2.set k b) else e
theorem spoil1_len (i : Int) (k : Nat) (b : UInt8) (e : Int × List UInt8) : (spoil1 i k b e).2.length = e.2.length := by unfold spoil1; split <;> simp
theorem spoil1_fst (i : Int) (k : Nat) (b : UInt8) (e : Int × List UInt8) : (spoil1 i k b e).1 = e.1 := by unfold spoil1; split <;> rfl
def spoilW (i : Int) (k : Nat) (b : UInt8) (j : Nat) (l : List (Int × List UInt8)) : List (Int × List UInt8) := (l.take j).map (spoil1 i k b) ++ l.drop j
theorem spoilW_length (i : Int) (k : Nat) (b : UInt8) (j : Nat) (l : List (Int × List UInt8)) : (spoilW i k b j l).length = l.length := by
  simp [spoilW]; omega
theorem spoilW_get (i : Int) (k : Nat) (b : UInt8) (j : Nat) (l : List (Int × List UInt8)) (h : j < l.length) : (spoilW i k b j l)[j]? = some l[j] := by
  unfold spoilW
  rw [List.getElem?_append_right (by simp; omega)]
  simp [Nat.min_eq_left (Nat.le_of_lt h)]
theorem spoilW_succ (i : Int) (k : Nat) (b : UInt8) (j : Nat) (l : List (Int × List UInt8)) (h : j < l.length) : spoilW i k b (j + 1) l = (spoilW i k b j l).set j (spoil1 i k b l[j]) := by
  unfold spoilW
  rw [List.set_append_right _ _ (by simp; omega), List.take_succ_eq_append_getElem h, List.map_append, List.append_assoc]
  congr 1
  have e : j - ((l.take j).map (spoil1 i k b)).length = 0 := by simp; omega
  rw [e, List.drop_eq_getElem_cons h]
  rfl
theorem spoilW_mem (i : Int) (k : Nat) (b : UInt8) (j : Nat) (l : List (Int × List UInt8)) (e : Int × List UInt8) (h : e ∈ spoilW i k b j l) : ∃ x ∈ l, e.1 = x.1 ∧ e.2.length = x.2.length := by
  unfold spoilW at h
  rcases List.mem_append.1 h with h | h
  · obtain ⟨x, hx, rfl⟩ := List.mem_map.1 h
    exact ⟨x, List.mem_of_mem_take hx, spoil1_fst _ _ _ _, spoil1_len _ _ _ _⟩
  · exact ⟨e, List.mem_of_mem_drop h, rfl, rfl⟩
theorem entL_set (e : Int × List UInt8) (k : Nat) (b : UInt8) : (entL e).set (k + 1) (.int .u8 (b.toNat : Int)) = entL (e.1, e.2.set k b) := by
  unfold entL; rw [List.set_cons_succ, cells8_set]
theorem entCells_set : ∀ (l : List (Int × List UInt8)) (hl : ∀ e ∈ l, e.2.length = 256) (j : Nat) (hj : j < l.length) (k : Nat) (hk : k < 256) (b : UInt8), (entCells l).set (j * 257 + 1 + k) (.int .u8 (b.toNat : Int)) = entCells (l.set j (l[j].1, l[j].2.set k b))
  | [], _, j, hj, _, _, _ => absurd hj (by simp)
  | e :: l, hl, 0, _, k, hk, b => by
    have := entL_length e (hl e (.head _))
    simp only [entCells, List.flatMap_cons, List.set_cons_zero, List.getElem_cons_zero, Nat.zero_mul, Nat.zero_add]
    rw [List.set_append_left _ _ (by omega), Nat.add_comm 1 k, entL_set]
  | e :: l, hl, j + 1, hj, k, hk, b => by
    have := entL_length e (hl e (.head _))
    have ih := entCells_set l (fun x hx => hl x (.tail _ hx)) j (by simpa using hj) k hk b
    simp only [entCells, List.flatMap_cons, List.set_cons_succ, List.getElem_cons_succ] at *
    rw [List.set_append_right _ _ (by omega), ← ih]
    congr 2
    omega
def DiskM.spoil (d : DiskM) (i : Int) (k : Nat) (b : UInt8) : DiskM := { d with held := upd d.held i ((d.held i).set k b), wait := d.wait.map (spoil1 i k b), bud := d.bud + 1 }
theorem DiskAt.base' {w : World} {base base' a m : Nat} {wv : Value} {d : DiskM} (h : DiskAt w base a m wv d) (hb : base' ≤ base) : DiskAt w base' a m wv d := by
  refine ⟨h.blk, h.map, ⟨h.row.1, ?_⟩, ⟨Nat.le_trans hb h.lo.1, Nat.le_trans hb h.lo.2⟩, h.ok⟩
  rcases h.row.2 with h2 | ⟨g, cap, cur, h1, h2, r⟩
  · exact .inl h2
  · exact .inr ⟨g, cap, cur, h1, Nat.le_trans hb h2, r⟩
theorem row_set {w : World} {base a m g n c : Nat} {d : DiskM} (h : DiskAt w base a m (.slice (some ⟨g, 0, none⟩) n c) d) (j : Nat) (hj : j < d.wait.length) (k : Nat) (hk : k < 256) (b : UInt8) :
    DiskAt (w.setCell ⟨g, j * 257 + 1 + k, none⟩ (.int .u8 (b.toNat : Int))) base a m (.slice (some ⟨g, 0, none⟩) n c) { d with wait := d.wait.set j (d.wait[j].1, d.wait[j].2.set k b) } := by
  have hga := h.ag g rfl
  have hgm := h.mg g rfl
  have hk' : Kept (· = g) w (w.setCell ⟨g, j * 257 + 1 + k, none⟩ (.int .u8 (b.toNat : Int))) := Kept.set1 w g _ _
  obtain ⟨nn, D, hM, hn⟩ := h.map
  have hn' : n = d.wait.length := by
    rcases h.form with ⟨h1, _⟩ | ⟨g', c', h1⟩
    · cases h1
    · cases h1; rfl
  subst hn'
  refine ⟨by rw [hk'.block a (Array.getElem?_eq_some_iff.1 h.blk).1 (fun e => hga e.symm)]; exact h.blk, ⟨nn, D, hM.kept hk' (fun e => hgm e.symm), by simpa using hn⟩, ?_, h.lo, ⟨h.ok.hlen, ?_, h.ok.size, h.ok.bud, h.ok.steps, h.ok.left⟩⟩
  · simp only [List.length_set]
    rw [← entCells_set _ (fun e he => (h.ok.wlen e he).1) j hj k hk b]
    exact (World.ownsRow.stored h.row (j * 257 + 1 + k) (.int .u8 (b.toNat : Int))).1
  · intro e he
    rcases List.mem_or_eq_of_mem_set he with he | rfl
    · exact h.ok.wlen e he
    · have := h.ok.wlen _ (List.getElem_mem hj)
      simpa using this
theorem row_fr {w : World} {base a m g n c : Nat} {d : DiskM} (h : DiskAt w base a m (.slice (some ⟨g, 0, none⟩) n c) d) (o : Nat) : w.frozen? ⟨g, o, none⟩ = false := by
  have hn' : n = d.wait.length := by
    rcases h.form with ⟨h1, _⟩ | ⟨g', c', h1⟩
    · cases h1
    · cases h1; rfl
  subst hn'
  exact World.ownsRow.frozenAt h.row o
set_option maxRecDepth 100000 in
set_option maxHeartbeats 2000000 in
theorem Spoil_calls {w : World} {base a m : Nat} {wv : Value} {d : DiskM} (h : DiskAt w base a m wv d) (i : Int) (hi : 0 ≤ i ∧ i < d.size) (k : Nat) (hk : k < 256) (b : UInt8) (hbd : d.bud < 1000) :
    Calls Try.prog 17 #[.pointer (some ⟨a, 0, none⟩), .int .i64 i, .int .i64 (k : Int), .int .u8 (b.toNat : Int)] w fun e w' => e = .returned (.int .i64 0) ∧ DiskAt w' base a m wv (d.spoil i k b) ∧ Kept (Foot a m wv) w w' := by
  have H := Lib.hid h
  have hh := has_calls h i
  rw [show decide (0 ≤ i ∧ i < d.size) = true by simpa using hi] at hh
  have HM := Lib.hid (made_calls h)
  have HH := Lib.hid hh
  have HBd := Lib.hid hbd
  have HZ := Lib.hid (h.ok.hlen i)
  obtain ⟨W, cw, rfl, hf0⟩ := h.form2
  have HF := Lib.hid hf0
  have hsz := h.ok.size
  have c1 := h.c1
  obtain ⟨n, D, hM, hn⟩ := h.map
  have HMp := Lib.hid hM
  have hlen : d.wait.length ≤ 1000 := by have := h.ok.bud; omega
  clear h hh hf0 hM hn hbd
  have e1 : decide ((k : Int) < (0 : Int)) = false := by simp
  have e2 : decide ((k : Int) ≥ (256 : Int)) = false := by simp; omega
  go_enter Try.func17, Try.ntmps17
  go_wp2_with (first | (go_at_call 22; refine HM.out.mono ?_; rintro e w' ⟨rfl, rfl⟩) | (go_at_call 23; refine HH.out.mono ?_; rintro e w' ⟨rfl, rfl⟩) | ((first | with_reducible refine park_at (.load 64 _) ?_ | with_reducible refine park_at (.load 66 _) ?_ | with_reducible refine park_at (.store 64 _ _) ?_ | with_reducible refine park_at (.store 66 _ _) ?_ | with_reducible refine park_at (.alloc 64) ?_ | with_reducible refine park_at (.alloc 66) ?_ | with_reducible refine park_at (.box 64 _) ?_ | with_reducible refine park_at (.build 64 _) ?_ | with_reducible refine park_at (.build 66 _) ?_ | with_reducible refine park_at (.binOp _ 64 _ _ _) ?_ | with_reducible refine park_at (.lookup _ _ _ _) ?_ | with_reducible refine park_at (.mapUpdate _ _ _ _) ?_ | with_reducible refine park_at (.makeMap _ _) ?_ | with_reducible refine park_at (.range _ _) ?_ | with_reducible refine park_at (.next _ _) ?_ | with_reducible refine park_append ?_ | with_reducible refine park_copy ?_ | with_reducible refine park_delete ?_); intro q hq))
  refine hq.out ?_
  clear hq
  refine wpList_look60 rfl _ _ rfl m n D d.held rfl HMp.out i (by omega) (by omega) rfl ?_
  obtain ⟨zl, hzl⟩ : ∃ zl, d.held i = zl := ⟨_, rfl⟩
  have HZl := Lib.hid hzl
  rw [hzl] at HZ ⊢
  clear hzl
  obtain ⟨sv, hsv⟩ : ∃ sv, secV zl = sv := ⟨_, rfl⟩
  have HS := Lib.hid hsv
  rw [hsv]
  clear hsv
  go_wp2_with ((first | with_reducible refine park_at (.load 64 _) ?_ | with_reducible refine park_at (.load 66 _) ?_ | with_reducible refine park_at (.store 64 _ _) ?_ | with_reducible refine park_at (.store 66 _ _) ?_ | with_reducible refine park_at (.alloc 64) ?_ | with_reducible refine park_at (.alloc 66) ?_ | with_reducible refine park_at (.box 64 _) ?_ | with_reducible refine park_at (.build 64 _) ?_ | with_reducible refine park_at (.build 66 _) ?_ | with_reducible refine park_at (.binOp _ 64 _ _ _) ?_ | with_reducible refine park_at (.lookup _ _ _ _) ?_ | with_reducible refine park_at (.mapUpdate _ _ _ _) ?_ | with_reducible refine park_at (.makeMap _ _) ?_ | with_reducible refine park_at (.range _ _) ?_ | with_reducible refine park_at (.next _ _) ?_ | with_reducible refine park_append ?_ | with_reducible refine park_copy ?_ | with_reducible refine park_delete ?_); intro q hq)
  refine hq.out ?_
  clear hq
  refine wpList_alloc69 rfl rfl ?_
  have HR : Hid ((w.alloc (.cells (cells8 zsec).toArray 64)).heap[w.heap.size]? = some (.cells (cells8 zsec).toArray 64 (0, 0))) := heap_alloc_new w _
  have HB : Hid (Below w.heap.size w (w.alloc (.cells (cells8 zsec).toArray 64))) := (Below.refl _ _).alloc (Nat.le_refl _) _
  generalize (w.alloc (.cells (cells8 zsec).toArray 64)) = w1 at HR HB ⊢
  obtain ⟨r, hr⟩ : ∃ r, w.heap.size = r := ⟨_, rfl⟩
  have hr := Lib.hid hr
  rw [hr.out] at HB HR ⊢
  go_wp2_with ((first | with_reducible refine park_at (.load 64 _) ?_ | with_reducible refine park_at (.load 66 _) ?_ | with_reducible refine park_at (.store 64 _ _) ?_ | with_reducible refine park_at (.store 66 _ _) ?_ | with_reducible refine park_at (.alloc 64) ?_ | with_reducible refine park_at (.alloc 66) ?_ | with_reducible refine park_at (.box 64 _) ?_ | with_reducible refine park_at (.build 64 _) ?_ | with_reducible refine park_at (.build 66 _) ?_ | with_reducible refine park_at (.binOp _ 64 _ _ _) ?_ | with_reducible refine park_at (.lookup _ _ _ _) ?_ | with_reducible refine park_at (.mapUpdate _ _ _ _) ?_ | with_reducible refine park_at (.makeMap _ _) ?_ | with_reducible refine park_at (.range _ _) ?_ | with_reducible refine park_at (.next _ _) ?_ | with_reducible refine park_append ?_ | with_reducible refine park_copy ?_ | with_reducible refine park_delete ?_); intro q hq)
  refine hq.out ?_
  clear hq
  refine wpList_store69 rfl _ _ rfl r rfl zl zsec HS.out.symm HZ.out zsec_length HR.out ?_
  intro w2 hr2 hk2
  have HB2 : Hid (Below w.heap.size w w2) := by rw [hr.out]; exact HB.out.trans (hk2.below (Nat.le_of_lt (Array.getElem?_eq_some_iff.1 HR.out).1) (fun k hk e => by omega))
  clear hk2 HB HR
  have ck : w2.cell? ⟨r, k, none⟩ = some (.int .u8 ((at8 zl k).toNat : Int)) := by
    rw [cell_of_row _ _ _ _ _ _ hr2.out]; simpa using cells8_get zl k (by rw [HZ.out]; exact hk)
  have fk : w2.frozen? ⟨r, k, none⟩ = false := frozen_of_row _ _ _ _ _ hr2.out
  go_wp2_with ((first | with_reducible refine park_at (.load 64 _) ?_ | with_reducible refine park_at (.load 66 _) ?_ | with_reducible refine park_at (.store 64 _ _) ?_ | with_reducible refine park_at (.store 66 _ _) ?_ | with_reducible refine park_at (.alloc 64) ?_ | with_reducible refine park_at (.alloc 66) ?_ | with_reducible refine park_at (.box 64 _) ?_ | with_reducible refine park_at (.build 64 _) ?_ | with_reducible refine park_at (.build 66 _) ?_ | with_reducible refine park_at (.binOp _ 64 _ _ _) ?_ | with_reducible refine park_at (.lookup _ _ _ _) ?_ | with_reducible refine park_at (.mapUpdate _ _ _ _) ?_ | with_reducible refine park_at (.makeMap _ _) ?_ | with_reducible refine park_at (.range _ _) ?_ | with_reducible refine park_at (.next _ _) ?_ | with_reducible refine park_append ?_ | with_reducible refine park_copy ?_ | with_reducible refine park_delete ?_); intro q hq)
  refine hq.out ?_
  clear hq
  have HR3 : Hid ((w2.setCell ⟨r, k, none⟩ (.int .u8 (b.toNat : Int))).heap[r]? = some (.cells (cells8 (zl.set k b)).toArray 64 (0, 0))) := by
    have := blk_put hr2.out k (.int .u8 (b.toNat : Int)); rw [cells8_put] at this; exact this
  have HB3 : Hid (Below w.heap.size w (w2.setCell ⟨r, k, none⟩ (.int .u8 (b.toNat : Int)))) := HB2.out.trans ((Kept.set1 w2 r k _).below HB2.out.size (fun q hq e => by have := hr.out; omega))
  have HL : Hid ((zl.set k b).length = 256) := (List.length_set).trans HZ.out
  clear ck fk hr2 HB2
  generalize (w2.setCell ⟨r, k, none⟩ (.int .u8 (b.toNat : Int))) = w3 at HR3 HB3 ⊢
  refine wpList_load69 rfl _ rfl r 0 rfl (zl.set k b) HL.out (by have := World.rangeAt_of_block HR3.out 0 256; rw [Nat.zero_add, ← HL.out, ← cells8_length (zl.set k b)] at this; simpa using this) ?_
  have HD3 := Lib.hid (H.out.below HB3.out)
  have HSet := Lib.hid (settle_calls HD3.out i hi.1 (by omega) (zl.set k b) HL.out HBd.out)
  obtain ⟨tv, htv⟩ : ∃ tv, secV (zl.set k b) = tv := ⟨_, rfl⟩
  rw [htv] at HSet ⊢
  clear htv
  go_wp2_with (first | (go_at_call 27; refine HSet.out.mono ?_; rintro e w4 ⟨rfl, hD4, hk4⟩; refine park ?_; intro q hq))
  have HK4 : Hid (Kept (Foot a m (.slice W d.wait.length cw)) w w4) := (Kept.of_below HB3.out).trans (hk4.mono (fun q _ e => .inr (.inl e)))
  have HD4 := Lib.hid hD4
  clear hD4 hk4 HSet HD3 HR3 HB3 c1
  refine hq.out ?_
  clear hq
  obtain ⟨d1, hd1⟩ : ∃ d1, d.settle i (zl.set k b) = d1 := ⟨_, rfl⟩
  have HD1 := Lib.hid hd1
  rw [hd1] at HD4
  have ew : d1.wait = d.wait := by rw [← hd1]; rfl
  have HEw := Lib.hid ew
  have HOk : Hid (d1.Ok) := HD4.out.ok
  clear ew hd1
  have c2 := HD4.out.c2
  go_wp2
  obtain ⟨wo, rfl⟩ : ∃ wo : World, wo = w4 := ⟨_, rfl⟩
  go_loopw [44] (fun s wr => ∃ j : Nat, j ≤ d.wait.length ∧ s = .int .i64 j ∧ Hid (DiskAt wr base a m (.slice W d.wait.length cw) { d1 with wait := spoilW i k b j d1.wait } ∧ Kept (Foot a m (.slice W d.wait.length cw)) wo wr)) (fun s _ => d.wait.length - (intOf s).toNat)
  case atStart =>
    refine ⟨0, Nat.zero_le _, rfl, ?_, Kept.refl _ _⟩
    have e : spoilW i k b 0 d1.wait = d1.wait := by simp [spoilW]
    rw [e]; exact HD4.out
  case round =>
    obtain ⟨j, hj, rfl, HR⟩ := hrel
    by_cases hlt : j < d.wait.length
    · obtain ⟨g, hg⟩ := HF.out j hlt
      subst hg
      have HJ : Hid (j < d1.wait.length ∧ j < (spoilW i k b j d1.wait).length) := ⟨by rw [HEw.out]; exact hlt, by rw [spoilW_length, HEw.out]; exact hlt⟩
      have HGE : Hid ((spoilW i k b j d1.wait)[j]'(HJ.out.2) = d1.wait[j]'(HJ.out.1)) := by
        have := spoilW_get i k b j d1.wait HJ.out.1
        rw [List.getElem?_eq_getElem HJ.out.2] at this; injection this
      obtain ⟨e, he⟩ : ∃ e, d1.wait[j]'(HJ.out.1) = e := ⟨_, rfl⟩
      have HEe := Lib.hid he
      have cat := rangeAt_head (wait_at HR.out.1 j HJ.out.2)
      simp only [HGE.out] at cat
      rw [he] at cat
      have c2r := HR.out.1.c2
      clear he
      by_cases heq : e.1 = i
      · have hb : (e.1 == i) = true := by simp [heq]
        have cq : ∃ x, wr.cell? ⟨g, j * 257 + 1 + k, none⟩ = some (.int .u8 x) := by
          exact ⟨_, rangeAt_tail (wait_at HR.out.1 j HJ.out.2) k _ (cells8_get _ _ (by rw [(HR.out.1.ok.wlen _ (List.getElem_mem HJ.out.2)).1]; exact hk))⟩
        obtain ⟨xq, cq⟩ := cq
        have fq : wr.frozen? ⟨g, j * 257 + 1 + k, none⟩ = false := row_fr HR.out.1 _
        have hD5 := row_set HR.out.1 j HJ.out.2 k hk b
        have HD5 := Lib.hid hD5
        clear hD5
        go_wp2
        go_roundw
        case rel =>
          refine ⟨j + 1, by omega, by go_num, ?_, HR.out.2.trans ((Kept.set1 wr g _ _).mono (fun q _ e => .inr (.inr (by rw [e]; rfl))))⟩
          have e2 : spoilW i k b (j + 1) d1.wait = (spoilW i k b j d1.wait).set j (((spoilW i k b j d1.wait)[j]'(HJ.out.2)).1, ((spoilW i k b j d1.wait)[j]'(HJ.out.2)).2.set k b) := by
            rw [spoilW_succ _ _ _ _ _ HJ.out.1, HGE.out, HEe.out]
            unfold spoil1; rw [if_pos heq]
          rw [e2]
          exact HD5.out
        case measure => simp [intOf]; omega
      · have hb : (e.1 == i) = false := by simp [heq]
        go_wp2
        go_roundw
        case rel =>
          refine ⟨j + 1, by omega, by go_num, ?_, HR.out.2⟩
          have e2 : spoilW i k b (j + 1) d1.wait = spoilW i k b j d1.wait := by
            rw [spoilW_succ _ _ _ _ _ HJ.out.1, HEe.out]
            unfold spoil1; rw [if_neg heq]
            have := HGE.out; rw [HEe.out] at this; rw [← this]; exact List.set_getElem_self _
          rw [e2]
          exact HR.out.1
        case measure => simp [intOf]; omega
    · obtain rfl : j = d.wait.length := by omega
      go_wp2
      go_ret
      refine ⟨rfl, ?_, HK4.out.trans HR.out.2⟩
      have h5 := HR.out.1
      have e3 : ({ d1 with wait := spoilW i k b d.wait.length d1.wait } : DiskM) = d.spoil i k b := by
        have e4 : spoilW i k b d.wait.length d1.wait = d.wait.map (spoil1 i k b) := by rw [HEw.out]; simp [spoilW]
        rw [e4, ← HD1.out, ← HZl.out]
        rfl
      rw [e3] at h5
      exact h5
section
variable {w : World} {base a m : Nat} {wv : Value} {d : DiskM}
set_option maxRecDepth 100000 in
set_option maxHeartbeats 400000 in
theorem Spoil_bad (h : DiskAt w base a m wv d) (i k : Int) (b : UInt8) (hb : ¬ (0 ≤ i ∧ i < d.size) ∨ k < 0 ∨ 256 ≤ k) :
    Calls Try.prog 17 #[.pointer (some ⟨a, 0, none⟩), .int .i64 i, .int .i64 k, .int .u8 (b.toNat : Int)] w fun e w' => e = .returned (.int .i64 2) ∧ w = w' := by
  have hh := has_calls h i
  have HM := Lib.hid (made_calls h)
  by_cases h1 : 0 ≤ i ∧ i < d.size
  · rw [show decide (0 ≤ i ∧ i < d.size) = true by simpa using h1] at hh
    have HH := Lib.hid hh
    by_cases h2 : k < 0
    · have e1 : decide (k < (0 : Int)) = true := by simpa using h2
      clear h hh hb h1
      go_enter Try.func17, Try.ntmps17
      go_wp2_with (first | (go_at_call 22; refine HM.out.mono ?_; rintro e w' ⟨rfl, rfl⟩) | (go_at_call 23; refine HH.out.mono ?_; rintro e w' ⟨rfl, rfl⟩))
      go_ret
      exact ⟨rfl, rfl⟩
    · have e1 : decide (k < (0 : Int)) = false := by simpa using h2
      have e2 : decide (k ≥ (256 : Int)) = true := by simp; omega
      clear h hh hb h1
      go_enter Try.func17, Try.ntmps17
      go_wp2_with (first | (go_at_call 22; refine HM.out.mono ?_; rintro e w' ⟨rfl, rfl⟩) | (go_at_call 23; refine HH.out.mono ?_; rintro e w' ⟨rfl, rfl⟩))
      go_ret
      exact ⟨rfl, rfl⟩
  · rw [show decide (0 ≤ i ∧ i < d.size) = false by simpa using h1] at hh
    have HH := Lib.hid hh
    clear h hh hb h1
    go_enter Try.func17, Try.ntmps17
    go_wp2_with (first | (go_at_call 22; refine HM.out.mono ?_; rintro e w' ⟨rfl, rfl⟩) | (go_at_call 23; refine HH.out.mono ?_; rintro e w' ⟨rfl, rfl⟩))
    go_ret
    exact ⟨rfl, rfl⟩
set_option maxRecDepth 100000 in
set_option maxHeartbeats 400000 in
theorem Write_bad (h : DiskAt w base a m wv d) (i : Int) (A : Option Addr) (n c : Nat) (hb : ¬ (0 ≤ i ∧ i < d.size) ∨ (n = 256) = False) :
    Calls Try.prog 8 #[.pointer (some ⟨a, 0, none⟩), .int .i64 i, .slice A n c] w fun e w' => e = .returned (.int .i64 2) ∧ w = w' := by
  have hh := has_calls h i
  have HM := Lib.hid (made_calls h)
  by_cases h1 : 0 ≤ i ∧ i < d.size
  · rw [show decide (0 ≤ i ∧ i < d.size) = true by simpa using h1] at hh
    have HH := Lib.hid hh
    have hn : ¬ n = 256 := by rcases hb with hb | hb; exact absurd h1 hb; rw [hb]; exact fun x => x
    have e1 : ((n : Int) != (256 : Int)) = true := by simp; omega
    clear h hh hb h1 hn
    go_enter Try.func8, Try.ntmps8
    go_wp2_with (first | (go_at_call 22; refine HM.out.mono ?_; rintro e w' ⟨rfl, rfl⟩) | (go_at_call 23; refine HH.out.mono ?_; rintro e w' ⟨rfl, rfl⟩))
    go_ret
    exact ⟨rfl, rfl⟩
  · rw [show decide (0 ≤ i ∧ i < d.size) = false by simpa using h1] at hh
    have HH := Lib.hid hh
    clear h hh hb h1
    go_enter Try.func8, Try.ntmps8
    go_wp2_with (first | (go_at_call 22; refine HM.out.mono ?_; rintro e w' ⟨rfl, rfl⟩) | (go_at_call 23; refine HH.out.mono ?_; rintro e w' ⟨rfl, rfl⟩))
    go_ret
    exact ⟨rfl, rfl⟩
set_option maxRecDepth 100000 in
set_option maxHeartbeats 400000 in
theorem Read_bad (h : DiskAt w base a m wv d) (i : Int) (hb : ¬ (0 ≤ i ∧ i < d.size)) :
    Calls Try.prog 21 #[.pointer (some ⟨a, 0, none⟩), .int .i64 i] w fun e w' => e = .returned (.tuple #[.slice none 0 0, .int .i64 2]) ∧ w = w' := by
  have hh := has_calls h i
  have HM := Lib.hid (made_calls h)
  rw [show decide (0 ≤ i ∧ i < d.size) = false by simpa using hb] at hh
  have HH := Lib.hid hh
  clear h hh hb
  go_enter Try.func21, Try.ntmps21
  go_wp2_with (first | (go_at_call 22; refine HM.out.mono ?_; rintro e w' ⟨rfl, rfl⟩) | (go_at_call 23; refine HH.out.mono ?_; rintro e w' ⟨rfl, rfl⟩))
  go_ret2
  exact ⟨rfl, rfl⟩
set_option maxHeartbeats 400000 in
theorem Size_calls (h : DiskAt w base a m wv d) : Calls Try.prog 28 #[.pointer (some ⟨a, 0, none⟩)] w fun e w' => e = .returned (.int .i64 d.size) ∧ w = w' := by
  have HM := Lib.hid (made_calls h)
  have c0 := h.c0
  clear h
  go_enter Try.func28, Try.ntmps28
  go_wp2_with (go_at_call 22; refine HM.out.mono ?_; rintro e w' ⟨rfl, rfl⟩)
  go_ret
  exact ⟨rfl, rfl⟩
set_option maxHeartbeats 400000 in
theorem Cut_bad (h : DiskAt w base a m wv d) (n : Int) (hn : n < 0) :
    Calls Try.prog 12 #[.pointer (some ⟨a, 0, none⟩), .int .i64 n] w fun e w' => e = .returned (.int .i64 2) ∧ w = w' := by
  have HM := Lib.hid (made_calls h)
  have e0 : decide (n < (0 : Int)) = true := by simpa using hn
  clear h hn
  go_enter Try.func12, Try.ntmps12
  go_wp2_with (first | (go_at_call 22; refine HM.out.mono ?_; rintro e w' ⟨rfl, rfl⟩))
  go_ret
  exact ⟨rfl, rfl⟩
set_option maxHeartbeats 400000 in
theorem Cut_off (h : DiskAt w base a m wv d) (n : Int) (hn : 0 ≤ n) (ho : d.isOff = true) :
    Calls Try.prog 12 #[.pointer (some ⟨a, 0, none⟩), .int .i64 n] w fun e w' => e = .returned (.int .i64 0) ∧ w = w' := by
  have hf := off_calls h
  rw [ho] at hf
  have HM := Lib.hid (made_calls h)
  have HF := Lib.hid hf
  have e0 : decide (n < (0 : Int)) = false := by simp; omega
  clear h hf
  go_enter Try.func12, Try.ntmps12
  go_wp2_with (first | (go_at_call 22; refine HM.out.mono ?_; rintro e w' ⟨rfl, rfl⟩) | (go_at_call 24; refine HF.out.mono ?_; rintro e w' ⟨rfl, rfl⟩))
  go_ret
  exact ⟨rfl, rfl⟩
end
set_option maxRecDepth 100000 in
set_option maxHeartbeats 400000 in
theorem New_bad (n : Int) (hn : n < 1 ∨ 4096 < n) (w : World) : Calls Try.prog 4 #[.int .i64 n] w fun e w' => e = .returned (.tuple #[.pointer none, .int .i64 2]) ∧ w = w' := by
  by_cases h1 : n < 1
  · have e1 : decide (n < (1 : Int)) = true := by simpa using h1
    go_enter Try.func4, Try.ntmps4
    go_wp2
    go_ret2
    exact ⟨rfl, rfl⟩
  · have e1 : decide (n < (1 : Int)) = false := by simpa using h1
    have e2 : decide (n > (4096 : Int)) = true := by simp; omega
    go_enter Try.func4, Try.ntmps4
    go_wp2
    go_ret2
    exact ⟨rfl, rfl⟩
/-- What Pending hands back: ints, in memory of its own. -/
def RetI (w0 : World) (vs : List Value) (e : Ending) (w' : World) : Prop := ∃ v, e = .returned v ∧ OwnVs w' w0.heap.size 3 v vs ∧ Below w0.heap.size w0 w'
def iv (i : Int) : Value := .int .i64 i
theorem elI : El 71 3 (.int .i64 0) 8 := ⟨Try.underlying71, by kernel_rfl, rfl, by decide⟩
set_option maxRecDepth 100000 in
set_option maxHeartbeats 2000000 in
theorem Pending_calls {w : World} {base a m : Nat} {wv : Value} {d : DiskM} (h : DiskAt w base a m wv d) :
    Calls Try.prog 31 #[.pointer (some ⟨a, 0, none⟩)] w (RetI w (d.wait.map fun e => iv e.1)) := by
  have H := Lib.hid h
  have HM := Lib.hid (made_calls h)
  obtain ⟨W, cw, rfl, hf0⟩ := h.form2
  have HF := Lib.hid hf0
  have c2 := h.c2
  have hlen : d.wait.length ≤ 1000 := by obtain ⟨n, D, _, hn⟩ := h.map; have := h.ok.bud; omega
  clear h hf0
  go_enter Try.func31, Try.ntmps31
  go_wp2_with (first | (go_at_call 22; refine HM.out.mono ?_; rintro e w' ⟨rfl, rfl⟩))
  obtain ⟨wo, rfl⟩ : ∃ wo : World, wo = w := ⟨_, rfl⟩
  go_loopw [14, 3] (fun s v wr => ∃ j : Nat, j ≤ d.wait.length ∧ s = .int .i64 j ∧ Hid (OwnVs wr wo.heap.size 3 v ((d.wait.take j).map fun e => iv e.1) ∧ Below wo.heap.size wo wr)) (fun s _ _ => d.wait.length - (intOf s).toNat)
  case atStart => exact ⟨0, Nat.zero_le _, rfl, OwnVs.nil _ _ _, Below.refl _ _⟩
  case round =>
    obtain ⟨j, hj, rfl, HR⟩ := hrel
    by_cases hlt : j < d.wait.length
    · obtain ⟨g, hg⟩ := HF.out j hlt
      subst hg
      have HD := Lib.hid (H.out.below HR.out.2)
      have hra := Lib.hid (wait_at HD.out j hlt)
      have hel := Lib.hid (HD.out.ok.wlen _ (List.getElem_mem hlt)).1
      obtain ⟨e, he⟩ : ∃ e, d.wait[j] = e := ⟨_, rfl⟩
      have HEe := Lib.hid he
      have hra : Hid (wr.rangeAt g (j * 257) (entL e)) := by have := hra.out; rw [← he]; exact this
      have hel : Hid (e.2.length = 256) := by rw [← he]; exact hel.out
      clear he
      go_wp2_with ((first | with_reducible refine park_at (.load 64 _) ?_ | with_reducible refine park_at (.load 66 _) ?_ | with_reducible refine park_at (.store 64 _ _) ?_ | with_reducible refine park_at (.store 66 _ _) ?_ | with_reducible refine park_at (.alloc 64) ?_ | with_reducible refine park_at (.alloc 66) ?_ | with_reducible refine park_at (.box 64 _) ?_ | with_reducible refine park_at (.build 64 _) ?_ | with_reducible refine park_at (.build 66 _) ?_ | with_reducible refine park_at (.binOp _ 64 _ _ _) ?_ | with_reducible refine park_at (.lookup _ _ _ _) ?_ | with_reducible refine park_at (.mapUpdate _ _ _ _) ?_ | with_reducible refine park_at (.makeMap _ _) ?_ | with_reducible refine park_at (.range _ _) ?_ | with_reducible refine park_at (.next _ _) ?_ | with_reducible refine park_append ?_ | with_reducible refine park_copy ?_ | with_reducible refine park_delete ?_); intro pq6 hq6)
      refine hq6.out ?_
      clear hq6
      refine wpList_load71 rfl _ rfl g (j * 257) rfl e hel.out hra.out ?_
      obtain ⟨ev, hev⟩ : ∃ ev, entV e = ev := ⟨_, rfl⟩
      have HEv := Lib.hid hev
      rw [hev]
      clear hev
      go_wp2_with ((first | with_reducible refine park_at (.load 64 _) ?_ | with_reducible refine park_at (.load 66 _) ?_ | with_reducible refine park_at (.store 64 _ _) ?_ | with_reducible refine park_at (.store 66 _ _) ?_ | with_reducible refine park_at (.alloc 64) ?_ | with_reducible refine park_at (.alloc 66) ?_ | with_reducible refine park_at (.box 64 _) ?_ | with_reducible refine park_at (.build 64 _) ?_ | with_reducible refine park_at (.build 66 _) ?_ | with_reducible refine park_at (.binOp _ 64 _ _ _) ?_ | with_reducible refine park_at (.lookup _ _ _ _) ?_ | with_reducible refine park_at (.mapUpdate _ _ _ _) ?_ | with_reducible refine park_at (.makeMap _ _) ?_ | with_reducible refine park_at (.range _ _) ?_ | with_reducible refine park_at (.next _ _) ?_ | with_reducible refine park_append ?_ | with_reducible refine park_copy ?_ | with_reducible refine park_delete ?_); intro pq6 hq6)
      refine hq6.out ?_
      clear hq6
      refine wpList_alloc71 rfl rfl ?_
      have HR5 : Hid ((wr.alloc (.cells (entL (0, zsec)).toArray 66)).heap[wr.heap.size]? = some (.cells (entL (0, zsec)).toArray 66 (0, 0))) := heap_alloc_new wr _
      have HB5 : Hid (Below wr.heap.size wr (wr.alloc (.cells (entL (0, zsec)).toArray 66))) := (Below.refl _ _).alloc (Nat.le_refl _) _
      generalize (wr.alloc (.cells (entL (0, zsec)).toArray 66)) = w5 at HR5 HB5 ⊢
      obtain ⟨r1, hr1⟩ : ∃ r, wr.heap.size = r := ⟨_, rfl⟩
      have hr1 := Lib.hid hr1
      rw [hr1.out] at HR5 ⊢
      go_wp2_with ((first | with_reducible refine park_at (.load 64 _) ?_ | with_reducible refine park_at (.load 66 _) ?_ | with_reducible refine park_at (.store 64 _ _) ?_ | with_reducible refine park_at (.store 66 _ _) ?_ | with_reducible refine park_at (.alloc 64) ?_ | with_reducible refine park_at (.alloc 66) ?_ | with_reducible refine park_at (.box 64 _) ?_ | with_reducible refine park_at (.build 64 _) ?_ | with_reducible refine park_at (.build 66 _) ?_ | with_reducible refine park_at (.binOp _ 64 _ _ _) ?_ | with_reducible refine park_at (.lookup _ _ _ _) ?_ | with_reducible refine park_at (.mapUpdate _ _ _ _) ?_ | with_reducible refine park_at (.makeMap _ _) ?_ | with_reducible refine park_at (.range _ _) ?_ | with_reducible refine park_at (.next _ _) ?_ | with_reducible refine park_append ?_ | with_reducible refine park_copy ?_ | with_reducible refine park_delete ?_); intro pq6 hq6)
      refine hq6.out ?_
      clear hq6
      refine wpList_store71 rfl _ _ rfl r1 rfl e (0, zsec) HEv.out.symm hel.out zsec_length HR5.out ?_
      intro w6 hr6 hk6
      have HB6 : Hid (Below wr.heap.size wr w6) := HB5.out.trans (hk6.below HB5.out.size (fun b hb e => by have := hr1.out; omega))
      have ke : w6.cell? ⟨r1, 0, none⟩ = some (.int .i64 e.1) := by rw [cell_of_row _ _ _ _ _ _ hr6.out]; rfl
      have HO6 := Lib.hid (HR.out.1.below HB6.out)
      have HB7 := Lib.hid (HR.out.2.trans (HB6.out.mono HR.out.2.size))
      clear hk6 HB5 HR5
      go_wp2_with (with_reducible refine park_append ?_; intro q hq)
      refine hq.out ?_
      clear hq
      refine wpList_append_val1 elI rfl _ _ rfl wo.heap.size _ _ rfl (HO6.out.below (by exact (Below.refl _ _).alloc (Nat.le_refl _) _)) ⟨w6.heap.size, 0, none⟩ 1 (.int .i64 e.1) rfl (by rw [Addr.add_lit, cell_of_row _ _ _ _ _ _ (heap_alloc_new w6 _)]; rfl) rfl (by simp; omega) (by have := HB7.out.size; simp; omega) ?_
      intro v' w7 HV
      go_wp2
      go_roundw
      case rel =>
        refine ⟨j + 1, by omega, by go_num, ?_, ?_⟩
        · rw [List.take_succ_eq_append_getElem hlt, List.map_append, HEe.out]
          exact HV.out.1
        · have hv := HR.out.1.lt
          exact HB7.out.trans (((Below.refl _ w6).alloc HB7.out.size _).trans ((Kept.of_grown (S := fun k => wo.heap.size ≤ k) HV.out.2 (fun k hk => (hv k hk).1)).below (by have := HB7.out.size; simp; omega) (fun k hk hs => by omega)))
      case measure => simp [intOf]; omega
    · obtain rfl : j = d.wait.length := by omega
      go_wp2
      go_ret
      have h1 := HR.out.1
      rw [List.take_length] at h1
      exact ⟨_, rfl, h1, HR.out.2⟩
end Go.Proofs.Ytehigfpdeoebdaa.Dsk
