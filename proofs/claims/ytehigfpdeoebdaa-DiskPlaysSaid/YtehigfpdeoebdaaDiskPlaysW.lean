/- The law DiskPlays: walked. -/
import Derived.Test.YtehigfpdeoebdaaDiskSt
import Derived.Test.YtehigfpdeoebdaaDiskP
import Derived.Deep.CutBlock
set_option linter.unusedSimpArgs false
set_option linter.unusedVariables false
namespace Go.Proofs.Ytehigfpdeoebdaa.Dsk
open Go.RowKit
theorem infoAct : (Try.prog.info? 35).map (fun i => (i.zero, i.size)) = some (some (.agg #[.int .i64 0, .int .i64 0, .int .i64 0, .int .u8 0, .bool false, .slice none 0 0, .int .i64 0, .int .i64 0]), 8) := by kernel_rfl
theorem underAct : Try.prog.underlying 35 = some (.struct (Try.prog.fieldsOf 35)) := by kernel_rfl
theorem sizeAct : (Try.prog.info? 35).map (·.size) = some 8 := (zero_of_info infoAct).2
def zAct : List Value := [.int .i64 0, .int .i64 0, .int .i64 0, .int .u8 0, .bool false, .slice none 0 0, .int .i64 0, .int .i64 0]
theorem zeroAct (w : World) : (zeroValue 35).run Try.prog w = .ok (.agg zAct.toArray) w := (zero_of_info infoAct).1 w
theorem wpList_allocAct {ops : Array Oper} {rest : List Oper} {o : Oper} {a : Act} {Q : Exit → Act → World → Prop} {w : World} (hg : o.guard = none) (ho : o.op = .alloc 35) (h : wpList Try.prog ops Q rest (a.put o.dst (.pointer (some ⟨w.heap.size, 0, none⟩))) (w.alloc (.cells zAct.toArray 35))) : wpList Try.prog ops Q (o :: rest) a w := by
  refine Great.wpList_runTo hg _ rfl _ _ ?_ h
  unfold execOp
  simp only [ho, Instr.alloc, Sem.run_bind, zeroAct, Result.andThen_ok, newVar, newRow, run_newObj_alloc, Sem.run_pure]
  rfl
theorem actL_one (x : ActV) : ∀ u ∈ actL x, u.oneCell' = true := by
  intro u hu
  simp only [actL, List.mem_cons, List.mem_nil_iff, or_false] at hu
  rcases hu with rfl | rfl | rfl | rfl | rfl | rfl | rfl | rfl <;> rfl
set_option maxRecDepth 100000 in
set_option maxHeartbeats 4000000 in
theorem diskPlays_calls (n : Int) (A : Option Addr) (c : Nat) (l : List ActV) (w : World) (hA : ActsAt w A l) (hl : l.length ≤ 9223372036854775807) :
    Calls Try.prog 3 #[.int .i64 n, .slice A l.length c] w fun e w' => e = .returned (.bool true) ∧ Below w.heap.size w w' := by
  have HWk := Lib.hid (fun w' => works_calls w')
  by_cases hn : n < 1 ∨ 4096 < n
  · have HN := Lib.hid (New_bad n hn w)
    have HR := Lib.hid (NewR_bad n hn w)
    clear hn hA
    go_enter Try.func3, Try.ntmps3
    go_wp2_with (first | (go_at_call 4; refine HN.out.mono ?_; rintro e w' ⟨rfl, rfl⟩) | (go_at_call 5; refine HR.out.mono ?_; rintro e w' ⟨rfl, rfl⟩) | (go_at_call 6; refine (HWk.out _).mono ?_; rintro e w2 ⟨rfl, hb⟩))
    go_ret
    exact ⟨rfl, hb⟩
  · obtain ⟨z, rfl⟩ := Int.eq_ofNat_of_zero_le (show 0 ≤ n by omega)
    have HN := Lib.hid (New_calls (z : Int) (by omega) w)
    have HR := Lib.hid (fun w' => NewR_calls z (by omega) w')
    have HZ : Hid (1 ≤ z ∧ z ≤ 4096) := Lib.hid (by omega)
    clear hn
    by_cases h8 : 8 < z
    · have e8 : decide (8 < z) = true := by simpa using h8
      clear hA
      go_enter Try.func3, Try.ntmps3
      go_wp2_with (first | (go_at_call 4; refine HN.out.mono ?_; rintro e w1 ⟨a, m, rfl, hD1, hb1⟩) | (go_at_call 5; refine (HR.out _).mono ?_; rintro e w2 ⟨a', hv, rfl, hR2, hb2⟩; clear hR2 hD1) | (go_at_call 6; refine (HWk.out _).mono ?_; rintro e w3 ⟨rfl, hb3⟩))
      go_ret
      exact ⟨rfl, bup (bup hb1 hb2 (Nat.le_refl _)) hb3 (Nat.le_refl _)⟩
    · have e8 : decide (8 < z) = false := by simpa using h8
      have HA := Lib.hid hA
      clear hA
      obtain ⟨B, hB⟩ : ∃ B, w.heap.size = B := ⟨_, rfl⟩
      have HB := Lib.hid hB
      clear hB
      go_enter Try.func3, Try.ntmps3
      go_wp2_with (first | (go_at_call 4; refine HN.out.mono ?_; rintro e w1 ⟨a, m, rfl, hD1, hb1⟩; refine park ?_; intro pq hq))
      rw [HB.out] at hD1 hb1
      have HR2 := Lib.hid (HR.out w1)
      have HD1 := Lib.hid hD1
      have HB1 := Lib.hid hb1
      have hB1 : B ≤ w1.heap.size := by rw [← HB.out]; exact (by rw [← HB.out] at hb1; exact hb1.size)
      clear hD1 hb1 HR HN
      refine hq.out ?_
      clear hq
      go_wp2_with (first | (go_at_call 5; refine HR2.out.mono ?_; rintro e w2 ⟨a', hv, rfl, hR2, hb2⟩; refine park ?_; intro pq hq))
      have HP : Hid (PlE B 0 a a' w w2) := by
        refine ⟨m, .slice none 0 0, newD z, hv, .slice none 0 0, newR z, ⟨HD1.out.below hb2, hR2.base' hB1, Rel.new z HZ.out.1, ?_, by simp [newD], by simp [newD], by simp [newD], Nat.le_trans hB1 hb2.size⟩, bup HB1.out hb2 (by rw [HB.out]; exact Nat.le_refl _)⟩
        intro k hk hk'
        have h1 := (HD1.out.foot k hk).2
        have h2 := (hR2.foot k hk').1
        omega
      clear hR2 hb2 HR2 HD1 HB1 hB1
      refine hq.out ?_
      clear hq
      go_wp2
      go_loopw [5, 7, 9] (fun s5 s7 s wr => ∃ j a a' : Nat, j ≤ l.length ∧ j ≤ 25 ∧ s = .int .i64 (j : Int) ∧ s5 = .pointer (some ⟨a, 0, none⟩) ∧ s7 = .pointer (some ⟨a', 0, none⟩) ∧ Hid (PlE B j a a' w wr)) (fun _ _ s _ => 25 - (intOf s).toNat)
      case atStart => exact ⟨0, a, a', Nat.zero_le _, by omega, rfl, rfl, rfl, HP⟩
      case round =>
        obtain ⟨j, a, a', hj, hj25, rfl, rfl, rfl, HP⟩ := hrel
        by_cases hlt : j < l.length
        · by_cases h25 : j < 25
          · obtain ⟨b, o, rfl, hra, hok⟩ := HA.out j hlt
            obtain ⟨x, hx⟩ : ∃ x, l[j] = x := ⟨_, rfl⟩
            rw [hx] at hra hok
            obtain ⟨m, wv, d, hv, wv', r, hP, hbl⟩ := HP.out
            have hra : wr.rangeAt b (o + j * 8) (actL x) := fun k v hv => (hbl.cell (by rw [← HB.out]; exact World.block_lt_of_cell? w _ (hra k v hv))).trans (hra k v hv)
            have HRa := Lib.hid hra
            have HOk := Lib.hid hok
            have HPl := Lib.hid hP
            have HBl := Lib.hid hbl
            clear hra hok hP hbl hx
            go_wp2_with (with_reducible refine park_at (.load 35 _) ?_; intro pq hq)
            refine hq.out ?_
            clear hq
            refine wpList_load_mid rfl 35 _ rfl b (o + j * 8) rfl (actL x) _ HRa.out underAct rfl sizeAct ?_
            obtain ⟨av, hav⟩ : ∃ av, (Value.agg (actL x).toArray) = av := ⟨_, rfl⟩
            have HAv := Lib.hid hav
            rw [hav]
            clear hav
            go_wp2_with (with_reducible refine park_at (.alloc 35) ?_; intro pq hq)
            refine hq.out ?_
            clear hq
            refine wpList_allocAct rfl rfl ?_
            have HR5 : Hid ((wr.alloc (.cells zAct.toArray 35)).heap[wr.heap.size]? = some (.cells zAct.toArray 35 (0, 0))) := heap_alloc_new wr _
            have HB5 : Hid (Below wr.heap.size wr (wr.alloc (.cells zAct.toArray 35))) := (Below.refl _ _).alloc (Nat.le_refl _) _
            generalize (wr.alloc (.cells zAct.toArray 35)) = w5 at HR5 HB5 ⊢
            obtain ⟨q, hqq⟩ : ∃ q, wr.heap.size = q := ⟨_, rfl⟩
            have HQ := Lib.hid hqq
            rw [hqq] at HR5 HB5 ⊢
            clear hqq
            go_wp2_with (with_reducible refine park_at (.store 35 _ _) ?_; intro pq hq)
            refine hq.out ?_
            clear hq
            refine wpList_storeRow rfl 35 _ _ rfl q rfl (actL x) zAct HAv.out.symm sizeAct rfl (actL_one x) HR5.out ?_
            intro w6 hr6 hk6
            have HB6 : Hid (Below q wr w6) := HB5.out.trans (hk6.below (Nat.le_of_lt (Array.getElem?_eq_some_iff.1 HR5.out).1) (fun k hk e => by omega))
            have HP6 : Hid (Pl B j a a' w6 m wv d hv wv' r) := HPl.out.below (by rw [HQ.out]; exact HB6.out)
            have HBl6 : Hid (Below B w w6) := HBl.out.trans (HB6.out.mono (by rw [← HQ.out]; exact HPl.out.base))
            have t0 : w6.cell? ⟨q, 0, none⟩ = some (.int .i64 x.kind) := by rw [cell_of_row _ _ _ _ _ _ hr6.out]; rfl
            have HF : Hid ((∀ k, Foot a m wv k → k < q) ∧ (∀ k, FootR a' hv wv' k → k < q)) := Lib.hid (by rw [← HQ.out]; exact ⟨fun k hk => (HPl.out.disk.foot k hk).2, fun k hk => (HPl.out.ref.foot k hk).2⟩)
            have HQ6 : Hid (q < w6.heap.size) := (Array.getElem?_eq_some_iff.1 hr6.out).1
            have t1 : w6.cell? ⟨q, 1, none⟩ = some (.int .i64 x.i) := by rw [cell_of_row _ _ _ _ _ _ hr6.out]; rfl
            have t2 : w6.cell? ⟨q, 2, none⟩ = some (.int .i64 x.n) := by rw [cell_of_row _ _ _ _ _ _ hr6.out]; rfl
            have t3 : w6.cell? ⟨q, 3, none⟩ = some (.int .u8 (x.fill.toNat : Int)) := by rw [cell_of_row _ _ _ _ _ _ hr6.out]; rfl
            have HQB : Hid (B ≤ q) := Lib.hid (by rw [← HQ.out]; exact HPl.out.base)
            clear HB5 hk6 HAv HPl HBl HB6 HQ HR5
            go_upto_block 2 with fail
            go_cut [5, 7, 11, 12] (fun s5 s7 s11 s12 wc => ∃ (cc : Int) (a1 a2 : Nat), s5 = .pointer (some ⟨a1, 0, none⟩) ∧ s7 = .pointer (some ⟨a2, 0, none⟩) ∧ s11 = .int .i64 cc ∧ s12 = .int .i64 cc ∧ Hid (PlE B (j + 1) a1 a2 w wc))
            case first =>
              by_cases k0 : x.kind = 0
              · have e0 : (x.kind == (0 : Int)) = true := by simp [k0]
                clear k0 t0 t2 t3
                obtain ⟨av, hav⟩ : ∃ av, (Value.agg (actL x).toArray) = av := ⟨_, rfl⟩
                obtain ⟨nb, HNb, HBody⟩ : ∃ nb, Hid (nb ≤ 256) ∧ Hid (∀ w', Calls Try.prog 7 #[av] w' (RetL w' nb)) := by
                  cases hs : x.short
                  · exact ⟨256, Lib.hid (by omega), fun w' => by rw [← hav]; unfold actL; rw [hs]; exact body_full w' _ _ _ _ _ _ _⟩
                  · exact ⟨255, Lib.hid (by omega), fun w' => by rw [← hav]; unfold actL; rw [hs]; exact body_short w' _ _ _ _ _ _ _⟩
                go_wp2_with (with_reducible refine park_at (.load 35 _) ?_; intro pq hq)
                refine hq.out ?_
                clear hq
                refine wpList_load_mid rfl 35 _ rfl q 0 rfl (actL x) _ (by have := World.rangeAt_of_block hr6.out 0 8; rw [Nat.zero_add] at this; simpa [actL] using this) underAct rfl sizeAct ?_
                rw [hav]
                clear hav
                go_wp2_with (first | (go_at_call 7; refine (HBody.out _).mono ?_; rintro e w7 ⟨g, c7, lb, rfl, hlb, hO7, hb7⟩; refine park ?_; intro pq hq))
                have hO7 := hO7.drew
                have HP7 : Hid (Pl B j a a' w7.drew m wv d hv wv' r) := (HP6.out.below hb7).below (Below.refl _ _).drew
                have HBl7 : Hid (Below B w w7.drew) := (HBl6.out.trans (hb7.mono (by have := HQB.out; have := HQ6.out; omega))).drew
                have t17 : w7.cell? ⟨q, 1, none⟩ = some (.int .i64 x.i) := (hb7.cell HQ6.out).trans t1
                have HG7 : Hid (w6.heap.size ≤ g ∧ g < w7.heap.size) := hO7.lt g rfl
                have HO7 := Lib.hid hO7
                have HLb := Lib.hid hlb.symm
                have HW8 := Lib.hid (Write_any HP7.out.disk HP7.out.rel HP7.out.base x.i (some ⟨g, 0, none⟩) c7 nb lb hlb.symm hO7.bytes (by have := HP7.out.bud; omega) (by have := HP7.out.steps; omega))
                have hrun := run_str (w := w7.drew) (m := nb) (c := c7) hlb.symm hO7.bytes
                obtain ⟨sb, hsb⟩ : ∃ sb, bstr lb = sb := ⟨_, rfl⟩
                have HSb := Lib.hid hsb
                rw [hsb] at hrun
                obtain ⟨cw, hcw⟩ : ∃ cw, r.putC x.i nb = cw := ⟨_, rfl⟩
                have HCw := Lib.hid hcw
                rw [hcw] at HW8
                have hS0 : w7.drew.cell? ⟨q, 1, none⟩ = some (.int .i64 x.i) ∧ (convert 36 9 (.slice (some ⟨g, 0, none⟩) nb c7)).run Try.prog w7.drew = .ok (.string sb) w7.drew := ⟨t17, hrun⟩
                have HS8 : Hid (∀ w8, Kept (Foot a m wv) w7.drew w8 → w8.cell? ⟨q, 1, none⟩ = some (.int .i64 x.i) ∧ (convert 36 9 (.slice (some ⟨g, 0, none⟩) nb c7)).run Try.prog w8 = .ok (.string sb) w8) := fun w8 hk =>
                  ⟨hk.cell t17 (fun h => by have := HF.out.1 q h; omega), by
                    have := run_str (w := w8) (m := nb) (c := c7) hlb.symm (hO7.bytes.kept hk (fun ad e h => by cases e; have : g < q := HF.out.1 _ h; have := HG7.out; have := HQ6.out; omega))
                    rw [hsb] at this; exact this⟩
                have HS9 : Hid (∀ w8 w9, Kept (Foot a m wv) w7.drew w8 → Kept (FootR a' hv wv') w8 w9 → w9.cell? ⟨q, 1, none⟩ = some (.int .i64 x.i) ∧ (convert 36 9 (.slice (some ⟨g, 0, none⟩) nb c7)).run Try.prog w9 = .ok (.string sb) w9) := fun w8 w9 hk hk' =>
                  ⟨hk'.cell (hk.cell t17 (fun h => by have := HF.out.1 q h; omega)) (fun h => by have := HF.out.2 q h; omega), by
                    have h8 : Bytes w8 (some ⟨g, 0, none⟩) lb := hO7.bytes.kept hk (fun ad e h => by cases e; have : g < q := HF.out.1 _ h; have := HG7.out; have := HQ6.out; omega)
                    have := run_str (w := w9) (m := nb) (c := c7) hlb.symm (h8.kept hk' (fun ad e h => by cases e; have : g < q := HF.out.2 _ h; have := HG7.out; have := HQ6.out; omega))
                    rw [hsb] at this; exact this⟩
                have HPut : Hid (∀ w8, Kept (Foot a m wv) w7.drew w8 → Calls Try.prog 9 #[.pointer (some ⟨a', 0, none⟩), .int .i64 x.i, .string sb] w8 (PostR B a' hv wv' (r.putM x.i lb) cw w8)) := fun w8 hk => by
                  have h1 := Pl.mid HP7.out hk
                  have := PutR_any h1 (Nat.le_trans HP7.out.base hk.size) x.i nb lb hlb.symm (by have := HP7.out.steps; rw [HP7.out.rel.steps] at this; omega) (by have := HP7.out.wait; rw [HP7.out.rel.wait] at this; omega)
                  rw [hsb, hcw] at this; exact this
                clear hlb hO7 hb7 hsb hcw HP6 HBl6 hr6 t1
                refine hq.out ?_
                clear hq
                go_wp2_with fail
                go_region_held3 (fun w' => w'.cell? ⟨q, 1, none⟩ = some (.int .i64 x.i) ∧ (convert 36 9 (.slice (some ⟨g, 0, none⟩) nb c7)).run Try.prog w' = .ok (.string sb) w') (first | assumption) (first
                  | (go_at_call 8; (with_reducible refine HW8.out.mono ?_); intro e w8 hret; obtain ⟨rfl, wv8, d8, H8⟩ := hret; have hS8 : w8.cell? ⟨q, 1, none⟩ = some (.int .i64 x.i) ∧ (convert 36 9 (.slice (some ⟨g, 0, none⟩) nb c7)).run Try.prog w8 = .ok (.string sb) w8 := HS8.out w8 H8.out.2.2.1; have HR8 := HPut.out w8 H8.out.2.2.1)
                  | (go_at_call 9; (with_reducible refine HR8.mono ?_); intro e w9 hret9; obtain ⟨rfl, wv9, H9⟩ := hret9; have hS9 : w9.cell? ⟨q, 1, none⟩ = some (.int .i64 x.i) ∧ (convert 36 9 (.slice (some ⟨g, 0, none⟩) nb c7)).run Try.prog w9 = .ok (.string sb) w9 := HS9.out w8 w9 H8.out.2.2.1 H9.out.2.1))
                all_goals
                  have HN := Lib.hid (Pl.next HP7.out (by omega) H8.out H9.out)
                  have HBl9 : Hid (Below B w w9) := HBl7.out.trans (HN.out.2.below HP7.out.base (fun k hk h => by omega))
                  have HO9 : Hid (OwnB w9 w6.heap.size (.slice (some ⟨g, 0, none⟩) nb c7) lb) := (HO7.out.kept (H8.out.2.2.1) (fun k e hk => by cases e; have : g < q := HF.out.1 _ hk; have := HG7.out; have := HQ6.out; omega)).kept H9.out.2.1 (fun k e hk => by cases e; have : g < q := HF.out.2 _ hk; have := HG7.out; have := HQ6.out; omega)
                  have HFn : Hid ((∀ k, Foot a m wv8 k → ¬ k = g) ∧ (∀ k, FootR a' hv wv9 k → ¬ k = g)) := ⟨fun k hk e => by
                    rcases H8.out.2.2.2.1 k hk with h | h
                    · have := HF.out.1 k h; have := HG7.out; have := HQ6.out; omega
                    · have h : w7.heap.size ≤ k := h; have := HG7.out; omega, fun k hk e => by
                    rcases H9.out.2.2 k hk with h | h
                    · have := HF.out.2 k h; have := HG7.out; have := HQ6.out; omega
                    · have h8 : w7.heap.size ≤ w8.heap.size := H8.out.2.2.1.size; have := HG7.out; omega⟩
                  obtain ⟨z6, hz6⟩ : ∃ z6, w6.heap.size = z6 := ⟨_, rfl⟩
                  have HZ6 : Hid (B ≤ z6 ∧ z6 ≤ g) := Lib.hid (by have := HG7.out; have := HQ6.out; have := HQB.out; omega)
                  rw [hz6] at HO9
                  have hnb := HNb.out
                  clear HR8 hS8 hS9 hz6 H8 H9 hS0 HW8 HBody HS8 HS9 HPut t17 HP7 HBl7 hrun
                  go_wp2_with fail
                  obtain ⟨wn, rfl⟩ : ∃ wn : World, wn = w9 := ⟨_, rfl⟩
                  go_loopw [86] (fun s wq => ∃ k : Nat, k ≤ nb ∧ s = .int .i64 k ∧ ∃ lq, Hid (OwnB wq z6 (.slice (some ⟨g, 0, none⟩) nb c7) lq ∧ lq.length = nb ∧ Kept (fun k => k = g) wn wq)) (fun s _ => nb - (intOf s).toNat)
                  case atStart => exact ⟨0, Nat.zero_le _, rfl, _, HO9.out, HLb.out.symm, Kept.refl _ _⟩
                  case round =>
                    obtain ⟨k, hk, rfl, lq, HQQ⟩ := hrel
                    by_cases hkn : k < nb
                    · obtain ⟨q1, q2⟩ := HQQ.out.1.cells k (by rw [HQQ.out.2.1]; exact hkn)
                      have hu := ltu8 (at8 lq k)
                      go_wp2_with fail
                      go_roundw
                      case rel =>
                        refine ⟨k + 1, by omega, by go_num, _, ownB_setI HQQ.out.1 k _ ?_ ?_, by rw [List.length_set]; exact HQQ.out.2.1, HQQ.out.2.2.setCell (Or.inl rfl) _⟩
                        · omega
                        · omega
                      case measure => simp [intOf]; omega
                    · obtain rfl : k = nb := by omega
                      go_wp2_with fail
                      go_meet
                      case rel =>
                        exact ⟨cw, a, a', rfl, rfl, rfl, rfl, ⟨_, _, _, _, _, _, HN.out.1.kept HQQ.out.2.2 HFn.out.1 HFn.out.2, HBl9.out.trans (HQQ.out.2.2.below (Nat.le_trans HN.out.1.base (Nat.le_refl _)) (fun b hb e => by have := HZ6.out; omega))⟩⟩
              · have e0 : (x.kind == (0 : Int)) = false := by simpa using k0
                by_cases k1 : x.kind = 1
                · have e1 : (x.kind == (1 : Int)) = true := by simp [k1]
                  clear k0 k1 t0 t1 t2 t3 hr6
                  obtain ⟨cw, hcw⟩ : ∃ cw, r.syncC = cw := ⟨_, rfl⟩
                  have HS1 := Lib.hid (Sync_any HP6.out.disk HP6.out.rel HP6.out.ref.ok (by have := HP6.out.steps; omega) (by have := HP6.out.bud; have := HP6.out.wait; omega))
                  have HS2 : Hid (∀ w8, Kept (Foot a m wv) w6 w8 → Calls Try.prog 11 #[.pointer (some ⟨a', 0, none⟩)] w8 (PostR B a' hv wv' r.syncM cw w8)) := fun w8 hk => by
                    have := SyncR_any (Pl.mid HP6.out hk) (by have := HP6.out.steps; rw [HP6.out.rel.steps] at this; omega)
                    rw [hcw] at this; exact this
                  rw [hcw] at HS1
                  clear hcw
                  go_wp2_with (first
                    | (go_at_call 10; refine HS1.out.mono ?_; intro e w8 hret; obtain ⟨rfl, wv8, d8, H8⟩ := hret)
                    | (go_at_call 11; refine (HS2.out _ H8.out.2.2.1).mono ?_; intro e w9 hret9; obtain ⟨rfl, wv9, H9⟩ := hret9))
                  go_meet
                  case rel =>
                    have hN := Pl.next HP6.out (by omega) H8.out H9.out
                    exact ⟨cw, a, a', rfl, rfl, rfl, rfl, ⟨_, _, _, _, _, _, hN.1, HBl6.out.trans (hN.2.below HP6.out.base (fun k hk h => by omega))⟩⟩
                · have e1 : (x.kind == (1 : Int)) = false := by simpa using k1
                  by_cases k2 : x.kind = 2
                  · have e2 : (x.kind == (2 : Int)) = true := by simp [k2]
                    clear k0 k1 k2 t0 t1 t3 hr6
                    have HP7 : Hid (Pl B j a a' w6.drew m wv d hv wv' r) := HP6.out.below (Below.refl _ _).drew
                    obtain ⟨cw, hcw⟩ : ∃ cw, RefM.cutC x.n = cw := ⟨_, rfl⟩
                    have HS1 := Lib.hid (Cut_any HP7.out.disk HP7.out.rel x.n HOk.out.n.2)
                    have HS2 : Hid (∀ w8, Kept (Foot a m wv) w6.drew w8 → w8.cell? ⟨q, 2, none⟩ = some (.int .i64 x.n) ∧ Calls Try.prog 13 #[.pointer (some ⟨a', 0, none⟩), .int .i64 x.n] w8 (PostR B a' hv wv' (r.cut x.n) cw w8)) := fun w8 hk => by
                      have := CutR_any (Pl.mid HP7.out hk) x.n HOk.out.n.2
                      rw [hcw] at this; exact ⟨hk.cell t2 (fun h => by have := HF.out.1 q h; omega), this⟩
                    have HS3 : Hid (∀ w8 w9, w8.cell? ⟨q, 2, none⟩ = some (.int .i64 x.n) → Kept (FootR a' hv wv') w8 w9 → w9.cell? ⟨q, 2, none⟩ = some (.int .i64 x.n)) := fun w8 w9 hc hk => hk.cell hc (fun h => by have := HF.out.2 q h; omega)
                    rw [hcw] at HS1
                    have hS0 : w6.drew.cell? ⟨q, 2, none⟩ = some (.int .i64 x.n) := t2
                    clear hcw
                    go_wp2_with fail
                    go_region_held3 (fun w' => w'.cell? ⟨q, 2, none⟩ = some (.int .i64 x.n)) (first | assumption) (first
                      | (go_at_call 12; (with_reducible refine HS1.out.mono ?_); intro e w8 hret; obtain ⟨rfl, wv8, d8, H8⟩ := hret; obtain ⟨hS8, HR8⟩ := HS2.out w8 H8.out.2.2.1)
                      | (go_at_call 13; (with_reducible refine HR8.mono ?_); intro e w9 hret9; obtain ⟨rfl, wv9, H9⟩ := hret9; have hS9 := HS3.out w8 w9 hS8 H9.out.2.1))
                    all_goals
                      clear HR8
                      go_wp2_with fail
                      go_meet
                      case rel =>
                        have hN := Pl.next HP7.out (by omega) H8.out H9.out
                        exact ⟨cw, a, a', rfl, rfl, rfl, rfl, ⟨_, _, _, _, _, _, hN.1, HBl6.out.drew.trans (hN.2.below HP7.out.base (fun k hk h => by omega))⟩⟩
                  · have e2 : (x.kind == (2 : Int)) = false := by simpa using k2
                    by_cases k3 : x.kind = 3
                    · have e3 : (x.kind == (3 : Int)) = true := by simp [k3]
                      have t5 : w6.cell? ⟨q, 5, none⟩ = some (.slice x.kA x.K.length x.kc) := by rw [cell_of_row _ _ _ _ _ _ hr6.out]; rfl
                      have t6 : w6.cell? ⟨q, 6, none⟩ = some (.int .i64 x.torn) := by rw [cell_of_row _ _ _ _ _ _ hr6.out]; rfl
                      have t7 : w6.cell? ⟨q, 7, none⟩ = some (.int .i64 x.at_) := by rw [cell_of_row _ _ _ _ _ _ hr6.out]; rfl
                      have HQ7 : Hid (∀ w', Below w6.heap.size w6 w' → w'.cell? ⟨q, 5, none⟩ = some (.slice x.kA x.K.length x.kc) ∧ w'.cell? ⟨q, 6, none⟩ = some (.int .i64 x.torn) ∧ w'.cell? ⟨q, 7, none⟩ = some (.int .i64 x.at_)) := fun w' hb => ⟨(hb.cell HQ6.out).trans t5, (hb.cell HQ6.out).trans t6, (hb.cell HQ6.out).trans t7⟩
                      have HBo : Hid (∀ w', Below w6.heap.size w6 w' → Bools w' x.kA x.K) := fun w' hb => HOk.out.K.below (by rw [HB.out]; exact HBl6.out.trans (hb.mono (by have := HQB.out; have := HQ6.out; omega)))
                      have HSm : Hid (∀ w', Below w6.heap.size w6 w' → Calls Try.prog 16 #[.pointer (some ⟨a, 0, none⟩), .pointer (some ⟨a', 0, none⟩)] w' fun e w2 => e = .returned (.bool true) ∧ Below w'.heap.size w' w2) := fun w' hb => same_calls (HP6.out.below hb).disk (HP6.out.below hb).ref HP6.out.rel
                      clear k0 k1 k2 k3 t0 t1 t2 t3 hr6
                      cases hlb : r.loseB x.torn x.at_
                      · have HS1 := Lib.hid (Lose_yes HP6.out.disk HP6.out.rel HP6.out.ref.ok x.kA x.kc x.K x.torn x.at_ (HBo.out w6 (Below.refl _ _)) HOk.out.Kl hlb HOk.out.torn HOk.out.at_)
                        have HS2 : Hid (∀ w', Below w6.heap.size w6 w' → Calls Try.prog 15 #[.pointer (some ⟨a', 0, none⟩), .agg #[.slice x.kA x.K.length x.kc, .int .i64 x.torn, .int .i64 x.at_]] w' (RetN w' (r.lose x.K x.torn x.at_))) := fun w' hb => LoseR_yes (HP6.out.below hb).ref x.kA x.kc x.K x.torn x.at_ (HBo.out w' hb) HOk.out.Kl hlb HOk.out.torn HOk.out.at_
                        clear hlb
                        go_wp2_with (first
                          | (go_at_call 14; refine HS1.out.mono ?_; rintro e w8 ⟨d8, hR8, hw8, hbd8, hst8, a8, m8, rfl, hD8, hb8⟩; have H8 := Lib.hid (And.intro hR8 (And.intro hw8 (And.intro hbd8 (And.intro hst8 (And.intro hD8 hb8))))); clear hR8 hw8 hbd8 hst8 hD8 hb8; obtain ⟨u5, u6, u7⟩ := HQ7.out w8 H8.out.2.2.2.2.2)
                          | (go_at_call 15; refine (HS2.out w8 H8.out.2.2.2.2.2).mono ?_; rintro e w9 ⟨a9, hv9, rfl, hR9, hb9⟩; have H9 := Lib.hid (And.intro hR9 hb9); clear hR9 hb9; have HB9 : Hid (Below w6.heap.size w6 w9) := bup H8.out.2.2.2.2.2 H9.out.2 (Nat.le_refl _))
                          | (go_at_call 16; refine (HSm.out w9 HB9.out).mono ?_; rintro e w10 ⟨rfl, hb10⟩; have HB10 := Lib.hid hb10; clear hb10))
                        go_meet
                        case rel =>
                          obtain ⟨hR8, hw8, hbd8, hst8, hD8, hb8⟩ := H8.out
                          have hB6 : B ≤ w6.heap.size := HP6.out.base
                          refine ⟨0, a8, a9, rfl, rfl, rfl, rfl, ⟨_, _, _, _, _, _, Pl.below (w := w9) ⟨(hD8.below H9.out.2).base' hB6, H9.out.1.base' (Nat.le_trans hB6 hb8.size), hR8, ?_, by rw [hw8]; simp, by rw [hbd8]; have := HP6.out.bud; omega, by rw [hst8]; omega, Nat.le_trans hB6 HB9.out.size⟩ HB10.out, HBl6.out.trans ((HB9.out.trans (HB10.out.mono HB9.out.size)).mono hB6)⟩⟩
                          intro k hk hk'
                          have h1 := (hD8.foot k hk).2
                          have h2 := (H9.out.1.foot k hk').1
                          omega
                      · have HS1 := Lib.hid (Lose_no HP6.out.disk HP6.out.rel (.slice x.kA x.K.length x.kc) x.torn x.at_ hlb)
                        have HS2 : Hid (∀ w', Below w6.heap.size w6 w' → Calls Try.prog 15 #[.pointer (some ⟨a', 0, none⟩), .agg #[.slice x.kA x.K.length x.kc, .int .i64 x.torn, .int .i64 x.at_]] w' fun e w2 => e = .returned (.tuple #[.pointer none, .int .i64 2]) ∧ Below w'.heap.size w' w2) := fun w' hb => LoseR_no (HP6.out.below hb).ref _ x.torn x.at_ hlb
                        clear hlb
                        go_wp2_with (first
                          | (go_at_call 14; refine HS1.out.mono ?_; rintro e w8 ⟨rfl, hb8⟩; have H8 := Lib.hid hb8; clear hb8; obtain ⟨u5, u6, u7⟩ := HQ7.out w8 H8.out)
                          | (go_at_call 15; refine (HS2.out w8 H8.out).mono ?_; rintro e w9 ⟨rfl, hb9⟩; have HB9 : Hid (Below w6.heap.size w6 w9) := bup H8.out hb9 (Nat.le_refl _); clear hb9)
                          | (go_at_call 16; refine (HSm.out w9 HB9.out).mono ?_; rintro e w10 ⟨rfl, hb10⟩; have HB10 : Hid (Below w6.heap.size w6 w10) := bup HB9.out hb10 (Nat.le_refl _); clear hb10))
                        go_meet
                        case rel =>
                          have hP := HP6.out.below HB10.out
                          exact ⟨2, a, a', rfl, rfl, rfl, rfl, ⟨_, _, _, _, _, _, ⟨hP.disk, hP.ref, hP.rel, hP.apart, by have := hP.wait; omega, by have := hP.bud; omega, by have := hP.steps; omega, hP.base⟩, HBl6.out.trans (HB10.out.mono HP6.out.base)⟩⟩
                    · have e3 : (x.kind == (3 : Int)) = false := by simpa using k3
                      by_cases k4 : x.kind = 4
                      · have e4 : (x.kind == (4 : Int)) = true := by simp [k4]
                        clear k0 k1 k2 k3 k4 t0 hr6
                        have HP7 : Hid (Pl B j a a' w6.drew m wv d hv wv' r) := HP6.out.below (Below.refl _ _).drew
                        obtain ⟨cw, hcw⟩ : ∃ cw, r.spoilC x.i x.n = cw := ⟨_, rfl⟩
                        have HS1 := Lib.hid (Spoil_any HP7.out.disk HP7.out.rel x.i x.n x.fill (by have := HP7.out.bud; omega))
                        have HS2 : Hid (∀ w8, Kept (Foot a m wv) w6.drew w8 → (w8.cell? ⟨q, 1, none⟩ = some (.int .i64 x.i) ∧ w8.cell? ⟨q, 2, none⟩ = some (.int .i64 x.n) ∧ w8.cell? ⟨q, 3, none⟩ = some (.int .u8 (x.fill.toNat : Int))) ∧ Calls Try.prog 18 #[.pointer (some ⟨a', 0, none⟩), .int .i64 x.i, .int .i64 x.n, .int .u8 (x.fill.toNat : Int)] w8 (PostR B a' hv wv' (r.spoilM x.i x.n x.fill) cw w8)) := fun w8 hk => by
                          have := SpoilR_any (Pl.mid HP7.out hk) (Nat.le_trans HP7.out.base hk.size) x.i x.n x.fill
                          rw [hcw] at this; exact ⟨⟨hk.cell t1 (fun h => by have := HF.out.1 q h; omega), hk.cell t2 (fun h => by have := HF.out.1 q h; omega), hk.cell t3 (fun h => by have := HF.out.1 q h; omega)⟩, this⟩
                        have HS3 : Hid (∀ w8 w9, (w8.cell? ⟨q, 1, none⟩ = some (.int .i64 x.i) ∧ w8.cell? ⟨q, 2, none⟩ = some (.int .i64 x.n) ∧ w8.cell? ⟨q, 3, none⟩ = some (.int .u8 (x.fill.toNat : Int))) → Kept (FootR a' hv wv') w8 w9 → w9.cell? ⟨q, 1, none⟩ = some (.int .i64 x.i) ∧ w9.cell? ⟨q, 2, none⟩ = some (.int .i64 x.n) ∧ w9.cell? ⟨q, 3, none⟩ = some (.int .u8 (x.fill.toNat : Int))) := fun w8 w9 hc hk =>
                          ⟨hk.cell hc.1 (fun h => by have := HF.out.2 q h; omega), hk.cell hc.2.1 (fun h => by have := HF.out.2 q h; omega), hk.cell hc.2.2 (fun h => by have := HF.out.2 q h; omega)⟩
                        rw [hcw] at HS1
                        have hS0 : w6.drew.cell? ⟨q, 1, none⟩ = some (.int .i64 x.i) ∧ w6.drew.cell? ⟨q, 2, none⟩ = some (.int .i64 x.n) ∧ w6.drew.cell? ⟨q, 3, none⟩ = some (.int .u8 (x.fill.toNat : Int)) := ⟨t1, t2, t3⟩
                        clear hcw
                        go_wp2_with fail
                        go_region_held3 (fun w' => w'.cell? ⟨q, 1, none⟩ = some (.int .i64 x.i) ∧ w'.cell? ⟨q, 2, none⟩ = some (.int .i64 x.n) ∧ w'.cell? ⟨q, 3, none⟩ = some (.int .u8 (x.fill.toNat : Int))) (first | assumption) (first
                          | (go_at_call 17; (with_reducible refine HS1.out.mono ?_); intro e w8 hret; obtain ⟨rfl, wv8, d8, H8⟩ := hret; obtain ⟨hS8, HR8⟩ := HS2.out w8 H8.out.2.2.1)
                          | (go_at_call 18; (with_reducible refine HR8.mono ?_); intro e w9 hret9; obtain ⟨rfl, wv9, H9⟩ := hret9; have hS9 := HS3.out w8 w9 hS8 H9.out.2.1))
                        all_goals
                          clear HR8
                          go_wp2_with fail
                          go_meet
                          case rel =>
                            have hN := Pl.next HP7.out (by omega) H8.out H9.out
                            exact ⟨cw, a, a', rfl, rfl, rfl, rfl, ⟨_, _, _, _, _, _, hN.1, HBl6.out.drew.trans (hN.2.below HP7.out.base (fun k hk h => by omega))⟩⟩
                      · have e4 : (x.kind == (4 : Int)) = false := by simpa using k4
                        clear k0 k1 k2 k3 k4 t0 t1 t2 t3 hr6
                        go_wp2_with fail
                        go_meet
                        case rel =>
                          exact ⟨0, a, a', rfl, rfl, rfl, rfl, ⟨_, _, _, _, _, _, ⟨HP6.out.disk, HP6.out.ref, HP6.out.rel, HP6.out.apart, by have := HP6.out.wait; omega, by have := HP6.out.bud; omega, by have := HP6.out.steps; omega, HP6.out.base⟩, HBl6.out⟩⟩
            case rest =>
              obtain ⟨cc, a1, a2, rfl, rfl, rfl, rfl, HC⟩ := hcut
              obtain ⟨m2, wv2, d2, hv2, wv3, r2, hP2, hbl2⟩ := HC.out
              have HS := Lib.hid (same_calls hP2.disk hP2.ref hP2.rel)
              have HP2 := Lib.hid hP2
              have HBl2 := Lib.hid hbl2
              clear hP2 hbl2 t0 HP6 HBl6 hr6
              go_wp2_with (first | (go_at_call 16; refine HS.out.mono ?_; rintro e w9 ⟨rfl, hb9⟩; have HB9 := Lib.hid hb9; clear hb9))
              go_roundw
              case rel => exact ⟨j + 1, a1, a2, by omega, by omega, by go_num, rfl, rfl, ⟨_, _, _, _, _, _, HP2.out.below HB9.out, HBl2.out.trans (HB9.out.mono HP2.out.base)⟩⟩
              case measure => simp [intOf]; omega
          · go_wp2_with (first | (go_at_call 6; refine (HWk.out _).mono ?_; rintro e w3 ⟨rfl, hb3⟩))
            go_ret
            obtain ⟨_, _, _, _, _, _, hP, hb⟩ := HP.out
            rw [HB.out]
            exact ⟨rfl, bup hb hb3 (by rw [HB.out]; exact Nat.le_refl _)⟩
        · go_wp2_with (first | (go_at_call 6; refine (HWk.out _).mono ?_; rintro e w3 ⟨rfl, hb3⟩))
          go_ret
          obtain ⟨_, _, _, _, _, _, hP, hb⟩ := HP.out
          rw [HB.out]
          exact ⟨rfl, bup hb hb3 (by rw [HB.out]; exact Nat.le_refl _)⟩
end Go.Proofs.Ytehigfpdeoebdaa.Dsk
namespace Go.Proofs.Ytehigfpdeoebdaa
open Go.RowKit
theorem diskPlays_row (n : Int) (A : Option Addr) (c : Nat) (l : List Dsk.ActV) (w : World) (_g : -9223372036854775808 ≤ n ∧ n ≤ 9223372036854775807) (hA : Dsk.ActsAt w A l) (hl : l.length ≤ 9223372036854775807) :
    Calls Try.prog 3 #[.int .i64 n, .slice A l.length c] w fun e w' => e = .returned (.bool true) ∧ Below w.heap.size w w' := Dsk.diskPlays_calls n A c l w hA hl
end Go.Proofs.Ytehigfpdeoebdaa
