/- The document's Open. -/
import Derived.Test.YtibhoekbjgoanaaDoorStampR
set_option linter.unusedSimpArgs false
set_option linter.unusedVariables false
namespace Go.Proofs.YtibhoekbjgoanaaDoor
open Go.RowKit Go.Proofs.YtibhoekbjgoanaaDoor.Crc
/-- What the document's Open tells: the body lies where it lay. -/
def RetOR (w0 : World) (r : Nat × UInt8 × List UInt8 × Int) (e : Ending) (w' : World) : Prop :=
  ∃ A c, e = .returned (.tuple #[.int .u64 (r.1 : Int), .int .u8 (r.2.1.toNat : Int), .slice A r.2.2.1.length c, .int .i64 r.2.2.2]) ∧ Bytes w' A r.2.2.1 ∧ Below w0.heap.size w0 w'
theorem RetOR.no {w0 w' : World} {n : Int} (hb : Below w0.heap.size w0 w') : RetOR w0 (0, 0, [], n) (.returned (.tuple #[.int .u64 0, .int .u8 0, .slice none 0 0, .int .i64 n])) w' :=
  ⟨none, 0, rfl, Bytes.nil _ _, hb⟩
set_option maxRecDepth 100000 in
set_option maxHeartbeats 1000000 in
theorem refOpen7_calls (A : Option Addr) (n c : Nat) (l : List UInt8) (w : World) (hn : n = l.length) (hb : Bytes w A l) (hc : n ≤ c) :
    Calls Tryd.prog 21 #[.slice A n c] w (RetOR w (openS l)) := by
  by_cases h256 : l.length = 256
  · obtain ⟨b, o, rfl⟩ := hb.spot (by omega)
    have hn' : n = 256 := by omega
    subst hn'
    have HB := Lib.hid hb
    have HL := Lib.hid h256
    have h8 : 8 = (l.take 8).length := by rw [List.length_take, h256]; rfl
    have HZ := Lib.hid (refZero_calls (some ⟨b, o, none⟩) 8 c (l.take 8) w h8 (hb.take 8) (by omega))
    have H8 := Lib.hid h8
    clear hb hn h8
    cases hz : zeroB (l.take 8)
    · rw [hz] at HZ
      have s1 : ∀ nq, (convert 23 9 (.slice (some ⟨b, o, none⟩) 8 c)).run Tryd.prog (w.drewN nq) = .ok (.string (bstr (l.take 8))) (w.drewN nq) := fun nq =>
        run_str H8.out ((HB.out.take 8).below (below_drewN _ _))
      have s2 : ∀ nq, (convert 23 9 (.slice (some ⟨b, o + 248, none⟩) 8 (c - 248))).run Tryd.prog (w.drewN nq) = .ok (.string (bstr (l.drop 248))) (w.drewN nq) := fun nq =>
        run_str (by rw [List.length_drop, HL.out]) ((HB.out.drop 248).below (below_drewN _ _))
      have hcc : ¬ c = 248 := by omega
      cases he : (l.take 8 == l.drop 248)
      · have e : openS l = (0, 0, [], 23) := by unfold openS; rw [if_neg (by simpa using h256), if_neg (by rw [hz]; decide), if_pos he]
        rw [e]
        have t1 : ((bstr (l.take 8)).toList == (bstr (l.drop 248)).toList) = false := by rw [bstr_toList, bstr_toList, he]
        generalize bstr (l.take 8) = x1 at *
        generalize bstr (l.drop 248) = x2 at *
        clear e hz he h256
        go_enter Tryd.func21, Tryd.ntmps21
        go_wp2_with (go_at_call 47; refine HZ.out.mono ?_; rintro e w' ⟨rfl, rfl⟩)
        go_quiet (fail)
        go_wp2_with fail
        refine bodyPost_ret (results_tmp4 rfl _ _ _) rfl ?_
        exact RetOR.no (below_drewN _ _)
      · have h0 : openS l = if ¬ (openB (l.take 248)).2 = 0 then (0, 0, [], (openB (l.take 248)).2)
            else if at8 l 8 = 0 ∨ 233 < (at8 l 9).toNat ∨ zeroB ((l.take 244).drop (10 + (at8 l 9).toNat)) = false then (0, 0, [], 22)
            else (natB (l.take 8), at8 l 8, ((l.take 244).drop 10).take (at8 l 9).toNat, 0) := by
          unfold openS; rw [if_neg (by simpa using h256), if_neg (by rw [hz]; decide), if_neg (by rw [he]; decide)]
        have HO := Lib.hid h0
        have t1 : ((bstr (l.take 8)).toList == (bstr (l.drop 248)).toList) = true := by rw [bstr_toList, bstr_toList, he]
        generalize bstr (l.take 8) = x1 at *
        generalize bstr (l.drop 248) = x2 at *
        clear h0 hz he h256
        go_enter Tryd.func21, Tryd.ntmps21
        go_wp2_with (go_at_call 47; refine HZ.out.mono ?_; rintro e w' ⟨rfl, rfl⟩)
        go_quiet (fail)
        have HQ1 : Hid (Below w.heap.size w (w.drewN nq)) := below_drewN _ _
        have HB1 := Lib.hid (HB.out.below HQ1.out)
        clear HZ HB s1 s2 t1
        generalize w.drewN nq = w1 at HQ1 HB1 ⊢
        have hop := refOpen_calls (some ⟨b, o, none⟩) c 248 (l.take 248) w1 (by rw [List.length_take, HL.out]; rfl) (HB1.out.take 248) (fun h => by cases h) (by omega) (by decide)
        have HOp := Lib.hid hop
        clear hop
        go_wp2_with (go_at_call 48; refine HOp.out.mono ?_; rintro e w2 ⟨rfl, hb2⟩; refine park ?_; intro q hq)
        have HQ2 := Lib.hid (HQ1.out.trans (hb2.mono HQ1.out.size))
        have HB2 := Lib.hid (HB1.out.below hb2)
        clear hb2 HOp HB1
        refine hq.out ?_
        clear hq
        obtain ⟨er, her⟩ : ∃ er, (openB (l.take 248)).2 = er := ⟨_, rfl⟩
        by_cases h0 : er = 0
        · subst h0
          rw [if_pos her, her]
          have hO : openS l = if at8 l 8 = 0 ∨ 233 < (at8 l 9).toNat ∨ zeroB ((l.take 244).drop (10 + (at8 l 9).toNat)) = false then (0, 0, [], 22)
            else (natB (l.take 8), at8 l 8, ((l.take 244).drop 10).take (at8 l 9).toNat, 0) := by rw [HO.out, if_neg (by rw [her]; decide)]
          clear HO her
          have HO := Lib.hid hO
          clear hO
          have HL2 : Hid ((l.take 244).length = 244) := by show _ = _; rw [List.length_take, HL.out]; rfl
          have x8 : w2.cell? ⟨b, o + 8, none⟩ = some (.int .u8 ((at8 l 8).toNat : Int)) := by
            obtain ⟨ad, h, hx⟩ := HB2.out 8 (by rw [HL.out]; decide); cases h; exact hx
          have x9 : w2.cell? ⟨b, o + 9, none⟩ = some (.int .u8 ((at8 l 9).toNat : Int)) := by
            obtain ⟨ad, h, hx⟩ := HB2.out 9 (by rw [HL.out]; decide); cases h; exact hx
          obtain ⟨u1, u2⟩ := ltu8 (at8 l 8)
          obtain ⟨u3, u4⟩ := ltu8 (at8 l 9)
          by_cases h8 : at8 l 8 = 0
          · have e8 : (((at8 l 8).toNat : Int) == 0) = true := by rw [h8]; rfl
            have e : openS l = (0, 0, [], 22) := by rw [HO.out, if_pos (.inl h8)]
            have E := Lib.hid e
            clear e h8 HO
            go_wp2_with fail
            refine bodyPost_ret (results_tmp4 rfl _ _ _) rfl ?_
            rw [E.out]
            exact RetOR.no HQ2.out
          · have e8 : (((at8 l 8).toNat : Int) == 0) = false := by
              rw [beq_eq_false_iff_ne]; intro h; exact h8 (UInt8.toNat_inj.1 (by simpa using h))
            by_cases h9 : 233 < (at8 l 9).toNat
            · have e9 : decide (((at8 l 9).toNat : Int) > 233) = true := by simp; omega
              have e : openS l = (0, 0, [], 22) := by rw [HO.out, if_pos (.inr (.inl h9))]
              have E := Lib.hid e
              clear e h8 HO
              go_wp2_with fail
              refine bodyPost_ret (results_tmp4 rfl _ _ _) rfl ?_
              rw [E.out]
              exact RetOR.no HQ2.out
            · have e9 : decide (((at8 l 9).toNat : Int) > 233) = false := by simp; omega
              obtain ⟨m, hm9⟩ : ∃ m, (at8 l 9).toNat = m := ⟨_, rfl⟩
              rw [hm9] at x9 e9 u3 u4 h9 HO
              have HM9 := Lib.hid hm9
              clear hm9
              have hz9 := refZero_calls (some ⟨b, o + (10 + m), none⟩) (244 - (10 + m)) (c - (10 + m)) ((l.take 244).drop (10 + m)) w2 (by rw [List.length_drop, HL2.out]) ((HB2.out.take 244).drop (10 + m)) (by omega)
              have hc6m : ¬ c = 10 + m := by omega
              cases hzb : zeroB ((l.take 244).drop (10 + m))
              · rw [hzb] at hz9
                have HZ9 := Lib.hid hz9
                have e : openS l = (0, 0, [], 22) := by rw [HO.out, if_pos (.inr (.inr hzb))]
                have E := Lib.hid e
                clear e h8 HO hz9 hzb
                go_wp2_with (go_at_call 47; refine HZ9.out.mono ?_; rintro e w' ⟨rfl, rfl⟩)
                refine bodyPost_ret (results_tmp4 rfl _ _ _) rfl ?_
                rw [E.out]
                exact RetOR.no HQ2.out
              · rw [hzb] at hz9
                have HZ9 := Lib.hid hz9
                have e : openS l = (natB (l.take 8), at8 l 8, ((l.take 244).drop 10).take m, 0) := by
                  rw [HO.out, if_neg]
                  rintro (h | h | h)
                  · exact h8 h
                  · exact h9 h
                  · rw [hzb] at h; cases h
                have E := Lib.hid e
                clear e h8 HO hz9 hzb
                have hbl : b < w2.heap.size := World.block_lt_of_cell? w2 _ x8
                have hb3 : Below w2.heap.size w2 (w2.alloc (.cells #[.slice (some ⟨b, o, none⟩) 256 c, .int .i64 0] 74)) := (Below.refl _ _).alloc (Nat.le_refl _) _
                go_wp2_with (go_at_call 47; refine HZ9.out.mono ?_; rintro e w' ⟨rfl, rfl⟩)
                have HRf : Hid (RfL (w2.alloc (.cells #[.slice (some ⟨b, o, none⟩) 256 c, .int .i64 0] 74)) w2.heap.size l) :=
                  ⟨some ⟨b, o, none⟩, c, by have h6 : l.length = 256 := HL.out; rw [h6]; exact heap_alloc_new w2 _, HB2.out.below hb3, by have h6 : l.length = 256 := HL.out; omega, fun ad h => by cases h; show b ≠ _; omega⟩
                have HB3 := Lib.hid (HB2.out.below hb3)
                have HQ3 := Lib.hid (HQ2.out.trans (hb3.mono HQ2.out.size))
                have y8 : (w2.alloc (.cells #[.slice (some ⟨b, o, none⟩) 256 c, .int .i64 0] 74)).cell? ⟨b, o + 8, none⟩ = some (.int .u8 ((at8 l 8).toNat : Int)) := (hb3.cell (p := ⟨b, o + 8, none⟩) hbl).trans x8
                obtain ⟨r, hr⟩ : ∃ r, w2.heap.size = r := ⟨_, rfl⟩
                have HBr : Hid (b ≠ r) := by show b ≠ r; omega
                have HWr : Hid (w.heap.size ≤ r) := by rw [← hr]; exact HQ2.out.size
                rw [hr] at HRf ⊢
                clear x8 x9 HZ9 HB2 HQ2 hb3 hbl hr
                generalize (w2.alloc (.cells #[.slice (some ⟨b, o, none⟩) 256 c, .int .i64 0] 74)) = w3 at HRf HB3 HQ3 y8 ⊢
                have i1 : IntKind.i64.wrap (10 + (m : Int)) = 10 + (m : Int) := IntWalk.i64_in _ (by omega)
                have i2 : (10 : Int) ≤ 10 + (m : Int) := by omega
                have i3 : 10 + (m : Int) ≤ (c : Int) := by omega
                have i4 : (10 + (m : Int)).toNat = 10 + m := by omega
                have i5 : 10 + m - 10 = m := by omega
                have i6 : ¬ c = 10 := by omega
                have hS0 : w3.drew.cell? ⟨b, o + 8, none⟩ = some (.int .u8 ((at8 l 8).toNat : Int)) ∧ Hid (Kept (fun j => j = r) w3 w3.drew) := ⟨y8, (Kept.refl _ _).drew⟩
                have hF := refRFixed_calls (w := w3.drew) (r := r) (l := l) (by exact HRf.out) 8 (by have h6 : l.length = 256 := HL.out; omega) (Nat.le_refl _)
                rw [show ((8 : Nat) : Int) = 8 from rfl] at hF
                have HF := Lib.hid hF
                clear hF
                have HY8 := Lib.hid y8
                clear y8
                go_region_held3 (fun w' => w'.cell? ⟨b, o + 8, none⟩ = some (.int .u8 ((at8 l 8).toNat : Int)) ∧ Hid (Kept (fun j => j = r) w3 w')) (first | exact hS0 | assumption) ((go_at_call 49; (with_reducible refine HF.out.mono ?_); rintro e w4 ⟨rfl, _, hk4⟩; have hS4 : w4.cell? ⟨b, o + 8, none⟩ = some (.int .u8 ((at8 l 8).toNat : Int)) ∧ Hid (Kept (fun j => j = r) w3 w4) := ⟨hk4.cell (p := ⟨b, o + 8, none⟩) HY8.out HBr.out, (Kept.refl _ _).drew.trans hk4⟩; clear hk4))
                all_goals
                  go_wp2_with fail
                  refine bodyPost_ret (results_tmp4 rfl _ _ _) rfl ?_
                  rw [E.out]
                  have hlen : (((l.take 244).drop 10).take m).length = m := by
                    have h6 : (l.take 244).length = 244 := HL2.out
                    rw [List.length_take, List.length_drop]; omega
                  refine ⟨some ⟨b, o + 10, none⟩, c - 10, ?_, ?_, ?_⟩
                  · simp [hlen]
                  · exact (((HB3.out.take 244).drop 10).take m).kept hS4.2.out (fun ad h => by cases h; exact HBr.out)
                  · exact HQ3.out.trans (hS4.2.out.below HQ3.out.size (fun j hj e => by have := HWr.out; omega))
        · have e1 : (er != 0) = true := by simpa using h0
          have e : openS l = (0, 0, [], er) := by rw [HO.out, if_pos (by rw [her]; exact h0), her]
          have E := Lib.hid e
          rw [if_neg (by rw [her]; exact h0), her]
          clear e h0 HO
          have her' := Lib.hid her
          clear her
          go_wp2_with fail
          refine bodyPost_ret (results_tmp4 rfl _ _ _) rfl ?_
          rw [E.out]
          exact RetOR.no HQ2.out
    · have e : openS l = (0, 0, [], 40) := by unfold openS; rw [if_neg (by simpa using h256), if_pos hz]
      rw [e]
      rw [hz] at HZ
      clear e hz h256
      go_enter Tryd.func21, Tryd.ntmps21
      go_wp2_with (go_at_call 47; refine HZ.out.mono ?_; rintro e w' ⟨rfl, rfl⟩)
      refine bodyPost_ret (results_tmp4 rfl _ _ _) rfl ?_
      exact RetOR.no (Below.refl _ _)
  · have e : openS l = (0, 0, [], 21) := by unfold openS; rw [if_pos h256]
    rw [e]
    have h2 : ((n : Int) != 256) = true := by simp; omega
    clear e hb hn
    go_enter Tryd.func21, Tryd.ntmps21
    go_wp2_with fail
    refine bodyPost_ret (results_tmp4 rfl _ _ _) rfl ?_
    exact RetOR.no (Below.refl _ _)
end Go.Proofs.YtibhoekbjgoanaaDoor
