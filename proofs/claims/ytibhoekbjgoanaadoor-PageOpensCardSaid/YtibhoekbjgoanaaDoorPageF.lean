/- Pages: the walks of Cells, Fill. -/
import Derived.Test.YtibhoekbjgoanaaDoorRowsO
set_option linter.unusedSimpArgs false
set_option linter.unusedVariables false
namespace Go.Proofs.YtibhoekbjgoanaaDoor
open Go.RowKit Go.Proofs.YtibhoekbjgoanaaDoor.Crc
def cellsOf (l : List UInt8) (N : Nat) (cs : List (List UInt8)) (i : Nat) : List UInt8 := (l.drop (8 + 2 * N + sizC (cs.take i))).take (sizC (cs.take (i + 1)) - sizC (cs.take i))
theorem PgL.endAt1 {l : List UInt8} {no : Nat} {k : UInt8} {cs : List (List UInt8)} (h : PgL l no k cs) (i : Nat) (hi : i < cs.length) : endB l (i : Int) = sizC (cs.take (i + 1)) := by
  have := h.endAt (i + 1) hi
  rwa [show ((i + 1 : Nat) : Int) - 1 = (i : Int) by omega] at this
theorem sizC_take_all (cs : List (List UInt8)) (i : Nat) : sizC (cs.take i) ≤ sizC cs := by
  have h := sizC_take_le cs i (max i cs.length) (by omega)
  rwa [List.take_of_length_le (by omega : cs.length ≤ max i cs.length)] at h
set_option maxRecDepth 100000 in
set_option maxHeartbeats 1000000 in
theorem Cells_calls (b o c : Nat) (l : List UInt8) (no : Nat) (k : UInt8) (cs : List (List UInt8)) (w : World) (hb : Bytes w (some ⟨b, o, none⟩) l) (hP : PgL l no k cs) (hno : no ≤ 2147483647) (hk : k ≠ 0) (hc : 256 ≤ c) (hcm : c ≤ 9223372036854775807) :
    Calls Tryd.prog 28 #[.slice (some ⟨b, o, none⟩) 256 c] w fun e w' => ∃ v, e = .returned v ∧ OwnRL w' w.heap.size v cs ∧ Below w.heap.size w w' := by
  have hl := hP.len
  have hf : 2 * cs.length + sizC cs ≤ 244 := hP.1
  have hCn := Count_calls (some ⟨b, o, none⟩) 256 c l w hl.symm hb hc hcm (by decide)
  rw [hP.cnt hno hk] at hCn
  have hCell := fun (w' : World) (h : Bytes w' (some ⟨b, o, none⟩) l) (i : Nat) (hi : i < cs.length) => cell_calls b o 256 c l i w' hl.symm h hl hc hcm (by omega) cs.length (sizC (cs.take i)) (sizC (cs.take (i + 1))) hP.count (hP.endAt i (by omega)) (hP.endAt1 i hi) (sizC_take_le _ _ _ (by omega)) (by have := sizC_take_all cs (i + 1); omega)
  have hCa := fun (i : Nat) (hi : i < cs.length) => hP.cellAt i hi
  obtain ⟨N, hN⟩ : ∃ N, cs.length = N := ⟨_, rfl⟩
  rw [hN] at hCn hf
  have HCn := Lib.hid hCn
  have HCell := Lib.hid hCell
  have HCa := Lib.hid hCa
  have HB := Lib.hid hb
  have HN := Lib.hid hN
  have HLen := Lib.hid hl
  have HGb : Hid (∀ wr : World, Below w.heap.size w wr → w.heap.size ≤ wr.heap.size) := fun wr h => h.size
  clear hCn hCell hCa hb hP hl hN hno hk
  go_enter Tryd.func28, Tryd.ntmps28
  go_wp2_with (go_at_call 25; (with_reducible refine HCn.out.mono ?_); rintro e w2 ⟨rfl, m2, rfl⟩)
  have HI : Hid (OwnRL (w.drewN m2) w.heap.size (.slice none 0 0) (cs.take 0) ∧ Below w.heap.size w (w.drewN m2)) := ⟨OwnRL.nil _ _, kept_drewN w m2⟩
  go_loopw [3, 7] (fun v i wr => ∃ k : Nat, k ≤ N ∧ i = .int .i64 (k : Int) ∧ Hid (OwnRL wr w.heap.size v (cs.take k) ∧ Below w.heap.size w wr)) (fun _ i _ => N - (intOf i).toNat)
  case atStart => exact ⟨0, Nat.zero_le _, rfl, HI⟩
  case round =>
    obtain ⟨k, hk, rfl, HR⟩ := hrel
    by_cases hlt : k < N
    · have hkc : k < cs.length := by rw [HN.out]; exact hlt
      have HBr := Lib.hid (HB.out.below HR.out.2)
      -- the empty row, and the cell
      have hAl : Below wr.heap.size wr (wr.alloc (Obj.cells #[] 5)) := (Below.refl _ _).alloc (Nat.le_refl _) _
      have hO1 : OwnB (wr.alloc (Obj.cells #[] 5)) wr.heap.size (.slice (some ⟨wr.heap.size, 0, none⟩) 0 0) [] := OwnB.lit wr wr.heap.size (Nat.le_refl _) [] [] rfl 0 rfl (by unfold maxLen; decide)
      have HO1 := Lib.hid hO1
      have HA1 := Lib.hid hAl
      have HCe := Lib.hid (HCell.out _ (HBr.out.below hAl) k hkc)
      have hck := HCa.out k hkc
      have hst : cs.take (k + 1) = cs.take k ++ [cs[k]] := List.take_succ_eq_append_getElem hkc
      obtain ⟨ck, hcke⟩ : ∃ ck, cs[k] = ck := ⟨_, rfl⟩
      rw [hcke] at hck hst
      have HCk := Lib.hid hck
      have HSt := Lib.hid hst
      clear hAl hO1 hck hst hcke
      obtain ⟨E0, hE0⟩ : ∃ E0, sizC (cs.take k) = E0 := ⟨_, rfl⟩
      obtain ⟨E1, hE1⟩ : ∃ E1, sizC (cs.take (k + 1)) = E1 := ⟨_, rfl⟩
      have hE01 : E0 ≤ E1 := by rw [← hE0, ← hE1]; exact sizC_take_le _ _ _ (by omega)
      have hE1s : 2 * N + E1 ≤ 244 := by rw [← hE1]; have := sizC_take_all cs (k + 1); omega
      rw [hE0, hE1] at HCe HCk
      rw [HN.out] at HCe HCk
      have HE := Lib.hid (And.intro hE0 hE1)
      clear hE0 hE1 hkc
      go_wp2_with (go_at_call 58; (with_reducible refine HCe.out.mono ?_); rintro e w3 ⟨rfl, m3, rfl⟩; refine park ?_; intro q hq)
      have HA3 : Hid (Below wr.heap.size wr ((wr.alloc (Obj.cells #[] 5)).drewN m3)) := HA1.out.trans ((kept_drewN _ m3).mono HA1.out.size)
      have HO3 : Hid (OwnB ((wr.alloc (Obj.cells #[] 5)).drewN m3) wr.heap.size (.slice (some ⟨wr.heap.size, 0, none⟩) 0 0) []) := HO1.out.below (kept_drewN _ m3)
      obtain ⟨g0, hg0⟩ : ∃ g0, wr.heap.size = g0 := ⟨_, rfl⟩
      obtain ⟨w3, hw3⟩ : ∃ w3, (wr.alloc (Obj.cells #[] 5)).drewN m3 = w3 := ⟨_, rfl⟩
      rw [hw3] at HA3 HO3 hq
      refine hq.out ?_
      clear hq
      go_wp2_with (with_reducible refine park_append ?_; intro q hq)
      refine hq.out ?_
      clear hq
      have hsl : ((l.drop (8 + 2 * N + E0)).take (E1 - E0)).length = E1 - E0 := by rw [List.length_take, List.length_drop, HLen.out]; omega
      refine wpList_append_bytes rfl _ _ rfl g0 _ [] rfl (by rw [← hg0]; exact HO3.out) (some ⟨b, o + (8 + 2 * N + E0), none⟩) (E1 - E0) (c - (8 + 2 * N + E0)) ck rfl (by rw [← HCk.out]; exact hsl.symm) (fun h => by cases h) (by rw [← HCk.out]; exact ((HBr.out.below HA3.out).drop _).take _) (by rw [← HCk.out, hsl]; simp; omega) (by rw [← hg0]; exact HA3.out.size) ?_
      intro v4 w4 hO4 hg4 hn4
      have hB4 : Below wr.heap.size wr w4 := HA3.out.grown hg4 HA3.out.size (fun k hk => by cases hk; exact Nat.le_refl _)
      obtain ⟨g4, c4, rfl⟩ : ∃ g4 c4, v4 = .slice (some ⟨g4, 0, none⟩) ck.length c4 := by
        rcases hO4.form with ⟨h, _⟩ | ⟨g, c', h, _⟩
        · have := (hn4.1 h).1; cases this
        · exact ⟨g, c', h⟩
      have HG0 : Hid (w.heap.size ≤ g0) := by show _ ≤ _; rw [← hg0]; exact HR.out.2.size
      have HB4 := Lib.hid hB4
      have HO4 := Lib.hid hO4
      obtain ⟨mk, hmk⟩ : ∃ mk, ck.length = mk := ⟨_, rfl⟩
      rw [hmk] at HO4 ⊢
      clear hg0 hw3 hO4 hg4 hn4 hB4 hsl hmk HCk HE
      go_wp2_with (with_reducible refine park_append ?_; intro q hq)
      refine hq.out ?_
      clear hq
      have hAl : Below w4.heap.size w4 (w4.alloc (Obj.cells #[.slice (some ⟨g4, 0, none⟩) mk c4] 23)) := (Below.refl _ _).alloc (Nat.le_refl _) _
      have hB5 : Below wr.heap.size wr (w4.alloc (Obj.cells #[.slice (some ⟨g4, 0, none⟩) mk c4] 23)) := HB4.out.trans (hAl.mono HB4.out.size)
      refine wpList_append_row rfl _ _ rfl w.heap.size _ (cs.take k) rfl (HR.out.1.below hB5) ⟨w4.heap.size, 0, none⟩ 1 (some ⟨g4, 0, none⟩) mk c4 ck rfl ?_ ((HO4.out.below hAl).base HG0.out) (by rw [List.length_take]; omega) (HR.out.2.trans (hB5.mono HR.out.2.size)).size ?_
      · rw [Addr.add_lit, cell_of_row _ _ _ _ _ _ (heap_alloc_new w4 _)]; rfl
      intro v6 w6 H6
      have HF : Hid (OwnRL w6 w.heap.size v6 (cs.take (k + 1)) ∧ Below w.heap.size w w6) := by
        refine ⟨by rw [HSt.out]; exact H6.out.1, (HR.out.2.trans (hB5.mono HR.out.2.size)).grown H6.out.2 (HR.out.2.trans (hB5.mono HR.out.2.size)).size (fun g hg => ?_)⟩
        obtain ⟨vs, h1, _⟩ := HR.out.1
        exact (World.ownsRow.lt h1 g hg).1
      clear hAl hB5 H6
      go_wp2_with fail
      go_roundw
      case rel => exact ⟨k + 1, by omega, by go_num, HF⟩
      case measure => simp [intOf]; omega
    · obtain rfl : k = N := by omega
      have HT : Hid (cs.take k = cs) := List.take_of_length_le (by rw [HN.out]; exact Nat.le_refl _)
      go_wp2_with fail
      go_ret
      exact ⟨_, rfl, by have := HR.out.1; rwa [HT.out] at this, HR.out.2⟩
/-- What Fill tells. -/
def fillP (no : Int) (k : UInt8) (ls : List (List UInt8)) : List UInt8 × Int := if no < 0 ∨ 2147483647 < no ∨ k = 0 then ([], 2) else if 2 * ls.length + sizC ls ≤ 244 then (pageB no.toNat k ls, 0) else ([], 32)
def FillI (w0 : World) (no : Int) (k : UInt8) (ls : List (List UInt8)) (j : Nat) (p e : Value) (wr : World) : Prop :=
  Below w0.heap.size w0 wr ∧ ((e = .int .i64 0 ∧ (0 ≤ no ∧ no ≤ 2147483647 ∧ k ≠ 0) ∧ fitC (ls.take j) ∧ ∃ g, w0.heap.size ≤ g ∧ p = .slice (some ⟨g, 0, none⟩) 256 256 ∧ BlkB wr g 5 (pageB no.toNat k (ls.take j))) ∨
    (∃ er : Int, er ≠ 0 ∧ e = .int .i64 er ∧ p = .slice none 0 0 ∧ fillP no k ls = ([], er)))
theorem bad_not {no : Int} {k : UInt8} (hg : 0 ≤ no ∧ no ≤ 2147483647 ∧ k ≠ 0) : ¬ (no < 0 ∨ 2147483647 < no ∨ k = 0) := by
  rintro (h | h | h)
  · omega
  · omega
  · exact hg.2.2 h
theorem fillP_room (no : Int) (k : UInt8) (ls : List (List UInt8)) (hg : 0 ≤ no ∧ no ≤ 2147483647 ∧ k ≠ 0) (j : Nat) (hj : j < ls.length) (h : 244 < 2 * j + sizC (ls.take j) + 2 + ls[j].length) : fillP no k ls = ([], 32) := by
  unfold fillP
  rw [if_neg (bad_not hg), if_neg]
  have h1 := sizC_take_all ls (j + 1)
  rw [List.take_succ_eq_append_getElem hj, sizC_append, sizC_cons, sizC_nil] at h1
  omega
set_option maxRecDepth 100000 in
set_option maxHeartbeats 1000000 in
theorem Fill_calls (no : Int) (k : UInt8) (A : Option Addr) (n c : Nat) (ls : List (List UInt8)) (w : World) (hn : n = ls.length) (hR : RowsB w A ls) (hm : n ≤ 9223372036854775807) :
    Calls Tryd.prog 13 #[.int .i64 no, .int .u8 (k.toNat : Int), .slice A n c] w (RetBN w (fillP no k ls).1 (fillP no k ls).2) := by
  have HN := Lib.hid hn
  have HR := Lib.hid hR
  have hNew : Calls Tryd.prog 15 #[.int .i64 no, .int .u8 (k.toNat : Int)] w fun e w' => ∃ p er, e = .returned (.tuple #[p, .int .i64 er]) ∧ Hid (FillI w no k ls 0 p (.int .i64 er) w') := by
    by_cases hb : no < 0 ∨ 2147483647 < no ∨ k = 0
    · refine (New_bad no k w hb).mono ?_
      rintro e w' ⟨rfl, rfl⟩
      exact ⟨_, 2, rfl, Below.refl _ _, .inr ⟨2, by decide, rfl, rfl, by unfold fillP; rw [if_pos hb]⟩⟩
    · have h1 : 0 ≤ no := by omega
      have h2 : no ≤ 2147483647 := by omega
      have h3 : ¬ k = 0 := fun h => hb (.inr (.inr h))
      obtain ⟨m, rfl⟩ := Int.eq_ofNat_of_zero_le h1
      refine (New_calls m k w (by omega) h3).mono ?_
      rintro e w' ⟨r, rfl, hr, hA, hb'⟩
      refine ⟨_, 0, rfl, hb', .inl ⟨rfl, ⟨h1, h2, h3⟩, fit_nil, r, hr, rfl, ?_⟩⟩
      rw [newB_page] at hA
      exact hA
  have HNew := Lib.hid hNew
  clear hn hR hNew
  go_enter Tryd.func13, Tryd.ntmps13
  go_wp2_with (go_at_call 15; (with_reducible refine HNew.out.mono ?_); rintro e w1 ⟨p, er, rfl, HI⟩)
  go_loopw [8, 9, 20] (fun p e i wr => ∃ j : Nat, j ≤ n ∧ i = .int .i64 (j : Int) ∧ Hid (FillI w no k ls j p e wr)) (fun _ _ i _ => n - (intOf i).toNat)
  case atStart => exact ⟨0, Nat.zero_le _, rfl, HI⟩
  case round =>
    obtain ⟨j, hj, rfl, HI2⟩ := hrel
    by_cases hlt : j < n
    · obtain ⟨b, o, rfl⟩ := HR.out.spot (by rw [← HN.out]; omega)
      obtain ⟨Ai, ci, hc, hs⟩ := (HR.out.below HI2.out.1).at j (by rw [← HN.out]; exact hlt)
      have hjl : j < ls.length := by rw [← HN.out]; exact hlt
      have hst : ls.take (j + 1) = ls.take j ++ [ls[j]] := List.take_succ_eq_append_getElem hjl
      have hroom := fun hg => fillP_room no k ls hg j hjl
      obtain ⟨bl, hbl⟩ : ∃ bl, ls[j] = bl := ⟨_, rfl⟩
      rw [hbl] at hc hs hst hroom
      have HRoom := Lib.hid hroom
      have HSt := Lib.hid hst
      have HS := Lib.hid hs
      obtain ⟨m, hm2⟩ : ∃ m, bl.length = m := ⟨_, rfl⟩
      rw [hm2] at hc HS
      have HM := Lib.hid hm2
      have HJ : Hid ((ls.take j).length = j) := by show _ = _; rw [List.length_take]; omega
      clear hjl hst hbl hs hroom hm2
      rcases HI2.out.2 with ⟨rfl, hg, hf, g, hgw, rfl, hA⟩ | ⟨er, her, rfl, rfl, hfp⟩
      · have hP := pgl_page no.toNat k (ls.take j) hf
        have hf' : 2 * (ls.take j).length + sizC (ls.take j) ≤ 244 := hf
        by_cases hroom : 2 * (ls.take j).length + sizC (ls.take j) + 2 + bl.length ≤ 244
        · have hfit : fitC (ls.take j ++ [bl]) := by unfold fitC; rw [List.length_append, sizC_append, sizC_cons, sizC_nil, List.length_singleton]; omega
          have hin := Insert_calls (some ⟨g, 0, none⟩) 256 _ no.toNat k (ls.take j) [] Ai m ci bl wr hA.bytes (by rw [List.append_nil]; exact hP) (by omega) hg.2.2 (Nat.le_refl _) (by decide) HM.out.symm HS.out.2.1 hfit
          rw [HJ.out] at hin
          have HIn := Lib.hid hin
          have HG := Lib.hid hg
          have HFit := Lib.hid hfit
          clear hg hf hf' hP hA hroom hfit hin
          go_wp2_with (go_at_call 26; (with_reducible refine HIn.out.mono ?_); rintro e w3 ⟨g3, rfl, hr3, hA3, hb3⟩)
          have HF : Hid (FillI w no k ls (j + 1) (.slice (some ⟨g3, 0, none⟩) 256 256) (.int .i64 0) w3) := by
            refine ⟨HI2.out.1.trans (hb3.mono HI2.out.1.size), .inl ⟨rfl, HG.out, by rw [HSt.out]; exact HFit.out, g3, Nat.le_trans HI2.out.1.size hr3, rfl, by rw [HSt.out]; exact hA3⟩⟩
          go_roundw
          case rel => exact ⟨j + 1, by omega, by go_num, HF⟩
          case measure => simp [intOf]; omega
        · have hin := Insert_room (some ⟨g, 0, none⟩) 256 _ no.toNat k (ls.take j) j Ai m ci wr hA.bytes hP (by omega) hg.2.2 (Nat.le_refl _) (by decide) (by rw [HJ.out]; exact Nat.le_refl _) (by have := HS.out.2.2.1; have := HS.out.2.2.2.1; omega) (by rw [← HM.out]; omega)
          have HIn := Lib.hid hin
          have HFp := Lib.hid (HRoom.out hg (by rw [HJ.out] at hroom; omega))
          clear hg hf hf' hP hA hroom hin
          go_wp2_with (go_at_call 26; (with_reducible refine HIn.out.mono ?_); rintro e w3 ⟨rfl, hb3⟩)
          have HF : Hid (FillI w no k ls (j + 1) (.slice none 0 0) (.int .i64 32) w3) :=
            ⟨HI2.out.1.trans (hb3.mono HI2.out.1.size), .inr ⟨32, by decide, rfl, rfl, HFp.out⟩⟩
          go_roundw
          case rel => exact ⟨j + 1, by omega, by go_num, HF⟩
          case measure => simp [intOf]; omega
      · have d1 : (er == 0) = false := by simpa using her
        have HF : Hid (FillI w no k ls (j + 1) (.slice none 0 0) (.int .i64 er) wr) := ⟨HI2.out.1, .inr ⟨er, her, rfl, rfl, hfp⟩⟩
        clear her hfp
        go_wp2_with fail
        go_roundw
        case rel => exact ⟨j + 1, by omega, by go_num, HF⟩
        case measure => simp [intOf]; omega
    · obtain rfl : j = n := by omega
      have HT : Hid (ls.take j = ls) := List.take_of_length_le (by rw [HN.out]; exact Nat.le_refl _)
      rcases HI2.out.2 with ⟨rfl, hg, hf, g, hgw, rfl, hA⟩ | ⟨er, her, rfl, rfl, hfp⟩
      · have HG := Lib.hid hg
        have HF := Lib.hid hf
        have HA := Lib.hid hA
        have HGw := Lib.hid hgw
        clear hg hf hA hgw
        go_wp2_with fail
        go_ret2
        have hf := HF.out
        have hA := HA.out
        rw [HT.out] at hf hA
        have hfp : fillP no k ls = (pageB no.toNat k ls, 0) := by
          unfold fillP
          have := HG.out
          rw [if_neg (bad_not this), if_pos (show 2 * ls.length + sizC ls ≤ 244 from hf)]
        rw [hfp]
        exact RetBN.mk (OwnB.of_blk hA (pageB_length _ _ _ hf) HGw.out) HI2.out.1
      · have d1 : (er != 0) = true := by simpa using her
        have HFp := Lib.hid hfp
        clear her hfp
        go_wp2_with fail
        go_ret2
        rw [HFp.out]
        exact RetBN.mk (World.ownsRow_nil _ _ _ _) HI2.out.1
end Go.Proofs.YtibhoekbjgoanaaDoor
