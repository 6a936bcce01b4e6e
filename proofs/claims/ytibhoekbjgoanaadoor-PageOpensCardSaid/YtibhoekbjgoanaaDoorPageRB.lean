/- The document's Bytes. -/
import Derived.Test.YtibhoekbjgoanaaDoorPageRT
import Derived.Deep.RegionHeld3
set_option linter.unusedSimpArgs false
set_option linter.unusedVariables false
namespace Go.Proofs.YtibhoekbjgoanaaDoor
open Go.RowKit Go.Proofs.YtibhoekbjgoanaaDoor.Crc
theorem Below.up {B : Nat} {w a b : World} (h : Below B w a) (k : Below a.heap.size a b) (hB : B ≤ w.heap.size) : Below B w b := h.trans (k.mono (Nat.le_trans hB h.size))
set_option maxRecDepth 100000 in
set_option maxHeartbeats 2000000 in
theorem refPBytes_calls (no : Nat) (k : UInt8) (A : Option Addr) (n c : Nat) (ls : List (List UInt8)) (w : World) (hno : no ≤ 2147483647) (hn : n = ls.length) (hR : RowsB w A ls) (hf : fitC ls) :
    Calls Tryd.prog 37 #[.agg #[.int .i64 (no : Int), .int .u8 (k.toNat : Int), .slice A n c]] w (RetB w (pageB no k ls)) := by
  have hf' : 2 * ls.length + sizC ls ≤ 244 := hf
  have hn122 : n ≤ 122 := by omega
  have HN := Lib.hid hn
  obtain ⟨S, hS⟩ : ∃ S, sizC ls = S := ⟨_, rfl⟩
  have HS := Lib.hid hS
  have hS244 : 2 * n + S ≤ 244 := by omega
  have HT0 := fun (w' : World) (h : RowsB w' A ls) => refTaken_calls A n c ls w' hn h (by omega)
  rw [hS, ← hn] at HT0
  have HT := Lib.hid HT0
  have HF := Lib.hid (fun (x : Nat) (hx : x ≤ 2147483647) (s : Nat) (hs : s ≤ 8) (w' : World) => refFixed_calls x (by omega) s hs w')
  have HNo := Lib.hid hno
  have HR := Lib.hid hR
  have HFi := Lib.hid hf
  clear hn hS HT0 hR hf hf'
  go_enter Tryd.func37, Tryd.ntmps37
  go_wp2_with fail
  obtain ⟨B, hB⟩ : ∃ B, w.heap.size = B := ⟨_, rfl⟩
  have hbox : (w.alloc (Obj.cells #[.int .i64 (no : Int), .int .u8 (k.toNat : Int), .slice A n c] 63)).heap[B]? = some (.cells #[.int .i64 (no : Int), .int .u8 (k.toNat : Int), .slice A n c] 63 (0, 0)) := by rw [← hB]; exact heap_alloc_new w _
  have hbw : Below w.heap.size w (w.alloc (Obj.cells #[.int .i64 (no : Int), .int .u8 (k.toNat : Int), .slice A n c] 63)) := (Below.refl _ _).alloc (Nat.le_refl _) _
  rw [hB]
  obtain ⟨w1, hw1⟩ : ∃ w1, w.alloc (Obj.cells #[.int .i64 (no : Int), .int .u8 (k.toNat : Int), .slice A n c] 63) = w1 := ⟨_, rfl⟩
  rw [hw1] at hbox hbw ⊢
  have hBlt : B < w1.heap.size := (Array.getElem?_eq_some_iff.1 hbox).1
  have HX : Hid (∀ wr : World, Below w1.heap.size w1 wr → wr.cell? ⟨B, 0, none⟩ = some (.int .i64 (no : Int)) ∧ wr.cell? ⟨B, 1, none⟩ = some (.int .u8 (k.toNat : Int)) ∧ wr.cell? ⟨B, 2, none⟩ = some (.slice A n c) ∧ RowsB wr A ls) := by
    intro wr hwr
    have hb := hwr.block B hBlt
    rw [hbox] at hb
    refine ⟨?_, ?_, ?_, (HR.out.below hbw).below hwr⟩
    all_goals (rw [cell_of_row _ _ _ _ _ _ hb]; rfl)
  have HB1 := Lib.hid hbw
  clear hbox hbw hw1 hB hBlt
  obtain ⟨x0, x1, x2, hR1⟩ := HX.out w1 (Below.refl _ _)
  have e1 : IntKind.i64.wrap (2 * (n : Int)) = 2 * (n : Int) := IntWalk.i64_in _ (by omega)
  have e2 : ((2 * n + S : Nat) : Int) - 2 * (n : Int) = (S : Int) := by omega
  have e3 : IntKind.i64.wrap (((2 * n + S : Nat) : Int) - 2 * (n : Int)) = (S : Int) := by rw [e2]; exact IntWalk.i64_in _ (by omega)
  have HTk := Lib.hid (fun m => HT.out (w1.drewN m) (hR1.below (kept_drewN w1 m)))
  clear e2 hR1
  go_quiet ((go_at_call 36; exact Calls.quiet_of_same ((HTk.out _).mono fun e w' h => ⟨h.1, h.2.symm⟩)))
  rw [show 2 * (n : Int) + (S : Int) - 2 * (n : Int) = (S : Int) by omega]
  clear e1 e3 HTk x0 x1 x2
  have HB2 : Hid (Below w1.heap.size w1 (w1.drewN nq)) := kept_drewN w1 nq
  obtain ⟨wb, hw2⟩ : ∃ wb, w1.drewN nq = wb := ⟨_, rfl⟩
  rw [hw2] at HB2 ⊢
  clear hw2
  go_wp2_with fail
  obtain ⟨x0, x1, x2, _⟩ := HX.out wb HB2.out
  have u1 : IntKind.u64.wrap (no : Int) = (no : Int) := u64_id _ (by omega) (by omega)
  have u2 := byte_mod1 n
  have u3 := u8_wrap n
  obtain ⟨cn, hcn⟩ : ∃ cn, UInt8.ofNat n = cn := ⟨_, rfl⟩
  rw [hcn] at u2 u3
  have HCn := Lib.hid hcn
  clear hcn
  have hF1 := HF.out no HNo.out 4 (by decide)
  rw [show ((4 : Nat) : Int) = 4 from rfl] at hF1
  have HF1 := Lib.hid hF1
  have HB2d : Hid (Below w1.heap.size w1 wb.drew) := HB2.out.drew
  have HL4 : Hid ((fixB no 4).length = 4) := fixB_length _ _
  clear hF1
  have HK : Hid (∀ wr : World, Hid (Below w1.heap.size w1 wr) → wr.cell? ⟨B, 0, none⟩ = some (.int .i64 (no : Int)) ∧ wr.cell? ⟨B, 1, none⟩ = some (.int .u8 (k.toNat : Int)) ∧ wr.cell? ⟨B, 2, none⟩ = some (.slice A n c) ∧ Hid (Below w1.heap.size w1 wr)) :=
    fun wr h => ⟨(HX.out wr h.out).1, (HX.out wr h.out).2.1, (HX.out wr h.out).2.2.1, h⟩
  have HAl : Hid (∀ (wr : World) (o : Obj), Hid (Below w1.heap.size w1 wr) → Hid (Below w1.heap.size w1 (wr.alloc o))) := fun wr o h => h.out.alloc h.out.size _
  clear x0 x1 x2
  go_cut [4] (fun v wr => Hid (OwnB wr w1.heap.size v (fixB no 4 ++ [k, cn]) ∧ Below w1.heap.size w1 wr))
  case first =>
    go_region_held3 (fun wr => wr.cell? ⟨B, 0, none⟩ = some (.int .i64 (no : Int)) ∧ wr.cell? ⟨B, 1, none⟩ = some (.int .u8 (k.toNat : Int)) ∧ wr.cell? ⟨B, 2, none⟩ = some (.slice A n c) ∧ Hid (Below w1.heap.size w1 wr)) (first | assumption | exact HK.out _ HB2d | exact HK.out _ (HAl.out _ _ HB2d) | exact HK.out _ (HAl.out _ _ (by assumption))) (first | (go_at_call 40; (with_reducible refine (HF1.out _).mono ?_); rintro e w4 ⟨A4, c4, rfl, hO4, hb4⟩; have hB4 : Hid (Below w1.heap.size w1 w4) := Below.up (show _ ∧ _ ∧ _ ∧ Hid (Below w1.heap.size w1 _) from by assumption).2.2.2.out hb4 (Nat.le_refl _); have hS4 := HK.out w4 hB4; have hO4b := hO4.base (show _ ∧ _ ∧ _ ∧ Hid (Below w1.heap.size w1 _) from by assumption).2.2.2.out.size) | (refine step_append_bytes (by rfl) _ _ (by rfl) w1.heap.size _ (fixB no 4) (by rfl) (hO4b.alloc _) ⟨w4.heap.size, 0, none⟩ 2 2 [k, cn] (by rfl) rfl (bytes_of_block (heap_alloc_new _ _) rfl) (by rw [HL4.out]; exact (by decide : 4 + 2 ≤ 140737488355328)) (HAl.out _ _ hB4).out.size ?_; intro v5 w5 H5; have hB5 : Hid (Below w1.heap.size w1 w5) := (HAl.out _ _ hB4).out.grown H5.out.2 (HAl.out _ _ hB4).out.size (fun j hj => (hO4b.lt j hj).1); have hS5 := HK.out w5 hB5) | (refine step_append_bytes (by rfl) _ _ (by rfl) w1.heap.size _ (fixB no 4) (by rfl) hO4b _ 2 2 [k, cn] (by rfl) rfl ((bytes_of_block (heap_alloc_new _ _) rfl).drew.below hb4) (by rw [HL4.out]; exact (by decide : 4 + 2 ≤ 140737488355328)) hB4.out.size ?_; intro v5 w5 H5; have hB5 : Hid (Below w1.heap.size w1 w5) := hB4.out.grown H5.out.2 hB4.out.size (fun j hj => (hO4b.lt j hj).1); have hS5 := HK.out w5 hB5))
    all_goals
      go_wp2_with fail
      go_meet
      case rel => exact ⟨H5.out.1, hB5.out⟩
  case rest =>
    clear u1 u2 u3 HK HF1 HB2d HB2
    have HL6 : Hid ((fixB no 4 ++ [k, cn]).length = 6) := by show _ = _; rw [List.length_append, fixB_length]; rfl
    have hF2 := HF.out S (by omega) 2 (by decide)
    rw [fixB_two, show ((2 : Nat) : Int) = 2 from rfl] at hF2
    have HF2 := Lib.hid hF2
    have u1 : IntKind.u64.wrap (S : Int) = (S : Int) := u64_id _ (by omega) (by omega)
    clear hF2
    have HO0 := Lib.hid hcut.out.1
    have HB0 := Lib.hid hcut.out.2
    clear hcut
    go_wp2_with (first | (go_at_call 40; (with_reducible refine (HF2.out _).mono ?_); rintro e w6 ⟨A6, c6, rfl, hO6, hb6⟩; refine park ?_; intro q hq))
    have HB6 : Hid (Below w1.heap.size w1 w6) := Below.up HB0.out hb6 (Nat.le_refl _)
    have HO6 := Lib.hid (hO6.base HB0.out.size)
    have HO06 := Lib.hid (HO0.out.below hb6)
    have HAp : Hid (∀ k, A6 = some ⟨k, 0, none⟩ → True) := fun _ _ => trivial
    have hcap6 := OwnB.caps hO6
    refine hq.out ?_
    clear hq
    go_wp2_with (with_reducible refine park_append ?_; intro q hq)
    refine hq.out ?_
    clear hq
    refine wpList_append_bytes rfl _ _ rfl w1.heap.size _ (fixB no 4 ++ [k, cn]) rfl HO06.out A6 (w2 S).length c6 (w2 S) rfl rfl hcap6.2.2.2 hO6.bytes (by rw [HL6.out, w2_length]; decide) HB6.out.size ?_
    intro v7 w7 hO7 hg7 _
    have HO7 : Hid (OwnB w7 w1.heap.size v7 (headPg no k n S)) := by
      have : fixB no 4 ++ [k, cn] ++ w2 S = headPg no k n S := by unfold headPg; rw [← HCn.out]; simp
      show OwnB _ _ _ _
      rw [← this]; exact hO7
    have HB7 : Hid (Below w1.heap.size w1 w7) := HB6.out.grown hg7 HB6.out.size (fun j hj => (HO06.out.lt j hj).1)
    clear hO7 hg7 hO6 hb6 hcap6 HO06 HO6 HAp HB6 HB0 HO0
    have HI1 : Hid (OwnB w7 w1.heap.size v7 (headPg no k n S ++ endsB 0 (ls.take 0)) ∧ Below w1.heap.size w1 w7 ∧ 0 = sizC (ls.take 0)) := ⟨by show OwnB _ _ _ _; rw [List.take_zero, endsB, List.append_nil]; exact HO7.out, HB7.out, rfl⟩
    clear HO7 HB7 u1 HF2 HL6 HL4
    go_wp2_with fail
    go_loopw [4, 5, 6] (fun b e i wr => ∃ (j E : Nat), j ≤ n ∧ E ≤ S ∧ i = .int .i64 (j : Int) ∧ e = .int .i64 (E : Int) ∧ Hid (OwnB wr w1.heap.size b (headPg no k n S ++ endsB 0 (ls.take j)) ∧ Below w1.heap.size w1 wr ∧ E = sizC (ls.take j))) (fun _ _ i _ => n - (intOf i).toNat)
    case atStart => exact ⟨0, 0, Nat.zero_le _, Nat.zero_le _, rfl, rfl, HI1⟩
    case round =>
      obtain ⟨j, E, hj, hE, rfl, rfl, HJ⟩ := hrel
      obtain ⟨_, _, x2, hRr⟩ := HX.out wr HJ.out.2.1
      by_cases hlt : j < n
      · obtain ⟨bb, oo, rfl⟩ := hRr.spot (by rw [← HN.out]; omega)
        obtain ⟨Aj, cj, hcj, hsj⟩ := hRr.at j (by rw [← HN.out]; exact hlt)
        have hjl : j < ls.length := by rw [← HN.out]; exact hlt
        have hst : ls.take (j + 1) = ls.take j ++ [ls[j]] := List.take_succ_eq_append_getElem hjl
        have hle := sizC_take_all ls (j + 1)
        rw [HS.out, hst, sizC_append, sizC_cons, sizC_nil, Nat.add_zero, ← HJ.out.2.2] at hle
        obtain ⟨m, hm⟩ : ∃ m, ls[j].length = m := ⟨_, rfl⟩
        rw [hm] at hcj hle
        have hE2 : E + m = sizC (ls.take (j + 1)) := by rw [hst, sizC_append, sizC_cons, sizC_nil, hm, ← HJ.out.2.2]; omega
        have hen : endsB 0 (ls.take (j + 1)) = endsB 0 (ls.take j) ++ w2 (E + m) := by rw [hst, endsB_append, endsB, endsB, hm, ← HJ.out.2.2]; simp
        have HE2 := Lib.hid hE2
        have HEn := Lib.hid hen
        have hF2 := HF.out (E + m) (by omega) 2 (by decide)
        rw [fixB_two, show ((2 : Nat) : Int) = 2 from rfl, show ((E + m : Nat) : Int) = (E : Int) + (m : Int) by omega] at hF2
        have HF2 := Lib.hid hF2
        have u1 : IntKind.u64.wrap ((E : Int) + (m : Int)) = (E : Int) + (m : Int) := u64_id _ (by omega) (by omega)
        have hlen : (headPg no k n S ++ endsB 0 (ls.take j)).length ≤ 256 := by rw [List.length_append, headPg_length, endsB_length, List.length_take]; omega
        have HLe := Lib.hid hlen
        clear hF2 hE2 hen hst hjl hm hsj hRr hlen
        go_wp2_with (first | (go_at_call 40; (with_reducible refine (HF2.out _).mono ?_); rintro e w6 ⟨A6, c6, rfl, hO6, hb6⟩; refine park ?_; intro q hq))
        have HB6 : Hid (Below w1.heap.size w1 w6) := Below.up HJ.out.2.1 hb6 (Nat.le_refl _)
        have HO06 := Lib.hid (HJ.out.1.below hb6)
        have hcap6 := OwnB.caps hO6
        refine hq.out ?_
        clear hq
        go_wp2_with (with_reducible refine park_append ?_; intro q hq)
        refine hq.out ?_
        clear hq
        refine wpList_append_bytes rfl _ _ rfl w1.heap.size _ _ rfl HO06.out A6 (w2 (E + m)).length c6 (w2 (E + m)) rfl rfl hcap6.2.2.2 hO6.bytes (by have := HLe.out; rw [w2_length]; omega) HB6.out.size ?_
        intro v7 w7 hO7 hg7 _
        have HF7 : Hid (OwnB w7 w1.heap.size v7 (headPg no k n S ++ endsB 0 (ls.take (j + 1))) ∧ Below w1.heap.size w1 w7 ∧ E + m = sizC (ls.take (j + 1))) :=
          ⟨by show OwnB _ _ _ _; rw [HEn.out, ← List.append_assoc]; exact hO7, HB6.out.grown hg7 HB6.out.size (fun j hj => (HO06.out.lt j hj).1), HE2.out⟩
        clear hO7 hg7 hO6 hb6 hcap6 HO06 HB6
        go_wp2_with fail
        go_roundw
        case rel => exact ⟨j + 1, E + m, by omega, by omega, by go_num, by go_num, HF7⟩
        case measure => simp [intOf]; omega
      · obtain rfl : j = n := by omega
        have HT2 : Hid (ls.take j = ls) := List.take_of_length_le (by rw [HN.out]; exact Nat.le_refl _)
        have HI2 : Hid (OwnB wr w1.heap.size u4 (headPg no k j S ++ endsB 0 ls ++ (ls.take 0).flatten) ∧ Below w1.heap.size w1 wr) := ⟨by show OwnB _ _ _ _; have := HJ.out.1; rw [HT2.out] at this; rw [List.take_zero, List.flatten_nil, List.append_nil]; exact this, HJ.out.2.1⟩
        clear hRr
        go_wp2_with fail
        clear x2
        go_loopw [4, 7] (fun b i wr => ∃ (t : Nat), t ≤ j ∧ i = .int .i64 (t : Int) ∧ Hid (OwnB wr w1.heap.size b (headPg no k j S ++ endsB 0 ls ++ (ls.take t).flatten) ∧ Below w1.heap.size w1 wr)) (fun _ i _ => j - (intOf i).toNat)
        case atStart => exact ⟨0, Nat.zero_le _, rfl, HI2⟩
        case round =>
          obtain ⟨t, ht, rfl, HJ2⟩ := hrel
          obtain ⟨_, _, x2, hRr⟩ := HX.out wr HJ2.out.2
          by_cases hlt2 : t < j
          · obtain ⟨bb, oo, rfl⟩ := hRr.spot (by rw [← HN.out]; omega)
            obtain ⟨Aj, cj, hcj, hsj⟩ := hRr.at t (by rw [← HN.out]; exact hlt2)
            have hjl : t < ls.length := by rw [← HN.out]; exact hlt2
            have hst : ls.take (t + 1) = ls.take t ++ [ls[t]] := List.take_succ_eq_append_getElem hjl
            have hle := sizC_take_all ls (t + 1)
            rw [HS.out, hst, sizC_append, sizC_cons, sizC_nil, Nat.add_zero] at hle
            have hfl : headPg no k j S ++ endsB 0 ls ++ (ls.take (t + 1)).flatten = headPg no k j S ++ endsB 0 ls ++ (ls.take t).flatten ++ ls[t] := by rw [hst, List.flatten_append, List.flatten_cons, List.flatten_nil, List.append_nil]; simp only [List.append_assoc]
            have hlen : (headPg no k j S ++ endsB 0 ls ++ (ls.take t).flatten).length + ls[t].length ≤ 1000 := by
              rw [List.length_append, List.length_append, headPg_length, endsB_length, sizC_flatten, ← HN.out]; omega
            obtain ⟨bt, hbt⟩ : ∃ bt, ls[t] = bt := ⟨_, rfl⟩
            rw [hbt] at hcj hsj hfl hlen
            have HFl := Lib.hid hfl
            have HLe := Lib.hid hlen
            have HSj := Lib.hid hsj
            obtain ⟨m, hm⟩ : ∃ m, bt.length = m := ⟨_, rfl⟩
            rw [hm] at hcj HSj
            clear hst hle hfl hlen hbt hsj hjl hRr hm
            go_wp2_with (with_reducible refine park_append ?_; intro q hq)
            refine hq.out ?_
            clear hq
            refine wpList_append_bytes rfl _ _ rfl w1.heap.size _ _ rfl HJ2.out.1 Aj m cj bt rfl HSj.out.1 HSj.out.2.2.2.2 HSj.out.2.1 (by have := HLe.out; omega) HJ2.out.2.size ?_
            intro v7 w7 hO7 hg7 _
            have HF7 : Hid (OwnB w7 w1.heap.size v7 (headPg no k j S ++ endsB 0 ls ++ (ls.take (t + 1)).flatten) ∧ Below w1.heap.size w1 w7) :=
              ⟨by show OwnB _ _ _ _; rw [HFl.out]; exact hO7, HJ2.out.2.grown hg7 HJ2.out.2.size (fun j hj => (HJ2.out.1.lt j hj).1)⟩
            clear hO7 hg7
            go_wp2_with fail
            go_roundw
            case rel => exact ⟨t + 1, by omega, by go_num, HF7⟩
            case measure => simp [intOf]; omega
          · obtain rfl : t = j := by omega
            have hl3 : (headPg no k t S ++ endsB 0 ls ++ ls.flatten).length = 8 + (2 * t + S) := by
              rw [List.length_append, List.length_append, headPg_length, endsB_length, sizC_flatten, ← HN.out, HS.out]; omega
            obtain ⟨L3, hL3⟩ : ∃ L3, headPg no k t S ++ endsB 0 ls ++ ls.flatten = L3 := ⟨_, rfl⟩
            have hO3 : OwnB wr w1.heap.size u4 L3 := by have := HJ2.out.1; rw [HT2.out, hL3] at this; exact this
            rw [hL3] at hl3
            have HL3 := Lib.hid hL3
            have Hl3 := Lib.hid hl3
            have HO3 := Lib.hid hO3
            have HB3 := Lib.hid HJ2.out.2
            clear hl3 hL3 hO3 hRr HJ2
            go_wp2_with fail
            clear x2
            go_loopw [4] (fun v wr => ∃ (A8 : Option Addr) (z m c8 : Nat), v = .slice A8 m c8 ∧ m = 8 + (2 * t + S) + z ∧ m ≤ 256 ∧ Hid (OwnB wr w1.heap.size v (L3 ++ List.replicate z 0) ∧ Below w1.heap.size w1 wr)) (fun v _ => 256 - sliceLen_ v)
            case atStart =>
              obtain ⟨A8, c8, rfl, _, _, _⟩ := HO3.out.sl
              exact ⟨A8, 0, _, c8, rfl, by rw [Hl3.out]; rfl, by rw [Hl3.out]; omega, by have := HO3.out; simpa using this, HB3.out⟩
            case round =>
              obtain ⟨A8, z, m, c8, rfl, hm, hm2, HR3⟩ := hrel
              by_cases hlt3 : m < 256
              · have hm' := Lib.hid hm
                clear hm
                go_wp2_with (with_reducible refine park_append ?_; intro q hq)
                refine hq.out ?_
                clear hq
                refine wpList_append_bytes rfl _ _ rfl w1.heap.size (.slice A8 m c8) (L3 ++ List.replicate z 0) rfl (HR3.out.1.alloc _) (some ⟨wr.heap.size, 0, none⟩) 1 1 [0] rfl rfl (fun h => by cases h) (bytes_of_block (heap_alloc_new wr _) rfl) (by rw [List.length_append, Hl3.out, List.length_replicate]; have := hm'.out; simp; omega) (by have := HR3.out.2.size; simp; omega) ?_
                intro v4 w4 hown4 hg4 _
                have HN4 : Hid (OwnB w4 w1.heap.size v4 (L3 ++ List.replicate (z + 1) 0) ∧ Below w1.heap.size w1 w4) :=
                  ⟨by rw [List.replicate_succ', ← List.append_assoc]; exact hown4, (HR3.out.2.alloc HR3.out.2.size _).grown hg4 (by have := HR3.out.2.size; simp; omega) (fun j hj => (HR3.out.1.lt j hj).1)⟩
                clear hown4 hg4 HR3
                obtain ⟨A4, c4, rfl, _, _, _⟩ := HN4.out.1.sl
                have hl4 : (L3 ++ List.replicate (z + 1) 0).length = m + 1 := by
                  rw [List.length_append, Hl3.out, List.length_replicate]; have h8 : m = 8 + (2 * t + S) + z := hm'.out; omega
                rw [hl4] at HN4 ⊢
                clear hl4
                go_wp2_with fail
                go_roundw
                case rel => exact ⟨A4, z + 1, m + 1, c4, rfl, by have h8 : m = 8 + (2 * t + S) + z := hm'.out; omega, by omega, HN4⟩
                case measure => simp [sliceLen_]; omega
              · have hz : z = 248 - (2 * t + S) := by omega
                have hfin : L3 ++ List.replicate z 0 = pageB no k ls := by
                  rw [← HL3.out, hz]
                  unfold pageB bodyB
                  rw [← HN.out, HS.out]
                  have e5 : List.replicate (248 - (2 * t + S)) (0 : UInt8) = List.replicate (244 - (2 * t + S)) 0 ++ [0, 0, 0, 0] := by
                    rw [show [(0 : UInt8), 0, 0, 0] = List.replicate 4 0 from rfl, List.replicate_append_replicate]
                    congr 1; omega
                  rw [e5]
                  simp only [List.append_assoc]
                have HFin := Lib.hid hfin
                clear hfin hz hm
                go_wp2_with fail
                go_ret
                have := HR3.out.1
                rw [HFin.out] at this
                exact RetB.mk (this.base HB1.out.size) (HB1.out.trans (HR3.out.2.mono HB1.out.size))
end Go.Proofs.YtibhoekbjgoanaaDoor
