/- Regions that draw their order and whose operations answer alike in every world of a class: one walk of the text's order. -/
import Derived.Test.YtibmlgkakeakcaaDoorG1
import Derived.BigQuiet
import Derived.Test.YtibmlgkakeakcaaDoorG3
import Derived.Lib.AppendZeros
import Derived.Lib.SliceRun
import Derived.StillTailTactics
import Derived.Test.YtibmlgkakeakcaaDoorG5
import Derived.Deep.QuietTactic
set_option linter.unusedSimpArgs false
set_option linter.unusedVariables false
namespace Go.Proofs.YtibmlgkakeakcaaDoor
open Go.RowKit
end Go.Proofs.YtibmlgkakeakcaaDoor
/- The walks of slices.Clone, Grow, Concat, of node.spliced (printed by wip/gen/concatgen.py). -/
set_option linter.unusedSimpArgs false
set_option linter.unusedVariables false
namespace Go.Proofs.YtibmlgkakeakcaaDoor
open Go.RowKit Go.Proofs.YtibmlgkakeakcaaDoor.Crc
theorem ValsAt.dropMap {w : World} {A : Option Addr} {l : List Value} (h : ValsAt w A l) (n : Nat) : ValsAt w (Option.map (fun x => x.add n) A) (l.drop n) := by
  intro i hi
  have hl := hi
  rw [List.length_drop] at hl
  obtain ⟨b, o, rfl, _⟩ := h.spot (by omega)
  have e : Option.map (fun x => Addr.add x n) (some (⟨b, o, none⟩ : Addr)) = some ⟨b, o + n, none⟩ := by rw [Option.map_some, Addr.add_lit]
  rw [e]
  exact (h.drop n) i hi
/-- An empty row of one's own, with room. -/
theorem OwnVs.room {w : World} {base g c : Nat} {t : TypeId} {cur : Array Value} (hg : base ≤ g) (hb : w.heap[g]? = some (.cells cur t (0, 0))) (hs : cur.size = c) (hc : c ≤ maxLen) : OwnVs w base t (.slice (some ⟨g, 0, none⟩) 0 c) [] :=
  ⟨rfl, .inr ⟨g, c, cur, rfl, hg, hb, Nat.zero_le _, hc, by rw [hs, Nat.mul_one], by simp⟩⟩
/-- Lists that lie in a row of slices. -/
def PartsAt (w : World) (g : Nat) (ps : List (List Value)) : Prop := ∀ i, (hi : i < ps.length) → ∃ A c, w.cell? ⟨g, i, none⟩ = some (.slice A ps[i].length c) ∧ (A = none → c = 0) ∧ ValsAt w A ps[i]
def sumL (ps : List (List Value)) (k : Nat) : Nat := ((ps.take k).map List.length).sum
theorem sumL_succ (ps : List (List Value)) (k : Nat) (h : k < ps.length) : sumL ps (k + 1) = sumL ps k + ps[k].length := by
  unfold sumL
  rw [List.take_succ_eq_append_getElem h, List.map_append, List.sum_append]
  simp only [List.map_cons, List.map_nil, List.sum_cons, List.sum_nil, Nat.add_zero]
theorem sumL_le (ps : List (List Value)) (h : ∀ p ∈ ps, p.length ≤ 100000) (k : Nat) (hk : k ≤ ps.length) : sumL ps k ≤ 100000 * k := by
  induction k with
  | zero => simp [sumL]
  | succ k ih =>
    rw [sumL_succ ps k (by omega)]
    have := ih (by omega)
    have := h ps[k] (List.getElem_mem (by omega))
    omega
theorem flat_succ (ps : List (List Value)) (k : Nat) (h : k < ps.length) : (ps.take (k + 1)).flatten = (ps.take k).flatten ++ ps[k] := by
  rw [List.take_succ_eq_append_getElem h, List.flatten_append]
  simp only [List.flatten_cons, List.flatten_nil, List.append_nil]
theorem flat_len (ps : List (List Value)) (k : Nat) : (ps.take k).flatten.length = sumL ps k := by
  unfold sumL
  simp [List.length_flatten]
theorem zeroCells1 (z : Value) (hz : z.cells.size = 1) (n : Nat) : (Builtin.zeroCells z.cells n).size = n := by
  unfold Builtin.zeroCells
  simp [hz]
set_option maxRecDepth 10000 in
set_option maxHeartbeats 1000000 in
theorem CloneS_calls {w : World} {A : Option Addr} {n c : Nat} {xs : List Value} (h : ValsAt w A xs) (hn : n = xs.length) (hnil : A = none → c = 0) (h1 : ∀ u ∈ xs, u.oneCell' = true) (hl : n ≤ 1000000) :
    Calls Tryd.prog 80 #[.slice A n c] w fun e w' => ∃ v, e = .returned v ∧ Hid (OwnVs w' w.heap.size 9 v xs ∧ Below w.heap.size w w') := by
  have hq0 := fun (w' : World) => Lib.run_eql_slice_nil (P := Tryd.prog) w' 22 9 A n c 0 0 Tryd.underlying22
  cases A with
  | none =>
    have hxs : xs = [] := by
      rcases xs with _ | ⟨y, ys⟩
      · rfl
      · obtain ⟨ad, hA, _⟩ := h 0 (Nat.succ_pos _); cases hA
    subst hxs
    obtain rfl : n = 0 := hn
    obtain rfl := hnil rfl
    clear h hnil
    go_enter Tryd.func80, Tryd.ntmps80
    go_wp2_with fail
    go_ret
    exact ⟨_, rfl, World.ownsRow_nil _ _ _ _, Below.refl _ _⟩
  | some ad =>
    have HU := Lib.hid h
    have HN := Lib.hid hn
    have H1 := Lib.hid h1
    clear h hnil hn h1
    go_enter Tryd.func80, Tryd.ntmps80
    go_wp2_with (with_reducible refine park_append ?_; intro q hq)
    refine hq.out ?_
    clear hq
    refine wpList_append_vals elStr rfl _ _ rfl w.heap.size _ [] rfl (OwnVs.lit w _ (Nat.le_refl _) [] (by decide)) (some ad) n c xs rfl HN.out (fun h => by cases h) (HU.out.below ((Below.refl _ _).alloc (Nat.le_refl _) _)) H1.out (by rw [← HN.out]; simp; omega) (by simp) ?_
    intro v w' H
    have HF : Hid (OwnVs w' w.heap.size 9 v xs ∧ Below w.heap.size w w') := ⟨H.out.1, ((Below.refl _ _).alloc (Nat.le_refl _) _).grown H.out.2 (by simp) (fun k hk => by cases hk; exact Nat.le_refl _)⟩
    clear H HU
    go_wp2_with fail
    go_ret
    exact ⟨v, rfl, HF.out⟩
set_option maxRecDepth 10000 in
set_option maxHeartbeats 1000000 in
theorem GrowS_calls (w : World) (n : Nat) (hn : n ≤ 1000000000) :
    Calls Tryd.prog 83 #[.slice none 0 0, .int .i64 (n : Int)] w fun e w' => ∃ v, e = .returned v ∧ Hid (OwnVs w' w.heap.size 9 v [] ∧ Below w.heap.size w w') := by
  by_cases h0 : n = 0
  · subst h0
    go_enter Tryd.func83, Tryd.ntmps83
    go_wp2_with fail
    go_ret
    exact ⟨_, rfl, World.ownsRow_nil _ _ _ _, Below.refl _ _⟩
  · obtain ⟨i, hi, hz0, hz1, hz2⟩ := info_parts elStr.i
    have hpos : 0 < n := by omega
    have hb : n * i.bytes ≤ 281474976710656 := by
      rw [hz2]
      have hb24 := elStr.b24
      exact Nat.le_trans (Nat.mul_le_mul hn hb24) (by decide)
    have hr := Lib.run_append_nil_zeros (P := Tryd.prog) w 22 3 22 9 i _ .i64 .i64 Tryd.underlying22 Tryd.underlying3 hi hz0 n hpos (by rw [hz1]; decide) (by omega) hb
    have hsz : ∀ x : Nat, n ≤ x → (Builtin.zeroCells (Value.string ByteArray.empty).cells n ++ Builtin.zeroCells (Value.string ByteArray.empty).cells (x - n)).size = x := fun x hx => by
      rw [Array.size_append, zeroCells1 _ elStr.z1, zeroCells1 _ elStr.z1]; omega
    have hge := grownCap_ge w n 0 9
    have hgm := grownCap_le_maxLen w n 0 9 (by unfold maxLen; omega)
    obtain ⟨gc, hgc⟩ : ∃ x, grownCap w n 0 9 = x := ⟨_, rfl⟩
    obtain ⟨cur, hcur⟩ : ∃ x, Builtin.zeroCells (Value.string ByteArray.empty).cells n ++ Builtin.zeroCells (Value.string ByteArray.empty).cells (gc - n) = x := ⟨_, rfl⟩
    rw [hgc] at hr hge hgm
    have hs := hsz gc hge
    rw [hcur] at hs
    have hr' : (Builtin.append_ #[22, 3] 22 #[.slice none 0 0, .int .i64 (n : Int)]).run Tryd.prog w = .ok (.slice (some ⟨w.heap.size, 0, none⟩) n gc) (w.drew.alloc (.cells cur 9)) := by rw [← hcur]; exact hr
    have HS := Lib.hid hs
    have HGM := Lib.hid hgm
    have hgm2 : gc ≤ 9223372036854775807 := by unfold maxLen at hgm; omega
    clear hr hsz hs hcur hgc hb hi hz0 hz1 hz2 hgm
    go_enter Tryd.func83, Tryd.ntmps83
    go_wp2_with (with_reducible refine park_append ?_; intro q hq)
    refine hq.out ?_
    clear hq
    refine wpList_plain rfl fun K hK => ?_
    unfold Oper.wp execOp
    simp only [resolve, invoke, builtin, Sem.run_bind, Sem.run_pure, Result.andThen_ok, List.map_toArray, List.map_cons, List.map_nil]
    rw [show ∀ x y : Value, x = .slice none 0 0 → y = .int .i64 (n : Int) → (Builtin.append_ #[22, 3] 22 #[x, y]).run Tryd.prog w = .ok (.slice (some ⟨w.heap.size, 0, none⟩) n gc) (w.drew.alloc (.cells cur 9)) from (fun x y h1 h2 => by rw [h1, h2]; exact hr')]
    rotate_left
    · rfl
    · rfl
    simp only [Result.andThen_ok]
    refine hK _ _ ?_
    have HB : Hid (Below w.heap.size w (w.drew.alloc (.cells cur 9))) := (Below.refl _ _).drew.alloc (Nat.le_refl _) _
    have HR : Hid ((w.drew.alloc (.cells cur 9)).heap[w.heap.size]? = some (.cells cur 9 (0, 0))) := heap_alloc_new w.drew _
    obtain ⟨w2, hw2⟩ : ∃ x, w.drew.alloc (.cells cur 9) = x := ⟨_, rfl⟩
    rw [hw2] at HB HR ⊢
    clear hw2 hr' hK
    go_wp2_with fail
    go_ret
    exact ⟨_, rfl, OwnVs.room (Nat.le_refl _) HR.out HS.out HGM.out, HB.out⟩
set_option maxRecDepth 10000 in
set_option maxHeartbeats 1000000 in
theorem ConcatS_calls {w : World} {g c : Nat} {ps : List (List Value)} (hp : PartsAt w g ps) (hm : ps.length ≤ 100) (h1 : ∀ p ∈ ps, ∀ u ∈ p, u.oneCell' = true) (hl : ∀ p ∈ ps, p.length ≤ 100000) :
    Calls Tryd.prog 56 #[.slice (some ⟨g, 0, none⟩) ps.length c] w fun e w' => ∃ v, e = .returned v ∧ Hid (OwnVs w' w.heap.size 9 v ps.flatten ∧ Below w.heap.size w w') := by
  obtain ⟨m, hm0⟩ : ∃ k, ps.length = k := ⟨_, rfl⟩
  rw [hm0] at hm ⊢
  have HP := Lib.hid hp
  have HM := Lib.hid hm0
  have H1 := Lib.hid h1
  have HL := Lib.hid hl
  clear hp hm0 h1 hl
  go_enter Tryd.func56, Tryd.ntmps56
  go_wp2_with fail
  go_loop [3, 11] (fun s i => ∃ k : Nat, k ≤ m ∧ i = .int .i64 (k : Int) ∧ s = .int .i64 (sumL ps k : Int)) (fun _ i => m - (intOf i).toNat)
  case atStart => exact ⟨0, Nat.zero_le _, rfl, rfl⟩
  case round =>
    obtain ⟨k, hk, rfl, rfl⟩ := hrel
    have hsl := sumL_le ps HL.out k (by rw [HM.out]; exact hk)
    obtain ⟨s, hs⟩ : ∃ s, sumL ps k = s := ⟨_, rfl⟩
    have HS := Lib.hid hs
    rw [hs] at hsl ⊢
    clear hs
    by_cases hlt : k < m
    · have hkp : k < ps.length := by rw [HM.out]; exact hlt
      obtain ⟨A, ci, hcell, _, _⟩ := HP.out k hkp
      have hln := HL.out ps[k] (List.getElem_mem hkp)
      have hsn := sumL_succ ps k hkp
      rw [HS.out] at hsn
      obtain ⟨ln, hln0⟩ : ∃ ln, ps[k].length = ln := ⟨_, rfl⟩
      rw [hln0] at hcell hln hsn
      have HN := Lib.hid hsn
      have hz : ¬ ((s : Int) + (ln : Int) < 0) := by omega
      clear hsn hln0
      go_wp2_with fail
      go_round
      case rel => exact ⟨k + 1, by omega, by go_num, by rw [HN.out]; go_num⟩
      case measure => simp [intOf]; omega
    · obtain rfl : k = m := by omega
      have hG := Lib.hid (GrowS_calls w s (by omega))
      go_wp2_with (go_at_call 83; (with_reducible refine hG.out.mono ?_); rintro e w2 ⟨v2, rfl, h2⟩; refine park ?_; intro q hq)
      have HO2 := Lib.hid h2.out.1
      have HB2 := Lib.hid h2.out.2
      obtain ⟨A2, c2, hv2, _⟩ := h2.out.1.sl
      rw [List.length_nil] at hv2
      subst hv2
      clear h2 hG
      refine hq.out ?_
      clear hq
      go_wp2_with fail
      go_loopw [6, 27] (fun v i wr => ∃ j : Nat, j ≤ k ∧ i = .int .i64 (j : Int) ∧ Hid (OwnVs wr w.heap.size 9 v (ps.take j).flatten ∧ Below w.heap.size w wr)) (fun _ i _ => k - (intOf i).toNat)
      case atStart => exact ⟨0, Nat.zero_le _, rfl, HO2.out, HB2.out⟩
      case round =>
        obtain ⟨j, hj, rfl, HR⟩ := hrel
        by_cases hjt : j < k
        · have hjp : j < ps.length := by rw [HM.out]; exact hjt
          obtain ⟨A, ci, hcell0, hnl, hval⟩ := HP.out j hjp
          have hlt' : g < w.heap.size := by
            have := hcell0
            simp only [World.cell?] at this
            rcases Nat.lt_or_ge g w.heap.size with h' | h'
            · exact h'
            · rw [Array.getElem?_eq_none h'] at this; simp at this
          have hcell := (HR.out.2.cell (p := ⟨g, j, none⟩) hlt').trans hcell0
          have hln := HL.out ps[j] (List.getElem_mem hjp)
          have HFl := Lib.hid (flat_succ ps j hjp)
          have hsl2 := sumL_le ps HL.out j (by omega)
          have HF2 : Hid ((ps.take j).flatten.length ≤ 100000 * 100) := by show _ ≤ _; rw [flat_len]; omega
          obtain ⟨p, hp0⟩ : ∃ p, ps[j] = p := ⟨_, rfl⟩
          have hone := H1.out ps[j] (List.getElem_mem hjp)
          rw [hp0] at hcell hval hln HFl hone
          have HVal := Lib.hid (hval.below HR.out.2)
          have HOne := Lib.hid hone
          have HNl := Lib.hid hnl
          obtain ⟨ln, hln0⟩ : ∃ ln, p.length = ln := ⟨_, rfl⟩
          rw [hln0] at hcell hln
          have HLn := Lib.hid hln0
          clear hcell0 hnl hval hp0 hone hln0 hsl2
          go_wp2_with (with_reducible refine park_append ?_; intro q hq)
          refine hq.out ?_
          clear hq
          refine wpList_append_vals elStr rfl _ _ rfl w.heap.size _ (ps.take j).flatten rfl HR.out.1 A ln ci p rfl HLn.out.symm HNl.out HVal.out HOne.out (by rw [HLn.out]; have := HF2.out; omega) HR.out.2.size ?_
          intro v3 w3 H3
          have HN : Hid (OwnVs w3 w.heap.size 9 v3 (ps.take (j + 1)).flatten ∧ Below w.heap.size w w3) := ⟨by rw [HFl.out]; exact H3.out.1, HR.out.2.grown H3.out.2 HR.out.2.size (fun b hb => (HR.out.1.lt b hb).1)⟩
          clear H3 HR HVal
          go_wp2_with fail
          go_roundw
          case rel => exact ⟨j + 1, by omega, by go_num, HN⟩
          case measure => simp [intOf]; omega
        · obtain rfl : j = k := by omega
          go_wp2_with fail
          go_ret
          exact ⟨_, rfl, by have := HR.out.1; rwa [List.take_of_length_le (by rw [HM.out]; exact Nat.le_refl _)] at this, HR.out.2⟩
set_option maxRecDepth 10000 in
set_option maxHeartbeats 1000000 in
theorem GrowR_calls (w : World) (n : Nat) (hn : n ≤ 1000000000) :
    Calls Tryd.prog 84 #[.slice none 0 0, .int .i64 (n : Int)] w fun e w' => ∃ v, e = .returned v ∧ Hid (OwnVs w' w.heap.size 30 v [] ∧ Below w.heap.size w w') := by
  by_cases h0 : n = 0
  · subst h0
    go_enter Tryd.func84, Tryd.ntmps84
    go_wp2_with fail
    go_ret
    exact ⟨_, rfl, World.ownsRow_nil _ _ _ _, Below.refl _ _⟩
  · obtain ⟨i, hi, hz0, hz1, hz2⟩ := info_parts elRow.i
    have hpos : 0 < n := by omega
    have hb : n * i.bytes ≤ 281474976710656 := by
      rw [hz2]
      have hb24 := elRow.b24
      exact Nat.le_trans (Nat.mul_le_mul hn hb24) (by decide)
    have hr := Lib.run_append_nil_zeros (P := Tryd.prog) w 23 3 23 30 i _ .i64 .i64 Tryd.underlying23 Tryd.underlying3 hi hz0 n hpos (by rw [hz1]; decide) (by omega) hb
    have hsz : ∀ x : Nat, n ≤ x → (Builtin.zeroCells (Value.slice none 0 0).cells n ++ Builtin.zeroCells (Value.slice none 0 0).cells (x - n)).size = x := fun x hx => by
      rw [Array.size_append, zeroCells1 _ elRow.z1, zeroCells1 _ elRow.z1]; omega
    have hge := grownCap_ge w n 0 30
    have hgm := grownCap_le_maxLen w n 0 30 (by unfold maxLen; omega)
    obtain ⟨gc, hgc⟩ : ∃ x, grownCap w n 0 30 = x := ⟨_, rfl⟩
    obtain ⟨cur, hcur⟩ : ∃ x, Builtin.zeroCells (Value.slice none 0 0).cells n ++ Builtin.zeroCells (Value.slice none 0 0).cells (gc - n) = x := ⟨_, rfl⟩
    rw [hgc] at hr hge hgm
    have hs := hsz gc hge
    rw [hcur] at hs
    have hr' : (Builtin.append_ #[23, 3] 23 #[.slice none 0 0, .int .i64 (n : Int)]).run Tryd.prog w = .ok (.slice (some ⟨w.heap.size, 0, none⟩) n gc) (w.drew.alloc (.cells cur 30)) := by rw [← hcur]; exact hr
    have HS := Lib.hid hs
    have HGM := Lib.hid hgm
    have hgm2 : gc ≤ 9223372036854775807 := by unfold maxLen at hgm; omega
    clear hr hsz hs hcur hgc hb hi hz0 hz1 hz2 hgm
    go_enter Tryd.func84, Tryd.ntmps84
    go_wp2_with (with_reducible refine park_append ?_; intro q hq)
    refine hq.out ?_
    clear hq
    refine wpList_plain rfl fun K hK => ?_
    unfold Oper.wp execOp
    simp only [resolve, invoke, builtin, Sem.run_bind, Sem.run_pure, Result.andThen_ok, List.map_toArray, List.map_cons, List.map_nil]
    rw [show ∀ x y : Value, x = .slice none 0 0 → y = .int .i64 (n : Int) → (Builtin.append_ #[23, 3] 23 #[x, y]).run Tryd.prog w = .ok (.slice (some ⟨w.heap.size, 0, none⟩) n gc) (w.drew.alloc (.cells cur 30)) from (fun x y h1 h2 => by rw [h1, h2]; exact hr')]
    rotate_left
    · rfl
    · rfl
    simp only [Result.andThen_ok]
    refine hK _ _ ?_
    have HB : Hid (Below w.heap.size w (w.drew.alloc (.cells cur 30))) := (Below.refl _ _).drew.alloc (Nat.le_refl _) _
    have HR : Hid ((w.drew.alloc (.cells cur 30)).heap[w.heap.size]? = some (.cells cur 30 (0, 0))) := heap_alloc_new w.drew _
    obtain ⟨w2, hw2⟩ : ∃ x, w.drew.alloc (.cells cur 30) = x := ⟨_, rfl⟩
    rw [hw2] at HB HR ⊢
    clear hw2 hr' hK
    go_wp2_with fail
    go_ret
    exact ⟨_, rfl, OwnVs.room (Nat.le_refl _) HR.out HS.out HGM.out, HB.out⟩
set_option maxRecDepth 10000 in
set_option maxHeartbeats 1000000 in
theorem ConcatR_calls {w : World} {g c : Nat} {ps : List (List Value)} (hp : PartsAt w g ps) (hm : ps.length ≤ 100) (h1 : ∀ p ∈ ps, ∀ u ∈ p, u.oneCell' = true) (hl : ∀ p ∈ ps, p.length ≤ 100000) :
    Calls Tryd.prog 57 #[.slice (some ⟨g, 0, none⟩) ps.length c] w fun e w' => ∃ v, e = .returned v ∧ Hid (OwnVs w' w.heap.size 30 v ps.flatten ∧ Below w.heap.size w w') := by
  obtain ⟨m, hm0⟩ : ∃ k, ps.length = k := ⟨_, rfl⟩
  rw [hm0] at hm ⊢
  have HP := Lib.hid hp
  have HM := Lib.hid hm0
  have H1 := Lib.hid h1
  have HL := Lib.hid hl
  clear hp hm0 h1 hl
  go_enter Tryd.func57, Tryd.ntmps57
  go_wp2_with fail
  go_loop [3, 11] (fun s i => ∃ k : Nat, k ≤ m ∧ i = .int .i64 (k : Int) ∧ s = .int .i64 (sumL ps k : Int)) (fun _ i => m - (intOf i).toNat)
  case atStart => exact ⟨0, Nat.zero_le _, rfl, rfl⟩
  case round =>
    obtain ⟨k, hk, rfl, rfl⟩ := hrel
    have hsl := sumL_le ps HL.out k (by rw [HM.out]; exact hk)
    obtain ⟨s, hs⟩ : ∃ s, sumL ps k = s := ⟨_, rfl⟩
    have HS := Lib.hid hs
    rw [hs] at hsl ⊢
    clear hs
    by_cases hlt : k < m
    · have hkp : k < ps.length := by rw [HM.out]; exact hlt
      obtain ⟨A, ci, hcell, _, _⟩ := HP.out k hkp
      have hln := HL.out ps[k] (List.getElem_mem hkp)
      have hsn := sumL_succ ps k hkp
      rw [HS.out] at hsn
      obtain ⟨ln, hln0⟩ : ∃ ln, ps[k].length = ln := ⟨_, rfl⟩
      rw [hln0] at hcell hln hsn
      have HN := Lib.hid hsn
      have hz : ¬ ((s : Int) + (ln : Int) < 0) := by omega
      clear hsn hln0
      go_wp2_with fail
      go_round
      case rel => exact ⟨k + 1, by omega, by go_num, by rw [HN.out]; go_num⟩
      case measure => simp [intOf]; omega
    · obtain rfl : k = m := by omega
      have hG := Lib.hid (GrowR_calls w s (by omega))
      go_wp2_with (go_at_call 84; (with_reducible refine hG.out.mono ?_); rintro e w2 ⟨v2, rfl, h2⟩; refine park ?_; intro q hq)
      have HO2 := Lib.hid h2.out.1
      have HB2 := Lib.hid h2.out.2
      obtain ⟨A2, c2, hv2, _⟩ := h2.out.1.sl
      rw [List.length_nil] at hv2
      subst hv2
      clear h2 hG
      refine hq.out ?_
      clear hq
      go_wp2_with fail
      go_loopw [6, 27] (fun v i wr => ∃ j : Nat, j ≤ k ∧ i = .int .i64 (j : Int) ∧ Hid (OwnVs wr w.heap.size 30 v (ps.take j).flatten ∧ Below w.heap.size w wr)) (fun _ i _ => k - (intOf i).toNat)
      case atStart => exact ⟨0, Nat.zero_le _, rfl, HO2.out, HB2.out⟩
      case round =>
        obtain ⟨j, hj, rfl, HR⟩ := hrel
        by_cases hjt : j < k
        · have hjp : j < ps.length := by rw [HM.out]; exact hjt
          obtain ⟨A, ci, hcell0, hnl, hval⟩ := HP.out j hjp
          have hlt' : g < w.heap.size := by
            have := hcell0
            simp only [World.cell?] at this
            rcases Nat.lt_or_ge g w.heap.size with h' | h'
            · exact h'
            · rw [Array.getElem?_eq_none h'] at this; simp at this
          have hcell := (HR.out.2.cell (p := ⟨g, j, none⟩) hlt').trans hcell0
          have hln := HL.out ps[j] (List.getElem_mem hjp)
          have HFl := Lib.hid (flat_succ ps j hjp)
          have hsl2 := sumL_le ps HL.out j (by omega)
          have HF2 : Hid ((ps.take j).flatten.length ≤ 100000 * 100) := by show _ ≤ _; rw [flat_len]; omega
          obtain ⟨p, hp0⟩ : ∃ p, ps[j] = p := ⟨_, rfl⟩
          have hone := H1.out ps[j] (List.getElem_mem hjp)
          rw [hp0] at hcell hval hln HFl hone
          have HVal := Lib.hid (hval.below HR.out.2)
          have HOne := Lib.hid hone
          have HNl := Lib.hid hnl
          obtain ⟨ln, hln0⟩ : ∃ ln, p.length = ln := ⟨_, rfl⟩
          rw [hln0] at hcell hln
          have HLn := Lib.hid hln0
          clear hcell0 hnl hval hp0 hone hln0 hsl2
          go_wp2_with (with_reducible refine park_append ?_; intro q hq)
          refine hq.out ?_
          clear hq
          refine wpList_append_vals elRow rfl _ _ rfl w.heap.size _ (ps.take j).flatten rfl HR.out.1 A ln ci p rfl HLn.out.symm HNl.out HVal.out HOne.out (by rw [HLn.out]; have := HF2.out; omega) HR.out.2.size ?_
          intro v3 w3 H3
          have HN : Hid (OwnVs w3 w.heap.size 30 v3 (ps.take (j + 1)).flatten ∧ Below w.heap.size w w3) := ⟨by rw [HFl.out]; exact H3.out.1, HR.out.2.grown H3.out.2 HR.out.2.size (fun b hb => (HR.out.1.lt b hb).1)⟩
          clear H3 HR HVal
          go_wp2_with fail
          go_roundw
          case rel => exact ⟨j + 1, by omega, by go_num, HN⟩
          case measure => simp [intOf]; omega
        · obtain rfl : j = k := by omega
          go_wp2_with fail
          go_ret
          exact ⟨_, rfl, by have := HR.out.1; rwa [List.take_of_length_le (by rw [HM.out]; exact Nat.le_refl _)] at this, HR.out.2⟩
set_option maxRecDepth 10000 in
set_option maxHeartbeats 1000000 in
theorem CloneI_calls {w : World} {A : Option Addr} {n c : Nat} {xs : List Value} (h : ValsAt w A xs) (hn : n = xs.length) (hnil : A = none → c = 0) (h1 : ∀ u ∈ xs, u.oneCell' = true) (hl : n ≤ 1000000) :
    Calls Tryd.prog 81 #[.slice A n c] w fun e w' => ∃ v, e = .returned v ∧ Hid (OwnVs w' w.heap.size 3 v xs ∧ Below w.heap.size w w') := by
  have hq0 := fun (w' : World) => Lib.run_eql_slice_nil (P := Tryd.prog) w' 24 3 A n c 0 0 Tryd.underlying24
  cases A with
  | none =>
    have hxs : xs = [] := by
      rcases xs with _ | ⟨y, ys⟩
      · rfl
      · obtain ⟨ad, hA, _⟩ := h 0 (Nat.succ_pos _); cases hA
    subst hxs
    obtain rfl : n = 0 := hn
    obtain rfl := hnil rfl
    clear h hnil
    go_enter Tryd.func81, Tryd.ntmps81
    go_wp2_with fail
    go_ret
    exact ⟨_, rfl, World.ownsRow_nil _ _ _ _, Below.refl _ _⟩
  | some ad =>
    have HU := Lib.hid h
    have HN := Lib.hid hn
    have H1 := Lib.hid h1
    clear h hnil hn h1
    go_enter Tryd.func81, Tryd.ntmps81
    go_wp2_with (with_reducible refine park_append ?_; intro q hq)
    refine hq.out ?_
    clear hq
    refine wpList_append_vals elInt rfl _ _ rfl w.heap.size _ [] rfl (OwnVs.lit w _ (Nat.le_refl _) [] (by decide)) (some ad) n c xs rfl HN.out (fun h => by cases h) (HU.out.below ((Below.refl _ _).alloc (Nat.le_refl _) _)) H1.out (by rw [← HN.out]; simp; omega) (by simp) ?_
    intro v w' H
    have HF : Hid (OwnVs w' w.heap.size 3 v xs ∧ Below w.heap.size w w') := ⟨H.out.1, ((Below.refl _ _).alloc (Nat.le_refl _) _).grown H.out.2 (by simp) (fun k hk => by cases hk; exact Nat.le_refl _)⟩
    clear H HU
    go_wp2_with fail
    go_ret
    exact ⟨v, rfl, HF.out⟩
set_option maxRecDepth 10000 in
set_option maxHeartbeats 1000000 in
theorem GrowI_calls (w : World) (n : Nat) (hn : n ≤ 1000000000) :
    Calls Tryd.prog 85 #[.slice none 0 0, .int .i64 (n : Int)] w fun e w' => ∃ v, e = .returned v ∧ Hid (OwnVs w' w.heap.size 3 v [] ∧ Below w.heap.size w w') := by
  by_cases h0 : n = 0
  · subst h0
    go_enter Tryd.func85, Tryd.ntmps85
    go_wp2_with fail
    go_ret
    exact ⟨_, rfl, World.ownsRow_nil _ _ _ _, Below.refl _ _⟩
  · obtain ⟨i, hi, hz0, hz1, hz2⟩ := info_parts elInt.i
    have hpos : 0 < n := by omega
    have hb : n * i.bytes ≤ 281474976710656 := by
      rw [hz2]
      have hb24 := elInt.b24
      exact Nat.le_trans (Nat.mul_le_mul hn hb24) (by decide)
    have hr := Lib.run_append_nil_zeros (P := Tryd.prog) w 24 3 24 3 i _ .i64 .i64 Tryd.underlying24 Tryd.underlying3 hi hz0 n hpos (by rw [hz1]; decide) (by omega) hb
    have hsz : ∀ x : Nat, n ≤ x → (Builtin.zeroCells (Value.int .i64 0).cells n ++ Builtin.zeroCells (Value.int .i64 0).cells (x - n)).size = x := fun x hx => by
      rw [Array.size_append, zeroCells1 _ elInt.z1, zeroCells1 _ elInt.z1]; omega
    have hge := grownCap_ge w n 0 3
    have hgm := grownCap_le_maxLen w n 0 3 (by unfold maxLen; omega)
    obtain ⟨gc, hgc⟩ : ∃ x, grownCap w n 0 3 = x := ⟨_, rfl⟩
    obtain ⟨cur, hcur⟩ : ∃ x, Builtin.zeroCells (Value.int .i64 0).cells n ++ Builtin.zeroCells (Value.int .i64 0).cells (gc - n) = x := ⟨_, rfl⟩
    rw [hgc] at hr hge hgm
    have hs := hsz gc hge
    rw [hcur] at hs
    have hr' : (Builtin.append_ #[24, 3] 24 #[.slice none 0 0, .int .i64 (n : Int)]).run Tryd.prog w = .ok (.slice (some ⟨w.heap.size, 0, none⟩) n gc) (w.drew.alloc (.cells cur 3)) := by rw [← hcur]; exact hr
    have HS := Lib.hid hs
    have HGM := Lib.hid hgm
    have hgm2 : gc ≤ 9223372036854775807 := by unfold maxLen at hgm; omega
    clear hr hsz hs hcur hgc hb hi hz0 hz1 hz2 hgm
    go_enter Tryd.func85, Tryd.ntmps85
    go_wp2_with (with_reducible refine park_append ?_; intro q hq)
    refine hq.out ?_
    clear hq
    refine wpList_plain rfl fun K hK => ?_
    unfold Oper.wp execOp
    simp only [resolve, invoke, builtin, Sem.run_bind, Sem.run_pure, Result.andThen_ok, List.map_toArray, List.map_cons, List.map_nil]
    rw [show ∀ x y : Value, x = .slice none 0 0 → y = .int .i64 (n : Int) → (Builtin.append_ #[24, 3] 24 #[x, y]).run Tryd.prog w = .ok (.slice (some ⟨w.heap.size, 0, none⟩) n gc) (w.drew.alloc (.cells cur 3)) from (fun x y h1 h2 => by rw [h1, h2]; exact hr')]
    rotate_left
    · rfl
    · rfl
    simp only [Result.andThen_ok]
    refine hK _ _ ?_
    have HB : Hid (Below w.heap.size w (w.drew.alloc (.cells cur 3))) := (Below.refl _ _).drew.alloc (Nat.le_refl _) _
    have HR : Hid ((w.drew.alloc (.cells cur 3)).heap[w.heap.size]? = some (.cells cur 3 (0, 0))) := heap_alloc_new w.drew _
    obtain ⟨w2, hw2⟩ : ∃ x, w.drew.alloc (.cells cur 3) = x := ⟨_, rfl⟩
    rw [hw2] at HB HR ⊢
    clear hw2 hr' hK
    go_wp2_with fail
    go_ret
    exact ⟨_, rfl, OwnVs.room (Nat.le_refl _) HR.out HS.out HGM.out, HB.out⟩
set_option maxRecDepth 10000 in
set_option maxHeartbeats 1000000 in
theorem ConcatI_calls {w : World} {g c : Nat} {ps : List (List Value)} (hp : PartsAt w g ps) (hm : ps.length ≤ 100) (h1 : ∀ p ∈ ps, ∀ u ∈ p, u.oneCell' = true) (hl : ∀ p ∈ ps, p.length ≤ 100000) :
    Calls Tryd.prog 58 #[.slice (some ⟨g, 0, none⟩) ps.length c] w fun e w' => ∃ v, e = .returned v ∧ Hid (OwnVs w' w.heap.size 3 v ps.flatten ∧ Below w.heap.size w w') := by
  obtain ⟨m, hm0⟩ : ∃ k, ps.length = k := ⟨_, rfl⟩
  rw [hm0] at hm ⊢
  have HP := Lib.hid hp
  have HM := Lib.hid hm0
  have H1 := Lib.hid h1
  have HL := Lib.hid hl
  clear hp hm0 h1 hl
  go_enter Tryd.func58, Tryd.ntmps58
  go_wp2_with fail
  go_loop [3, 11] (fun s i => ∃ k : Nat, k ≤ m ∧ i = .int .i64 (k : Int) ∧ s = .int .i64 (sumL ps k : Int)) (fun _ i => m - (intOf i).toNat)
  case atStart => exact ⟨0, Nat.zero_le _, rfl, rfl⟩
  case round =>
    obtain ⟨k, hk, rfl, rfl⟩ := hrel
    have hsl := sumL_le ps HL.out k (by rw [HM.out]; exact hk)
    obtain ⟨s, hs⟩ : ∃ s, sumL ps k = s := ⟨_, rfl⟩
    have HS := Lib.hid hs
    rw [hs] at hsl ⊢
    clear hs
    by_cases hlt : k < m
    · have hkp : k < ps.length := by rw [HM.out]; exact hlt
      obtain ⟨A, ci, hcell, _, _⟩ := HP.out k hkp
      have hln := HL.out ps[k] (List.getElem_mem hkp)
      have hsn := sumL_succ ps k hkp
      rw [HS.out] at hsn
      obtain ⟨ln, hln0⟩ : ∃ ln, ps[k].length = ln := ⟨_, rfl⟩
      rw [hln0] at hcell hln hsn
      have HN := Lib.hid hsn
      have hz : ¬ ((s : Int) + (ln : Int) < 0) := by omega
      clear hsn hln0
      go_wp2_with fail
      go_round
      case rel => exact ⟨k + 1, by omega, by go_num, by rw [HN.out]; go_num⟩
      case measure => simp [intOf]; omega
    · obtain rfl : k = m := by omega
      have hG := Lib.hid (GrowI_calls w s (by omega))
      go_wp2_with (go_at_call 85; (with_reducible refine hG.out.mono ?_); rintro e w2 ⟨v2, rfl, h2⟩; refine park ?_; intro q hq)
      have HO2 := Lib.hid h2.out.1
      have HB2 := Lib.hid h2.out.2
      obtain ⟨A2, c2, hv2, _⟩ := h2.out.1.sl
      rw [List.length_nil] at hv2
      subst hv2
      clear h2 hG
      refine hq.out ?_
      clear hq
      go_wp2_with fail
      go_loopw [6, 27] (fun v i wr => ∃ j : Nat, j ≤ k ∧ i = .int .i64 (j : Int) ∧ Hid (OwnVs wr w.heap.size 3 v (ps.take j).flatten ∧ Below w.heap.size w wr)) (fun _ i _ => k - (intOf i).toNat)
      case atStart => exact ⟨0, Nat.zero_le _, rfl, HO2.out, HB2.out⟩
      case round =>
        obtain ⟨j, hj, rfl, HR⟩ := hrel
        by_cases hjt : j < k
        · have hjp : j < ps.length := by rw [HM.out]; exact hjt
          obtain ⟨A, ci, hcell0, hnl, hval⟩ := HP.out j hjp
          have hlt' : g < w.heap.size := by
            have := hcell0
            simp only [World.cell?] at this
            rcases Nat.lt_or_ge g w.heap.size with h' | h'
            · exact h'
            · rw [Array.getElem?_eq_none h'] at this; simp at this
          have hcell := (HR.out.2.cell (p := ⟨g, j, none⟩) hlt').trans hcell0
          have hln := HL.out ps[j] (List.getElem_mem hjp)
          have HFl := Lib.hid (flat_succ ps j hjp)
          have hsl2 := sumL_le ps HL.out j (by omega)
          have HF2 : Hid ((ps.take j).flatten.length ≤ 100000 * 100) := by show _ ≤ _; rw [flat_len]; omega
          obtain ⟨p, hp0⟩ : ∃ p, ps[j] = p := ⟨_, rfl⟩
          have hone := H1.out ps[j] (List.getElem_mem hjp)
          rw [hp0] at hcell hval hln HFl hone
          have HVal := Lib.hid (hval.below HR.out.2)
          have HOne := Lib.hid hone
          have HNl := Lib.hid hnl
          obtain ⟨ln, hln0⟩ : ∃ ln, p.length = ln := ⟨_, rfl⟩
          rw [hln0] at hcell hln
          have HLn := Lib.hid hln0
          clear hcell0 hnl hval hp0 hone hln0 hsl2
          go_wp2_with (with_reducible refine park_append ?_; intro q hq)
          refine hq.out ?_
          clear hq
          refine wpList_append_vals elInt rfl _ _ rfl w.heap.size _ (ps.take j).flatten rfl HR.out.1 A ln ci p rfl HLn.out.symm HNl.out HVal.out HOne.out (by rw [HLn.out]; have := HF2.out; omega) HR.out.2.size ?_
          intro v3 w3 H3
          have HN : Hid (OwnVs w3 w.heap.size 3 v3 (ps.take (j + 1)).flatten ∧ Below w.heap.size w w3) := ⟨by rw [HFl.out]; exact H3.out.1, HR.out.2.grown H3.out.2 HR.out.2.size (fun b hb => (HR.out.1.lt b hb).1)⟩
          clear H3 HR HVal
          go_wp2_with fail
          go_roundw
          case rel => exact ⟨j + 1, by omega, by go_num, HN⟩
          case measure => simp [intOf]; omega
        · obtain rfl : j = k := by omega
          go_wp2_with fail
          go_ret
          exact ⟨_, rfl, by have := HR.out.1; rwa [List.take_of_length_le (by rw [HM.out]; exact Nat.le_refl _)] at this, HR.out.2⟩
end Go.Proofs.YtibmlgkakeakcaaDoor
/- The walks of node.spliced (printed by wip/gen/splicegen.py). -/
set_option linter.unusedSimpArgs false
set_option linter.unusedVariables false
namespace Go.Proofs.YtibmlgkakeakcaaDoor
open Go.RowKit Go.Proofs.YtibmlgkakeakcaaDoor.Crc
theorem run_pre {t e : TypeId} (ht : Tryd.prog.underlying t = some (.slice e)) (hs : ∀ w, (Go.sizeOf (Tryd.prog.elem t)).run Tryd.prog w = .ok 1 w) {A : Option Addr} {n c i : Nat} (hi : i ≤ c) (hnil : A = none → c = 0) :
    ∃ B, (∀ w, (Instr.slice t (.slice A n c) none (some (.int .i64 (i : Int))) (some (.int .i64 (i : Int)))).run Tryd.prog w = .ok (.slice B i i) w) ∧ (B = none → i = 0) ∧ ∀ w xs, ValsAt w A xs → ValsAt w B (xs.take i) := by
  have hr := fun w => @run_slice_hm Tryd.prog w t A n c (by rw [ht, show Tryd.prog.elem t = e from by simp [Program.elem, ht]]) .i64 .i64 (i : Int) (i : Int) (by omega) (by omega) (by omega)
  refine ⟨if i = 0 then A else A.map (·.add (0 * 1)), fun w => ?_, ?_, fun w xs h => ?_⟩
  · rw [hr w, hs w]
    simp [Result.andThen, sliced]
  · by_cases h0 : i = 0
    · exact fun _ => h0
    · rw [if_neg h0]
      intro h
      cases A with
      | none => have := hnil rfl; omega
      | some ad => cases h
  · by_cases h0 : i = 0
    · subst h0; rw [List.take_zero]; exact ValsAt.nil _ _
    · rw [if_neg h0]
      have := (h.dropMap 0).take i
      rw [List.drop_zero] at this
      exact this
theorem run_suf {t e : TypeId} (ht : Tryd.prog.underlying t = some (.slice e)) (hs : ∀ w, (Go.sizeOf (Tryd.prog.elem t)).run Tryd.prog w = .ok 1 w) {A : Option Addr} {n c i : Nat} (hi : i ≤ n) (hc : n ≤ c) (hnil : A = none → c = 0) :
    ∃ B, (∀ w, (Instr.slice t (.slice A n c) (some (.int .i64 (i : Int))) none none).run Tryd.prog w = .ok (.slice B (n - i) (c - i)) w) ∧ (B = none → c - i = 0) ∧ ∀ w xs, xs.length = n → ValsAt w A xs → ValsAt w B (xs.drop i) := by
  have hr := fun w => @run_slice_l Tryd.prog w t A n c (by rw [ht, show Tryd.prog.elem t = e from by simp [Program.elem, ht]]) .i64 (i : Int) (by omega) (by omega)
  refine ⟨if c = i then A else A.map (·.add (i * 1)), fun w => ?_, ?_, fun w xs hl h => ?_⟩
  · rw [hr w, hs w]
    simp [Result.andThen, sliced]
  · by_cases h0 : c = i
    · intro _; omega
    · rw [if_neg h0]
      intro h
      cases A with
      | none => have := hnil rfl; omega
      | some ad => cases h
  · by_cases h0 : c = i
    · have : xs.drop i = [] := List.drop_of_length_le (by omega)
      rw [this]; exact ValsAt.nil _ _
    · rw [if_neg h0, Nat.mul_one]
      exact h.dropMap i
theorem one_take {xs : List Value} (h : ∀ u ∈ xs, u.oneCell' = true) (i : Nat) : ∀ u ∈ xs.take i, u.oneCell' = true := fun u hu => h u (List.mem_of_mem_take hu)
theorem one_drop {xs : List Value} (h : ∀ u ∈ xs, u.oneCell' = true) (i : Nat) : ∀ u ∈ xs.drop i, u.oneCell' = true := fun u hu => h u (List.mem_of_mem_drop hu)
/-- Three slices laid into a row. -/
theorem PartsAt.three {w : World} {g : Nat} {T : TypeId} {fz : Nat × Nat} {B1 B2 B3 : Option Addr} {c1 c2 c3 : Nat} {p1 p2 p3 : List Value} {n1 n2 n3 : Nat} (hb : w.heap[g]? = some (.cells #[.slice B1 n1 c1, .slice B2 n2 c2, .slice B3 n3 c3] T fz))
    (e1 : n1 = p1.length) (e2 : n2 = p2.length) (e3 : n3 = p3.length) (h1 : B1 = none → c1 = 0) (h2 : B2 = none → c2 = 0) (h3 : B3 = none → c3 = 0) (v1 : ValsAt w B1 p1) (v2 : ValsAt w B2 p2) (v3 : ValsAt w B3 p3) : PartsAt w g [p1, p2, p3] := by
  subst e1 e2 e3
  intro i hi
  match i, hi with
  | 0, _ => exact ⟨B1, c1, by rw [cell_of_row _ _ _ _ _ _ hb]; rfl, h1, v1⟩
  | 1, _ => exact ⟨B2, c2, by rw [cell_of_row _ _ _ _ _ _ hb]; rfl, h2, v2⟩
  | 2, _ => exact ⟨B3, c3, by rw [cell_of_row _ _ _ _ _ _ hb]; rfl, h3, v3⟩
theorem PartsAt.two {w : World} {g : Nat} {T : TypeId} {fz : Nat × Nat} {B1 B2 : Option Addr} {c1 c2 : Nat} {p1 p2 : List Value} {n1 n2 : Nat} (hb : w.heap[g]? = some (.cells #[.slice B1 n1 c1, .slice B2 n2 c2] T fz))
    (e1 : n1 = p1.length) (e2 : n2 = p2.length) (h1 : B1 = none → c1 = 0) (h2 : B2 = none → c2 = 0) (v1 : ValsAt w B1 p1) (v2 : ValsAt w B2 p2) : PartsAt w g [p1, p2] := by
  subst e1 e2
  intro i hi
  match i, hi with
  | 0, _ => exact ⟨B1, c1, by rw [cell_of_row _ _ _ _ _ _ hb]; rfl, h1, v1⟩
  | 1, _ => exact ⟨B2, c2, by rw [cell_of_row _ _ _ _ _ _ hb]; rfl, h2, v2⟩
set_option maxRecDepth 10000 in
set_option maxHeartbeats 1000000 in
theorem splicedS_calls {w : World} {A Ai : Option Addr} {n c m ci i j : Nat} {xs ys : List Value} (hx : ValsAt w A xs) (hn : n = xs.length) (hc : n ≤ c) (hcm : c ≤ 9223372036854775807) (hnil : A = none → c = 0) (h1 : ∀ u ∈ xs, u.oneCell' = true) (hi : i ≤ j) (hj : j ≤ n)
    (hy : ValsAt w Ai ys) (hm : m = ys.length) (hynil : Ai = none → ci = 0) (h2 : ∀ u ∈ ys, u.oneCell' = true) (hnl : n ≤ 100000) (hml : m ≤ 100000) :
    Calls Tryd.prog 49 #[.slice A n c, .int .i64 (i : Int), .int .i64 (j : Int), .slice Ai m ci] w fun e w' => ∃ v, e = .returned v ∧ Hid (OwnVs w' w.heap.size 9 v (xs.take i ++ ys ++ xs.drop j) ∧ Below w.heap.size w w') := by
  have hs : ∀ w, (Go.sizeOf (Tryd.prog.elem 22)).run Tryd.prog w = .ok 1 w := fun w => by kernel_rfl
  obtain ⟨B1, r1, b1, v1⟩ := run_pre (n := n) Tryd.underlying22 hs (A := A) (c := c) (i := i) (by omega) hnil
  obtain ⟨B3, r3, b3, v3⟩ := run_suf Tryd.underlying22 hs (A := A) (n := n) (c := c) (i := j) hj hc hnil
  have V1 := Lib.hid (v1 w xs hx)
  have V2 := Lib.hid hy
  have V3 := Lib.hid (v3 w xs hn.symm hx)
  have HL : Hid (i = (xs.take i).length ∧ m = ys.length ∧ n - j = (xs.drop j).length) := ⟨by rw [List.length_take]; omega, hm, by rw [List.length_drop]; omega⟩
  have H1 := Lib.hid b1
  have H3 := Lib.hid b3
  have H2 := Lib.hid hynil
  have O1 : Hid (∀ p ∈ [xs.take i, ys, xs.drop j], ∀ u ∈ p, u.oneCell' = true) := by
    intro p hp
    simp only [List.mem_cons, List.mem_nil_iff, or_false] at hp
    rcases hp with rfl | rfl | rfl
    · exact one_take h1 i
    · exact h2
    · exact one_drop h1 j
  have O2 : Hid (∀ p ∈ [xs.take i, ys, xs.drop j], p.length ≤ 100000) := by
    intro p hp
    simp only [List.mem_cons, List.mem_nil_iff, or_false] at hp
    rcases hp with rfl | rfl | rfl
    · rw [List.length_take]; omega
    · omega
    · rw [List.length_drop]; omega
  obtain ⟨n3, hn3⟩ : ∃ x, n - j = x := ⟨_, rfl⟩
  obtain ⟨c3, hc3⟩ : ∃ x, c - j = x := ⟨_, rfl⟩
  rw [hn3] at r3 HL
  rw [hc3] at r3 H3
  clear hx hn hnil h1 hy hm hynil h2 b1 b3 v1 v3 hs hn3 hc3
  go_enter Tryd.func49, Tryd.ntmps49
  go_wp2_with fail
  go_still_tail 8, (by kernel_rfl)
  change wpList _ _ _ _ _ (w.drewN 1)
  have HB0 : Hid (Below w.heap.size w (w.drewN 1)) := (Below.refl _ _).drew
  have HZ : Hid ((w.drewN 1).heap.size = w.heap.size) := rfl
  obtain ⟨w1, hw1⟩ : ∃ x, w.drewN 1 = x := ⟨_, rfl⟩
  rw [hw1] at HB0 HZ ⊢
  clear hw1
  have hrow := heap_alloc_new w1 (.cells #[.slice B1 i i, .slice Ai m ci, .slice B3 n3 c3] 22)
  have hba : Below w1.heap.size w1 (w1.alloc (.cells #[.slice B1 i i, .slice Ai m ci, .slice B3 n3 c3] 22)) := (Below.refl _ _).alloc (Nat.le_refl _) _
  have HBA : Hid (Below w.heap.size w (w1.alloc (.cells #[.slice B1 i i, .slice Ai m ci, .slice B3 n3 c3] 22))) := HB0.out.trans (by rw [← HZ.out]; exact hba)
  have HC : Hid (Calls Tryd.prog 56 #[.slice (some ⟨w1.heap.size, 0, none⟩) 3 3] (w1.alloc (.cells #[.slice B1 i i, .slice Ai m ci, .slice B3 n3 c3] 22)) fun e w' => ∃ v, e = .returned v ∧ Hid (OwnVs w' (w1.heap.size + 1) 9 v (xs.take i ++ ys ++ xs.drop j) ∧ Below (w1.heap.size + 1) (w1.alloc (.cells #[.slice B1 i i, .slice Ai m ci, .slice B3 n3 c3] 22)) w')) := by
    have h := ConcatS_calls (c := 3) (PartsAt.three hrow HL.out.1 HL.out.2.1 HL.out.2.2 H1.out H2.out H3.out ((V1.out.below HB0.out).below hba) ((V2.out.below HB0.out).below hba) ((V3.out.below HB0.out).below hba)) (show (3 : Nat) ≤ 100 by decide) O1.out O2.out
    rw [show [xs.take i, ys, xs.drop j].flatten = xs.take i ++ ys ++ xs.drop j from by simp, show (w1.alloc (.cells #[.slice B1 i i, .slice Ai m ci, .slice B3 n3 c3] 22)).heap.size = w1.heap.size + 1 from by simp] at h
    exact h
  clear V1 V2 V3 HL H1 H2 H3 O1 O2 hrow hba r1 r3
  go_wp2_with (go_at_call 56; (with_reducible refine HC.out.mono ?_); rintro e w2 ⟨v, rfl, h2⟩)
  go_ret
  exact ⟨v, rfl, h2.out.1.base' (by rw [HZ.out]; omega), HBA.out.trans (h2.out.2.mono (by rw [HZ.out]; omega))⟩
set_option maxRecDepth 10000 in
set_option maxHeartbeats 1000000 in
theorem splicedR_calls {w : World} {A Ai : Option Addr} {n c m ci i j : Nat} {xs ys : List Value} (hx : ValsAt w A xs) (hn : n = xs.length) (hc : n ≤ c) (hcm : c ≤ 9223372036854775807) (hnil : A = none → c = 0) (h1 : ∀ u ∈ xs, u.oneCell' = true) (hi : i ≤ j) (hj : j ≤ n)
    (hy : ValsAt w Ai ys) (hm : m = ys.length) (hynil : Ai = none → ci = 0) (h2 : ∀ u ∈ ys, u.oneCell' = true) (hnl : n ≤ 100000) (hml : m ≤ 100000) :
    Calls Tryd.prog 50 #[.slice A n c, .int .i64 (i : Int), .int .i64 (j : Int), .slice Ai m ci] w fun e w' => ∃ v, e = .returned v ∧ Hid (OwnVs w' w.heap.size 30 v (xs.take i ++ ys ++ xs.drop j) ∧ Below w.heap.size w w') := by
  have hs : ∀ w, (Go.sizeOf (Tryd.prog.elem 23)).run Tryd.prog w = .ok 1 w := fun w => by kernel_rfl
  obtain ⟨B1, r1, b1, v1⟩ := run_pre (n := n) Tryd.underlying23 hs (A := A) (c := c) (i := i) (by omega) hnil
  obtain ⟨B3, r3, b3, v3⟩ := run_suf Tryd.underlying23 hs (A := A) (n := n) (c := c) (i := j) hj hc hnil
  have V1 := Lib.hid (v1 w xs hx)
  have V2 := Lib.hid hy
  have V3 := Lib.hid (v3 w xs hn.symm hx)
  have HL : Hid (i = (xs.take i).length ∧ m = ys.length ∧ n - j = (xs.drop j).length) := ⟨by rw [List.length_take]; omega, hm, by rw [List.length_drop]; omega⟩
  have H1 := Lib.hid b1
  have H3 := Lib.hid b3
  have H2 := Lib.hid hynil
  have O1 : Hid (∀ p ∈ [xs.take i, ys, xs.drop j], ∀ u ∈ p, u.oneCell' = true) := by
    intro p hp
    simp only [List.mem_cons, List.mem_nil_iff, or_false] at hp
    rcases hp with rfl | rfl | rfl
    · exact one_take h1 i
    · exact h2
    · exact one_drop h1 j
  have O2 : Hid (∀ p ∈ [xs.take i, ys, xs.drop j], p.length ≤ 100000) := by
    intro p hp
    simp only [List.mem_cons, List.mem_nil_iff, or_false] at hp
    rcases hp with rfl | rfl | rfl
    · rw [List.length_take]; omega
    · omega
    · rw [List.length_drop]; omega
  obtain ⟨n3, hn3⟩ : ∃ x, n - j = x := ⟨_, rfl⟩
  obtain ⟨c3, hc3⟩ : ∃ x, c - j = x := ⟨_, rfl⟩
  rw [hn3] at r3 HL
  rw [hc3] at r3 H3
  clear hx hn hnil h1 hy hm hynil h2 b1 b3 v1 v3 hs hn3 hc3
  go_enter Tryd.func50, Tryd.ntmps50
  go_wp2_with fail
  go_still_tail 8, (by kernel_rfl)
  change wpList _ _ _ _ _ (w.drewN 1)
  have HB0 : Hid (Below w.heap.size w (w.drewN 1)) := (Below.refl _ _).drew
  have HZ : Hid ((w.drewN 1).heap.size = w.heap.size) := rfl
  obtain ⟨w1, hw1⟩ : ∃ x, w.drewN 1 = x := ⟨_, rfl⟩
  rw [hw1] at HB0 HZ ⊢
  clear hw1
  have hrow := heap_alloc_new w1 (.cells #[.slice B1 i i, .slice Ai m ci, .slice B3 n3 c3] 23)
  have hba : Below w1.heap.size w1 (w1.alloc (.cells #[.slice B1 i i, .slice Ai m ci, .slice B3 n3 c3] 23)) := (Below.refl _ _).alloc (Nat.le_refl _) _
  have HBA : Hid (Below w.heap.size w (w1.alloc (.cells #[.slice B1 i i, .slice Ai m ci, .slice B3 n3 c3] 23))) := HB0.out.trans (by rw [← HZ.out]; exact hba)
  have HC : Hid (Calls Tryd.prog 57 #[.slice (some ⟨w1.heap.size, 0, none⟩) 3 3] (w1.alloc (.cells #[.slice B1 i i, .slice Ai m ci, .slice B3 n3 c3] 23)) fun e w' => ∃ v, e = .returned v ∧ Hid (OwnVs w' (w1.heap.size + 1) 30 v (xs.take i ++ ys ++ xs.drop j) ∧ Below (w1.heap.size + 1) (w1.alloc (.cells #[.slice B1 i i, .slice Ai m ci, .slice B3 n3 c3] 23)) w')) := by
    have h := ConcatR_calls (c := 3) (PartsAt.three hrow HL.out.1 HL.out.2.1 HL.out.2.2 H1.out H2.out H3.out ((V1.out.below HB0.out).below hba) ((V2.out.below HB0.out).below hba) ((V3.out.below HB0.out).below hba)) (show (3 : Nat) ≤ 100 by decide) O1.out O2.out
    rw [show [xs.take i, ys, xs.drop j].flatten = xs.take i ++ ys ++ xs.drop j from by simp, show (w1.alloc (.cells #[.slice B1 i i, .slice Ai m ci, .slice B3 n3 c3] 23)).heap.size = w1.heap.size + 1 from by simp] at h
    exact h
  clear V1 V2 V3 HL H1 H2 H3 O1 O2 hrow hba r1 r3
  go_wp2_with (go_at_call 57; (with_reducible refine HC.out.mono ?_); rintro e w2 ⟨v, rfl, h2⟩)
  go_ret
  exact ⟨v, rfl, h2.out.1.base' (by rw [HZ.out]; omega), HBA.out.trans (h2.out.2.mono (by rw [HZ.out]; omega))⟩
set_option maxRecDepth 10000 in
set_option maxHeartbeats 1000000 in
theorem splicedI_calls {w : World} {A Ai : Option Addr} {n c m ci i j : Nat} {xs ys : List Value} (hx : ValsAt w A xs) (hn : n = xs.length) (hc : n ≤ c) (hcm : c ≤ 9223372036854775807) (hnil : A = none → c = 0) (h1 : ∀ u ∈ xs, u.oneCell' = true) (hi : i ≤ j) (hj : j ≤ n)
    (hy : ValsAt w Ai ys) (hm : m = ys.length) (hynil : Ai = none → ci = 0) (h2 : ∀ u ∈ ys, u.oneCell' = true) (hnl : n ≤ 100000) (hml : m ≤ 100000) :
    Calls Tryd.prog 51 #[.slice A n c, .int .i64 (i : Int), .int .i64 (j : Int), .slice Ai m ci] w fun e w' => ∃ v, e = .returned v ∧ Hid (OwnVs w' w.heap.size 3 v (xs.take i ++ ys ++ xs.drop j) ∧ Below w.heap.size w w') := by
  have hs : ∀ w, (Go.sizeOf (Tryd.prog.elem 24)).run Tryd.prog w = .ok 1 w := fun w => by kernel_rfl
  obtain ⟨B1, r1, b1, v1⟩ := run_pre (n := n) Tryd.underlying24 hs (A := A) (c := c) (i := i) (by omega) hnil
  obtain ⟨B3, r3, b3, v3⟩ := run_suf Tryd.underlying24 hs (A := A) (n := n) (c := c) (i := j) hj hc hnil
  have V1 := Lib.hid (v1 w xs hx)
  have V2 := Lib.hid hy
  have V3 := Lib.hid (v3 w xs hn.symm hx)
  have HL : Hid (i = (xs.take i).length ∧ m = ys.length ∧ n - j = (xs.drop j).length) := ⟨by rw [List.length_take]; omega, hm, by rw [List.length_drop]; omega⟩
  have H1 := Lib.hid b1
  have H3 := Lib.hid b3
  have H2 := Lib.hid hynil
  have O1 : Hid (∀ p ∈ [xs.take i, ys, xs.drop j], ∀ u ∈ p, u.oneCell' = true) := by
    intro p hp
    simp only [List.mem_cons, List.mem_nil_iff, or_false] at hp
    rcases hp with rfl | rfl | rfl
    · exact one_take h1 i
    · exact h2
    · exact one_drop h1 j
  have O2 : Hid (∀ p ∈ [xs.take i, ys, xs.drop j], p.length ≤ 100000) := by
    intro p hp
    simp only [List.mem_cons, List.mem_nil_iff, or_false] at hp
    rcases hp with rfl | rfl | rfl
    · rw [List.length_take]; omega
    · omega
    · rw [List.length_drop]; omega
  obtain ⟨n3, hn3⟩ : ∃ x, n - j = x := ⟨_, rfl⟩
  obtain ⟨c3, hc3⟩ : ∃ x, c - j = x := ⟨_, rfl⟩
  rw [hn3] at r3 HL
  rw [hc3] at r3 H3
  clear hx hn hnil h1 hy hm hynil h2 b1 b3 v1 v3 hs hn3 hc3
  go_enter Tryd.func51, Tryd.ntmps51
  go_wp2_with fail
  go_still_tail 8, (by kernel_rfl)
  change wpList _ _ _ _ _ (w.drewN 1)
  have HB0 : Hid (Below w.heap.size w (w.drewN 1)) := (Below.refl _ _).drew
  have HZ : Hid ((w.drewN 1).heap.size = w.heap.size) := rfl
  obtain ⟨w1, hw1⟩ : ∃ x, w.drewN 1 = x := ⟨_, rfl⟩
  rw [hw1] at HB0 HZ ⊢
  clear hw1
  have hrow := heap_alloc_new w1 (.cells #[.slice B1 i i, .slice Ai m ci, .slice B3 n3 c3] 24)
  have hba : Below w1.heap.size w1 (w1.alloc (.cells #[.slice B1 i i, .slice Ai m ci, .slice B3 n3 c3] 24)) := (Below.refl _ _).alloc (Nat.le_refl _) _
  have HBA : Hid (Below w.heap.size w (w1.alloc (.cells #[.slice B1 i i, .slice Ai m ci, .slice B3 n3 c3] 24))) := HB0.out.trans (by rw [← HZ.out]; exact hba)
  have HC : Hid (Calls Tryd.prog 58 #[.slice (some ⟨w1.heap.size, 0, none⟩) 3 3] (w1.alloc (.cells #[.slice B1 i i, .slice Ai m ci, .slice B3 n3 c3] 24)) fun e w' => ∃ v, e = .returned v ∧ Hid (OwnVs w' (w1.heap.size + 1) 3 v (xs.take i ++ ys ++ xs.drop j) ∧ Below (w1.heap.size + 1) (w1.alloc (.cells #[.slice B1 i i, .slice Ai m ci, .slice B3 n3 c3] 24)) w')) := by
    have h := ConcatI_calls (c := 3) (PartsAt.three hrow HL.out.1 HL.out.2.1 HL.out.2.2 H1.out H2.out H3.out ((V1.out.below HB0.out).below hba) ((V2.out.below HB0.out).below hba) ((V3.out.below HB0.out).below hba)) (show (3 : Nat) ≤ 100 by decide) O1.out O2.out
    rw [show [xs.take i, ys, xs.drop j].flatten = xs.take i ++ ys ++ xs.drop j from by simp, show (w1.alloc (.cells #[.slice B1 i i, .slice Ai m ci, .slice B3 n3 c3] 24)).heap.size = w1.heap.size + 1 from by simp] at h
    exact h
  clear V1 V2 V3 HL H1 H2 H3 O1 O2 hrow hba r1 r3
  go_wp2_with (go_at_call 58; (with_reducible refine HC.out.mono ?_); rintro e w2 ⟨v, rfl, h2⟩)
  go_ret
  exact ⟨v, rfl, h2.out.1.base' (by rw [HZ.out]; omega), HBA.out.trans (h2.out.2.mono (by rw [HZ.out]; omega))⟩
end Go.Proofs.YtibmlgkakeakcaaDoor
/- The walk of node.own (printed by wip/gen/owngen.py). -/
set_option linter.unusedSimpArgs false
set_option linter.unusedVariables false
namespace Go.Proofs.YtibmlgkakeakcaaDoor
open Go.RowKit Go.Proofs.YtibmlgkakeakcaaDoor.Crc
/-- A node whose memory is all one's own. -/
structure NodeOwn (w : World) (B : Nat) (n : NodeM) (kA : Option Addr) (kc : Nat) (vA : Option Addr) (vc : Nat) (iA : Option Addr) (ic : Nat) : Prop where
  k : OwnVs w B 9 (.slice kA n.keys.length kc) (strs n.keys)
  v : OwnRL w B (.slice vA n.vals.length vc) n.vals
  i : OwnVs w B 3 (.slice iA n.kids.length ic) (ints n.kids)
theorem OwnRL.base' {w : World} {B B' : Nat} {v : Value} {ls : List (List UInt8)} (h : OwnRL w B v ls) (hb : B' ≤ B) : OwnRL w B' v ls := by
  obtain ⟨vs, h1, h2⟩ := h
  refine ⟨vs, ?_, fun i hi => ?_⟩
  · refine ⟨h1.1, ?_⟩
    rcases h1.2 with a | ⟨g, cap, cur, a1, a2, r⟩
    · exact .inl a
    · exact .inr ⟨g, cap, cur, a1, Nat.le_trans hb a2, r⟩
  · obtain ⟨A, c, h3, h4⟩ := h2 i hi
    exact ⟨A, c, h3, h4.base hb⟩
theorem NodeOwn.base' {w : World} {B B' : Nat} {n : NodeM} {kA : Option Addr} {kc : Nat} {vA : Option Addr} {vc : Nat} {iA : Option Addr} {ic : Nat} (h : NodeOwn w B n kA kc vA vc iA ic) (hb : B' ≤ B) : NodeOwn w B' n kA kc vA vc iA ic := ⟨h.k.base' hb, h.v.base' hb, h.i.base' hb⟩
theorem NodeOwn.at' {w : World} {B : Nat} {n : NodeM} {kA : Option Addr} {kc : Nat} {vA : Option Addr} {vc : Nat} {iA : Option Addr} {ic : Nat} (h : NodeOwn w B n kA kc vA vc iA ic) : NodeAt w n kA kc vA vc iA ic := by
  obtain ⟨A1, c1, e1, n1, v1, l1, m1, _⟩ := h.k.sl
  obtain ⟨A2, c2, e2, n2, v2, l2, m2, _⟩ := h.i.sl
  obtain ⟨A3, c3, e3, v3, l3, m3, n3⟩ := h.v.slice
  rw [strs_length] at e1 l1
  rw [ints_length] at e2 l2
  obtain ⟨rfl, rfl⟩ : kA = A1 ∧ kc = c1 := by simpa using e1
  obtain ⟨rfl, rfl⟩ : iA = A2 ∧ ic = c2 := by simpa using e2
  obtain ⟨rfl, rfl⟩ : vA = A3 ∧ vc = c3 := by simpa using e3
  exact ⟨v1, v3, v2, ⟨n1, l1, m1⟩, ⟨n3, l3, m3⟩, ⟨n2, l2, m2⟩⟩
theorem NodeOwn.below {w w' : World} {B : Nat} {n : NodeM} {kA : Option Addr} {kc : Nat} {vA : Option Addr} {vc : Nat} {iA : Option Addr} {ic : Nat} (h : NodeOwn w B n kA kc vA vc iA ic) (hb : Below w.heap.size w w') : NodeOwn w' B n kA kc vA vc iA ic := ⟨h.k.below hb, h.v.below hb, h.i.below hb⟩
/-- Blocks that bear a node turn. -/
theorem NodeOwn.keptN {S : Nat → Prop} {w w' : World} {B : Nat} {n : NodeM} {kA : Option Addr} {kc : Nat} {vA : Option Addr} {vc : Nat} {iA : Option Addr} {ic : Nat} (h : NodeOwn w B n kA kc vA vc iA ic) (hk : Kept S w w') (hs : ∀ k cs t fz, S k → w.heap[k]? = some (.cells cs t fz) → t = 28) : NodeOwn w' B n kA kc vA vc iA ic :=
  ⟨h.k.keptT hk (fun k cs hS hc => absurd (hs _ _ _ _ hS hc) (by decide)), h.v.keptBy hk (fun k cs hS hc => absurd (hs _ _ _ _ hS hc) (by decide)) (fun k cs hS hc => absurd (hs _ _ _ _ hS hc) (by decide)), h.i.keptT hk (fun k cs hS hc => absurd (hs _ _ _ _ hS hc) (by decide))⟩
theorem CopL.doneO {B p : Nat} {w1 : World} {lf : Bool} {ks vs : List (List UInt8)} {is : List Int} {t nk nv ni kd vd id : Nat} {kB vB iB : Option Addr} {wr w' : World} (h : CopL B p w1 lf (.slice kB nk kd) (.slice iB ni id) ks vs is t (.slice vB nv vd) wr)
    (ht : vs.length ≤ t) (hnk : ks.length = nk) (hnv : vs.length = nv) (hni : is.length = ni) {q : Nat} {a b c d : Value} (hq : wr.heap[q]? = some (.cells #[a, b, c, d] 28 (0, 0))) (hk : Kept (· = q) wr w') : NodeOwn w' B ⟨lf, ks, vs, is⟩ kB kd vB vd iB id := by
  subst hnk hnv hni
  have hv := h.v
  rw [List.take_of_length_le ht] at hv
  have h0 : NodeOwn wr B ⟨lf, ks, vs, is⟩ kB kd vB vd iB id := ⟨h.k, hv, h.i⟩
  exact h0.keptN hk (fun k cs t fz hS hc => by
    rw [show k = q from hS, hq] at hc; injection hc with hc; injection hc with _ h4 _; exact h4.symm)
set_option maxRecDepth 10000 in
set_option maxHeartbeats 4000000 in
theorem ownN_calls {w : World} {n : NodeM} {kA : Option Addr} {kc : Nat} {vA : Option Addr} {vc : Nat} {iA : Option Addr} {ic : Nat} (h : NodeAt w n kA kc vA vc iA ic) (hn : n.keys.length ≤ 1000 ∧ n.vals.length ≤ 1000 ∧ n.kids.length ≤ 1000) (hv : ∀ v ∈ n.vals, v.length ≤ 1000) :
    Calls Tryd.prog 48 #[.agg #[.bool n.leaf, .slice kA n.keys.length kc, .slice vA n.vals.length vc, .slice iA n.kids.length ic]] w fun e w' => ∃ kB kd vB vd iB id, e = .returned (.agg #[.bool n.leaf, .slice kB n.keys.length kd, .slice vB n.vals.length vd, .slice iB n.kids.length id]) ∧ Hid (NodeOwn w' w.heap.size n kB kd vB vd iB id ∧ Below w.heap.size w w') := by
  obtain ⟨lf, ks, vs, is⟩ := n
  obtain ⟨hb1, hr1, hr2⟩ := node2_box' w (.bool lf) (.slice kA ks.length kc) (.slice vA vs.length vc) (.slice iA is.length ic) (.bool false) (.slice none 0 0) (.slice none 0 0) (.slice none 0 0) 28 28
  obtain ⟨w1, hw1⟩ : ∃ w1, (w.alloc (.cells #[.bool lf, .slice kA ks.length kc, .slice vA vs.length vc, .slice iA is.length ic] 28)).alloc (.cells #[.bool false, .slice none 0 0, .slice none 0 0, .slice none 0 0] 28) = w1 := ⟨_, rfl⟩
  rw [hw1] at hb1 hr1 hr2
  have hx := box_cells hr1
  have H := Lib.hid (h.below hb1)
  have HB0 : Hid (Below w.heap.size w w1) := hb1
  have hsz : Hid (w.heap.size ≤ w1.heap.size) := hb1.size
  have HR2 := Lib.hid hr2
  obtain ⟨r, hr0⟩ : ∃ r, w.heap.size = r := ⟨_, rfl⟩
  rw [hr0] at hx HR2
  have HX := Lib.hid hx
  have HNs : Hid (ks.length ≤ 1000 ∧ vs.length ≤ 1000 ∧ is.length ≤ 1000) := hn
  have HVl := Lib.hid hv
  clear hb1 hr1 hr2 hx h hn hv
  obtain ⟨B, hBe⟩ : ∃ B, w1.heap.size = B := ⟨_, rfl⟩
  have hrB : r + 1 < B := by rw [← hBe]; exact (Array.getElem?_eq_some_iff.1 HR2.out).1
  rw [hBe] at hsz HX
  obtain ⟨nk, hnk⟩ : ∃ k, ks.length = k := ⟨_, rfl⟩
  obtain ⟨nv, hnv⟩ : ∃ k, vs.length = k := ⟨_, rfl⟩
  obtain ⟨ni, hni⟩ : ∃ k, is.length = k := ⟨_, rfl⟩
  have HKs : Hid (nk = (strs ks).length ∧ (kA = none → kc = 0) ∧ ValsAt w1 kA (strs ks)) := ⟨by rw [strs_length, hnk], H.out.kn.1, H.out.k⟩
  have HIs : Hid (ni = (ints is).length ∧ (iA = none → ic = 0) ∧ ValsAt w1 iA (ints is)) := ⟨by rw [ints_length, hni], H.out.inn.1, H.out.i⟩
  have HK := Lib.hid hnk
  have HV := Lib.hid hnv
  have HI := Lib.hid hni
  simp only at hw1 ⊢
  simp only [hnk, hnv, hni] at hw1 HX
  rw [hnk, hnv, hni]
  clear hnk hnv hni
  go_enter Tryd.func48, Tryd.ntmps48
  go_wp2_with fail
  clear hw1
  refine wp_region_inv (fun listed a w' => ∃ (l0 l1 l2 l3 l4 l5 l6 l7 l8 l9 l10 : Bool) (x10 x13 x3 : Value), listed = #[l0, l1, l2, l3, l4, l5, l6, l7, l8, l9, l10] ∧ a = ⟨#[Value.agg #[Value.bool lf, Value.slice kA nk kc, Value.slice vA nv vc, Value.slice iA ni ic], Value.pointer (some ⟨r, 0, none⟩), Value.pointer (some ⟨r + 1, 0, none⟩), bif l9 then x3 else undef, undef, undef, bif l0 then Value.pointer (some ⟨r, 0, none⟩) else undef, bif l1 then Value.bool lf else undef, bif l2 then Value.pointer (some ⟨r, 1, none⟩) else undef, bif l3 then Value.slice kA nk kc else undef, bif l4 then x10 else undef, bif l5 then Value.pointer (some ⟨r, 3, none⟩) else undef, bif l6 then Value.slice iA ni ic else undef, bif l7 then x13 else undef, bif l8 then Value.agg #[Value.bool lf, x10, Value.slice none 0 0, x13] else undef, undef, undef, undef, undef, undef, undef, undef, undef, undef, undef, undef, undef, undef, undef, undef, undef, undef], []⟩ ∧ Below B w1 w' ∧ (l4 = true → OwnVs w' B 9 x10 (strs ks)) ∧ (l7 = true → OwnVs w' B 3 x13 (ints is)) ∧ (l9 = true → ∃ p, x3 = .pointer (some ⟨p, 0, none⟩) ∧ B ≤ p ∧ w'.heap[p]? = some (.cells (bif l10 then #[.bool lf, x10, .slice none 0 0, x13] else #[.bool false, .slice none 0 0, .slice none 0 0, .slice none 0 0]) 28 (0, 0))) ∧ (l8 = true → l4 = true ∧ l7 = true) ∧ (l10 = true → l8 = true ∧ l9 = true)) rfl ?_ ?_ ?_
  · exact ⟨false, false, false, false, false, false, false, false, false, false, false, undef, undef, undef, rfl, rfl, by rw [← hBe]; exact (Below.refl _ _).drew, fun h => (by cases h), fun h => (by cases h), fun h => (by cases h), fun h => (by cases h), fun h => (by cases h)⟩
  · intro i o listed a w ho hl hd hI
    rcases i with _ | _ | _ | _ | _ | _ | _ | _ | _ | _ | _ | i
    · -- operation 0
      cases ho
      obtain ⟨l0, l1, l2, l3, l4, l5, l6, l7, l8, l9, l10, x10, x13, x3, rfl, rfl, hB, f4, f7, f9, g8, g10⟩ := hI
      have hBs : B ≤ w.heap.size := by have := hB.size; omega
      have hi : l0 = false := by simpa using hl
      subst hi
      refine wpOp_step rfl (fun K hK => ?_)
      have HK := Lib.hid hK
      clear hK hl hd
      rw [if_pos (by rfl)]
      go_wp2_with fail
      exact HK.out _ _ ⟨true, l1, l2, l3, l4, l5, l6, l7, l8, l9, l10, x10, x13, x3, rfl, rfl, hB, f4, f7, f9, g8, g10⟩
    · -- operation 1
      cases ho
      obtain ⟨l0, l1, l2, l3, l4, l5, l6, l7, l8, l9, l10, x10, x13, x3, rfl, rfl, hB, f4, f7, f9, g8, g10⟩ := hI
      have hBs : B ≤ w.heap.size := by have := hB.size; omega
      have hi : l1 = false := by simpa using hl
      have d0 : l0 = true := by simpa using hd ⟨0, .data⟩ (by simp) rfl
      subst hi d0
      refine wpOp_step rfl (fun K hK => ?_)
      have HK := Lib.hid hK
      clear hK hl hd
      rw [if_pos (by rfl)]
      obtain ⟨z0, z1, z2, z3⟩ := HX.out _ hB
      go_wp2_with fail
      exact HK.out _ _ ⟨true, true, l2, l3, l4, l5, l6, l7, l8, l9, l10, x10, x13, x3, rfl, rfl, hB, f4, f7, f9, g8, g10⟩
    · -- operation 2
      cases ho
      obtain ⟨l0, l1, l2, l3, l4, l5, l6, l7, l8, l9, l10, x10, x13, x3, rfl, rfl, hB, f4, f7, f9, g8, g10⟩ := hI
      have hBs : B ≤ w.heap.size := by have := hB.size; omega
      have hi : l2 = false := by simpa using hl
      subst hi
      refine wpOp_step rfl (fun K hK => ?_)
      have HK := Lib.hid hK
      clear hK hl hd
      rw [if_pos (by rfl)]
      go_wp2_with fail
      exact HK.out _ _ ⟨l0, l1, true, l3, l4, l5, l6, l7, l8, l9, l10, x10, x13, x3, rfl, rfl, hB, f4, f7, f9, g8, g10⟩
    · -- operation 3
      cases ho
      obtain ⟨l0, l1, l2, l3, l4, l5, l6, l7, l8, l9, l10, x10, x13, x3, rfl, rfl, hB, f4, f7, f9, g8, g10⟩ := hI
      have hBs : B ≤ w.heap.size := by have := hB.size; omega
      have hi : l3 = false := by simpa using hl
      have d2 : l2 = true := by simpa using hd ⟨2, .data⟩ (by simp) rfl
      subst hi d2
      refine wpOp_step rfl (fun K hK => ?_)
      have HK := Lib.hid hK
      clear hK hl hd
      rw [if_pos (by rfl)]
      obtain ⟨z0, z1, z2, z3⟩ := HX.out _ hB
      go_wp2_with fail
      exact HK.out _ _ ⟨l0, l1, true, true, l4, l5, l6, l7, l8, l9, l10, x10, x13, x3, rfl, rfl, hB, f4, f7, f9, g8, g10⟩
    · -- operation 4
      cases ho
      obtain ⟨l0, l1, l2, l3, l4, l5, l6, l7, l8, l9, l10, x10, x13, x3, rfl, rfl, hB, f4, f7, f9, g8, g10⟩ := hI
      have hBs : B ≤ w.heap.size := by have := hB.size; omega
      have hi : l4 = false := by simpa using hl
      have d3 : l3 = true := by simpa using hd ⟨3, .data⟩ (by simp) rfl
      have n8 : l8 = false := by cases h : l8; rfl; (have := g8 h; rw [hi] at this; simp at this)
      have n10 : l10 = false := by cases h : l10; rfl; (have := (g10 h).1; rw [n8] at this; cases this)
      subst hi d3 n8 n10
      refine wpOp_step rfl (fun K hK => ?_)
      have HK := Lib.hid hK
      clear hK hl hd
      rw [if_pos (by rfl)]
      refine wp_goCall 80 _ _ (by rfl) Tryd.func80 (by kernel_rfl) (by kernel_rfl) _ (by simp [Act.eval]) (CloneS_calls (HKs.out.2.2.below (by rw [hBe]; exact hB)) HKs.out.1 HKs.out.2.1 (strs_one ks) (by have := HNs.out; have := HKs.out.1; simp only [strs_length, ints_length] at this; omega)) ?_
      rintro e w9 ⟨v9, rfl, h9⟩
      refine ⟨_, rfl, ?_⟩
      have h9v := h9.out.1.base' hBs
      have hB9 : Below B w1 w9 := hB.trans (h9.out.2.mono hBs)
      refine HK.out _ _ ⟨l0, l1, l2, true, true, l5, l6, l7, false, l9, false, v9, x13, x3, rfl, rfl, hB9, fun _ => h9v, fun h => (f7 h).below h9.out.2, fun h => ?_, fun h => (by cases h), fun h => (by cases h)⟩
      obtain ⟨p, h1, h2, h3⟩ := f9 h
      exact ⟨p, h1, h2, (h9.out.2.block p (Array.getElem?_eq_some_iff.1 h3).1).trans h3⟩
    · -- operation 5
      cases ho
      obtain ⟨l0, l1, l2, l3, l4, l5, l6, l7, l8, l9, l10, x10, x13, x3, rfl, rfl, hB, f4, f7, f9, g8, g10⟩ := hI
      have hBs : B ≤ w.heap.size := by have := hB.size; omega
      have hi : l5 = false := by simpa using hl
      subst hi
      refine wpOp_step rfl (fun K hK => ?_)
      have HK := Lib.hid hK
      clear hK hl hd
      rw [if_pos (by rfl)]
      go_wp2_with fail
      exact HK.out _ _ ⟨l0, l1, l2, l3, l4, true, l6, l7, l8, l9, l10, x10, x13, x3, rfl, rfl, hB, f4, f7, f9, g8, g10⟩
    · -- operation 6
      cases ho
      obtain ⟨l0, l1, l2, l3, l4, l5, l6, l7, l8, l9, l10, x10, x13, x3, rfl, rfl, hB, f4, f7, f9, g8, g10⟩ := hI
      have hBs : B ≤ w.heap.size := by have := hB.size; omega
      have hi : l6 = false := by simpa using hl
      have d5 : l5 = true := by simpa using hd ⟨5, .data⟩ (by simp) rfl
      subst hi d5
      refine wpOp_step rfl (fun K hK => ?_)
      have HK := Lib.hid hK
      clear hK hl hd
      rw [if_pos (by rfl)]
      obtain ⟨z0, z1, z2, z3⟩ := HX.out _ hB
      go_wp2_with fail
      exact HK.out _ _ ⟨l0, l1, l2, l3, l4, true, true, l7, l8, l9, l10, x10, x13, x3, rfl, rfl, hB, f4, f7, f9, g8, g10⟩
    · -- operation 7
      cases ho
      obtain ⟨l0, l1, l2, l3, l4, l5, l6, l7, l8, l9, l10, x10, x13, x3, rfl, rfl, hB, f4, f7, f9, g8, g10⟩ := hI
      have hBs : B ≤ w.heap.size := by have := hB.size; omega
      have hi : l7 = false := by simpa using hl
      have d6 : l6 = true := by simpa using hd ⟨6, .data⟩ (by simp) rfl
      have d4 : l4 = true := by simpa using hd ⟨4, .chain⟩ (by simp) rfl
      have n8 : l8 = false := by cases h : l8; rfl; (have := g8 h; rw [hi] at this; simp at this)
      have n10 : l10 = false := by cases h : l10; rfl; (have := (g10 h).1; rw [n8] at this; cases this)
      subst hi d6 d4 n8 n10
      refine wpOp_step rfl (fun K hK => ?_)
      have HK := Lib.hid hK
      clear hK hl hd
      rw [if_pos (by rfl)]
      refine wp_goCall 81 _ _ (by rfl) Tryd.func81 (by kernel_rfl) (by kernel_rfl) _ (by simp [Act.eval]) (CloneI_calls (HIs.out.2.2.below (by rw [hBe]; exact hB)) HIs.out.1 HIs.out.2.1 (ints_one is) (by have := HNs.out; have := HIs.out.1; simp only [strs_length, ints_length] at this; omega)) ?_
      rintro e w9 ⟨v9, rfl, h9⟩
      refine ⟨_, rfl, ?_⟩
      have h9v := h9.out.1.base' hBs
      have hB9 : Below B w1 w9 := hB.trans (h9.out.2.mono hBs)
      refine HK.out _ _ ⟨l0, l1, l2, l3, true, l5, true, true, false, l9, false, x10, v9, x3, rfl, rfl, hB9, fun h => (f4 h).below h9.out.2, fun _ => h9v, fun h => ?_, fun h => (by cases h), fun h => (by cases h)⟩
      obtain ⟨p, h1, h2, h3⟩ := f9 h
      exact ⟨p, h1, h2, (h9.out.2.block p (Array.getElem?_eq_some_iff.1 h3).1).trans h3⟩
    · -- operation 8
      cases ho
      obtain ⟨l0, l1, l2, l3, l4, l5, l6, l7, l8, l9, l10, x10, x13, x3, rfl, rfl, hB, f4, f7, f9, g8, g10⟩ := hI
      have hBs : B ≤ w.heap.size := by have := hB.size; omega
      have hi : l8 = false := by simpa using hl
      have d1 : l1 = true := by simpa using hd ⟨1, .data⟩ (by simp) rfl
      have d4 : l4 = true := by simpa using hd ⟨4, .data⟩ (by simp) rfl
      have d7 : l7 = true := by simpa using hd ⟨7, .data⟩ (by simp) rfl
      subst hi d1 d4 d7
      refine wpOp_step rfl (fun K hK => ?_)
      have HK := Lib.hid hK
      clear hK hl hd
      rw [if_pos (by rfl)]
      have F4 := Lib.hid (f4 rfl)
      have F7 := Lib.hid (f7 rfl)
      clear f4 f7
      obtain ⟨A5, c5, rfl, _⟩ := F4.out.sl
      obtain ⟨A9, c9, rfl, _⟩ := F7.out.sl
      go_wp2_with fail
      exact HK.out _ _ ⟨l0, true, l2, l3, true, l5, l6, true, true, l9, l10, .slice A5 (strs ks).length c5, .slice A9 (ints is).length c9, x3, rfl, rfl, hB, fun _ => F4.out, fun _ => F7.out, f9, fun _ => ⟨rfl, rfl⟩, fun h => ⟨rfl, (g10 h).2⟩⟩
    · -- operation 9
      cases ho
      obtain ⟨l0, l1, l2, l3, l4, l5, l6, l7, l8, l9, l10, x10, x13, x3, rfl, rfl, hB, f4, f7, f9, g8, g10⟩ := hI
      have hBs : B ≤ w.heap.size := by have := hB.size; omega
      have hi : l9 = false := by simpa using hl
      have n10 : l10 = false := by cases h : l10; rfl; (have := (g10 h).2; rw [hi] at this; cases this)
      subst hi n10
      refine wpOp_step rfl (fun K hK => ?_)
      have HK := Lib.hid hK
      clear hK hl hd
      rw [if_pos (by rfl)]
      go_wp2_with fail
      have hba : Below w.heap.size w (w.alloc (.cells #[.bool false, .slice none 0 0, .slice none 0 0, .slice none 0 0] 28)) := (Below.refl _ _).alloc (Nat.le_refl _) _
      exact HK.out _ _ ⟨l0, l1, l2, l3, l4, l5, l6, l7, l8, true, false, x10, x13, .pointer (some ⟨w.heap.size, 0, none⟩), rfl, rfl, hB.trans (hba.mono hBs), fun h => (f4 h).below hba, fun h => (f7 h).below hba, fun _ => ⟨w.heap.size, rfl, hBs, heap_alloc_new w _⟩, g8, fun h => (by cases h)⟩
    · -- operation 10
      cases ho
      obtain ⟨l0, l1, l2, l3, l4, l5, l6, l7, l8, l9, l10, x10, x13, x3, rfl, rfl, hB, f4, f7, f9, g8, g10⟩ := hI
      have hBs : B ≤ w.heap.size := by have := hB.size; omega
      have hi : l10 = false := by simpa using hl
      have d9 : l9 = true := by simpa using hd ⟨9, .data⟩ (by simp) rfl
      have d8 : l8 = true := by simpa using hd ⟨8, .data⟩ (by simp) rfl
      have d0 : l0 = true := by simpa using hd ⟨0, .phase⟩ (by simp) rfl
      have d1 : l1 = true := by simpa using hd ⟨1, .phase⟩ (by simp) rfl
      have d2 : l2 = true := by simpa using hd ⟨2, .phase⟩ (by simp) rfl
      have d3 : l3 = true := by simpa using hd ⟨3, .phase⟩ (by simp) rfl
      have d4 : l4 = true := by simpa using hd ⟨4, .phase⟩ (by simp) rfl
      have d5 : l5 = true := by simpa using hd ⟨5, .phase⟩ (by simp) rfl
      have d6 : l6 = true := by simpa using hd ⟨6, .phase⟩ (by simp) rfl
      have d7 : l7 = true := by simpa using hd ⟨7, .chain⟩ (by simp) rfl
      subst hi d9 d8 d0 d1 d2 d3 d4 d5 d6 d7
      refine wpOp_step rfl (fun K hK => ?_)
      have HK := Lib.hid hK
      clear hK hl hd
      rw [if_pos (by rfl)]
      obtain ⟨p, h1, h2, h3⟩ := f9 rfl
      subst h1
      refine wp_storeRow 28 (.tmp 3) (.tmp 14) rfl p rfl [.bool lf, x10, .slice none 0 0, x13] [.bool false, .slice none 0 0, .slice none 0 0, .slice none 0 0] rfl (by kernel_rfl) rfl (own_ones (f4 rfl) (f7 rfl)) h3 ?_
      intro w9 h9 hk9
      refine HK.out _ _ ⟨true, true, true, true, true, true, true, true, true, true, true, x10, x13, .pointer (some ⟨p, 0, none⟩), rfl, rfl, hB.trans (hk9.below hBs (fun k hk e => by have e' : k = p := e; omega)), fun _ => (f4 rfl).kept hk9 (fun k hk e => ownVs_not (f4 rfl) h3 (by decide) (e ▸ hk)), fun _ => (f7 rfl).kept hk9 (fun k hk e => ownVs_not (f7 rfl) h3 (by decide) (e ▸ hk)), fun _ => ⟨p, rfl, h2, h9.out⟩, g8, fun _ => ⟨rfl, rfl⟩⟩
    · exact absurd ho (by simp)
  · intro listed a w hr hI
    obtain ⟨l0, l1, l2, l3, l4, l5, l6, l7, l8, l9, l10, x10, x13, x3, rfl, rfl, hB, f4, f7, f9, g8, g10⟩ := hI
    have hall := ready_nil_all (by kernel_rfl) rfl hr
    have e0 : l0 = true := by simpa using hall 0
    have e1 : l1 = true := by simpa using hall 1
    have e2 : l2 = true := by simpa using hall 2
    have e3 : l3 = true := by simpa using hall 3
    have e4 : l4 = true := by simpa using hall 4
    have e5 : l5 = true := by simpa using hall 5
    have e6 : l6 = true := by simpa using hall 6
    have e7 : l7 = true := by simpa using hall 7
    have e8 : l8 = true := by simpa using hall 8
    have e9 : l9 = true := by simpa using hall 9
    have e10 : l10 = true := by simpa using hall 10
    clear hall hr
    subst e0 e1 e2 e3 e4 e5 e6 e7 e8 e9 e10
    obtain ⟨p, h1, h2, h3⟩ := f9 rfl
    have HI0 : Hid (CopL B p w1 lf x10 x13 ks vs is 0 (.slice none 0 0) w) := ⟨h3, OwnRL.nil _ _, f4 rfl, f7 rfl, hB⟩
    clear f4 f7 f9 g8 g10 hB h3
    subst h1
    have HP := Lib.hid h2
    clear h2
    obtain ⟨y0, y1, y2, y3⟩ := HX.out w HI0.out.be
    go_wp2_with fail
    simp only [cond_true]
    clear y0 y1 y2 y3
    go_loopw [18] (fun i wr => ∃ t : Nat, t ≤ nv ∧ i = .int .i64 (t : Int) ∧ Hid (∃ v, CopL B p w1 lf x10 x13 ks vs is t v wr)) (fun i _ => nv - (intOf i).toNat)
    case atStart => exact ⟨0, Nat.zero_le _, rfl, _, HI0.out⟩
    case round =>
      obtain ⟨t, ht, rfl, HL⟩ := hrel
      clear HI0
      obtain ⟨v, hcop⟩ := HL.out
      have HC := Lib.hid hcop
      clear hcop HL
      have hnv64 : nv ≤ 9223372036854775807 := by have := HNs.out; have := HV.out; omega
      by_cases hlt : t < nv
      · have hl1 : t < vs.length := by rw [HV.out]; exact hlt
        obtain ⟨b, o, hA⟩ := H.out.v.spot (Nat.lt_of_le_of_lt (Nat.zero_le t) hl1)
        subst hA
        obtain ⟨Ai, ci, hc, hs⟩ := (H.out.below (by rw [hBe]; exact HC.out.be)).v.at t hl1
        try simp only at hc hs
        rw [← atL_eq vs t hl1] at hc hs
        obtain ⟨m, hm⟩ : ∃ m, (atL vs t).length = m := ⟨_, rfl⟩
        rw [hm] at hc hs
        have HM := Lib.hid hm
        have HS := Lib.hid hs
        have HT : Hid (vs.take (t + 1) = vs.take t ++ [atL vs t]) := by show _ = _; rw [List.take_succ_eq_append_getElem hl1, atL_eq vs t hl1]
        have hvl : (atL vs t).length ≤ 1000 := by rw [atL_eq vs t hl1]; exact HVl.out _ (List.getElem_mem hl1)
        rw [hm] at hvl
        have HVl2 := Lib.hid hvl
        have HTl : Hid ((vs.take t).length ≤ 1000000) := by show _ ≤ _; rw [List.length_take]; have := HNs.out; omega
        obtain ⟨A2, c2, hv2, _, _, _, _⟩ := HC.out.v.slice
        obtain ⟨tl, htl⟩ : ∃ tl, (vs.take t).length = tl := ⟨_, rfl⟩
        rw [htl] at hv2
        subst hv2
        have z2 : wr.cell? ⟨p, 2, none⟩ = some (.slice A2 tl c2) := by rw [cell_of_row _ _ _ _ _ _ HC.out.blk]; rfl
        have z2b : (wr.alloc (.cells #[] 5)).cell? ⟨p, 2, none⟩ = some (.slice A2 tl c2) := ((((Below.refl _ _).alloc (Nat.le_refl _) _)).cell (Array.getElem?_eq_some_iff.1 HC.out.blk).1).trans z2
        clear hs hm hvl hl1 htl
        have hba : Below wr.heap.size wr (wr.drew.alloc (.cells #[] 5)) := (Below.refl _ _).drew.alloc (Nat.le_refl _) _
        have HO5 : Hid (OwnB (wr.drew.alloc (.cells #[] 5)) wr.heap.size (.slice (some ⟨wr.heap.size, 0, none⟩) 0 0) []) := OwnB.lit wr.drew wr.heap.size (Nat.le_refl _) [] [] rfl 0 rfl (by decide)
        have HB5 := Lib.hid hba
        have HBy : Hid (Bytes (wr.drew.alloc (.cells #[] 5)) Ai (atL vs t)) := HS.out.2.1.below hba
        clear hba
        have hBs : B ≤ wr.heap.size := by rw [← hBe]; exact HC.out.be.size
        go_wp2_with fail
        go_region_law (first | (refine step_of (by rfl) (wp_append_bytesO _ _ (by rfl) wr.heap.size (.slice (some ⟨wr.heap.size, 0, none⟩) 0 0) [] (by rfl) HO5.out Ai m ci (atL vs t) (by rfl) HM.out.symm HS.out.2.2.2.2 HBy.out (by have := HVl2.out; rw [HM.out]; simp only [List.length_nil]; omega) HB5.out.size ?_); intro v5 w5 H5; obtain ⟨A5, c5, hv5⟩ := H5.out.1.slice'; rw [List.nil_append, HM.out] at hv5; subst hv5; have HC5 := Lib.hid (CopL.cell HC.out HO5.out HB5.out H5.out HM.out hBs); have z5 := HC5.out.1; have z5a := HC5.out.2.1) | (refine step_of (by rfl) (wp_append_rowO _ _ (by rfl) B (.slice A2 tl c2) (vs.take t) (by rfl) HC5.out.2.2.1 ⟨w5.heap.size, 0, none⟩ 1 A5 m c5 (atL vs t) (by rfl) (by rw [Addr.add_lit, cell_of_row _ _ _ _ _ _ (heap_alloc_new w5 _)]; rfl) HC5.out.2.2.2.1 HTl.out HC5.out.2.2.2.2.1 ?_); intro v9 w9 H9; obtain ⟨A9, c9, hv9, _, _, _, _⟩ := H9.out.1.slice; obtain ⟨l9, hl9⟩ : ∃ l9, (vs.take t ++ [atL vs t]).length = l9 := ⟨_, rfl⟩; rw [hl9] at hv9; subst hv9; clear hl9; have HC9 := Lib.hid (CopL.put HC5.out.2.2.2.2.2 H9.out HT.out); have z9 := HC9.out.1; have f9 := HC9.out.2.1))
        all_goals
          have HF := HC9.out.2.2 HC5.out.2.2.2.2.1 HP.out
          have HFh := Lib.hid HF
          clear HF z9 f9 z5 z5a z2 z2b
          go_wp2_with fail
          exact ⟨⟨t + 1, by omega, by simp, _, HFh.out⟩, by simp [intOf]; omega⟩
      · obtain ⟨kB, kd, hk1, hk2, hk3, hk4, hk5, hk6⟩ := HC.out.k.sl
        obtain ⟨iB, id, hi1, hi2, hi3, hi4, hi5, hi6⟩ := HC.out.i.sl
        obtain ⟨vB, vd, hv1, hv2, hv3, hv4, hv5⟩ := HC.out.v.slice
        rw [List.take_of_length_le (by rw [HV.out]; omega)] at hv1 hv2
        rw [strs_length, HK.out] at hk1
        rw [ints_length, HI.out] at hi1
        rw [HV.out] at hv1
        subst hk1 hi1 hv1
        have hq := (HC.out.be.block (r + 1) hrB).trans HR2.out
        obtain ⟨q0, q1, q2, q3⟩ := row4_cells hq
        obtain ⟨q4, q5, q6, q7⟩ := row4_frozen hq
        obtain ⟨p0, p1, p2, p3⟩ := row4_cells HC.out.blk
        have HQ := Lib.hid hq
        clear hk2 hk3 hk4 hk5 hk6 hi2 hi3 hi4 hi5 hi6 hv2 hv3 hv4 hv5 hq
        go_wp2_with fail
        obtain ⟨g1, g2⟩ := row4_put HQ.out (.bool lf) (.slice kB nk kd) (.slice vB nv vd) (.slice iB ni id)
        refine bodyPost_ret_by (results_cell1 rfl _ rfl (run_retNode g1)) rfl ?_
        have hdn := HC.out.doneO (by rw [HV.out]; omega) HK.out HV.out HI.out HQ.out g2
        exact ⟨kB, kd, vB, vd, iB, id, rfl, hdn.base' hsz.out, (HB0.out.trans (HC.out.be.mono hsz.out)).trans (g2.below (Nat.le_trans hsz.out (by rw [← hBe]; exact HC.out.be.size)) (fun j hj e => by have e' : j = r + 1 := e; omega))⟩
end Go.Proofs.YtibmlgkakeakcaaDoor
/- The walks of node.checked, first. -/
set_option linter.unusedSimpArgs false
set_option linter.unusedVariables false
namespace Go.Proofs.YtibmlgkakeakcaaDoor
open Go.RowKit Go.Proofs.YtibmlgkakeakcaaDoor.Crc
theorem node2_boxT (w : World) (a b c d a' b' c' d' : Value) (T : TypeId) :
    Below w.heap.size w ((w.alloc (.cells #[a, b, c, d] T)).alloc (.cells #[a', b', c', d'] T)) ∧
    ((w.alloc (.cells #[a, b, c, d] T)).alloc (.cells #[a', b', c', d'] T)).heap[w.heap.size]? = some (.cells #[a, b, c, d] T (0, 0)) ∧
    ((w.alloc (.cells #[a, b, c, d] T)).alloc (.cells #[a', b', c', d'] T)).heap[w.heap.size + 1]? = some (.cells #[a', b', c', d'] T (0, 0)) := node2_box' w a b c d a' b' c' d' T T
set_option maxRecDepth 10000 in
set_option maxHeartbeats 1000000 in
theorem checked_calls {w : World} {n : NodeM} {kA : Option Addr} {kc : Nat} {vA : Option Addr} {vc : Nat} {iA : Option Addr} {ic : Nat} (h : NodeAt w n kA kc vA vc iA ic) (hr : RightM n) :
    Calls Tryd.prog 52 #[.agg #[.bool n.leaf, .slice kA n.keys.length kc, .slice vA n.vals.length vc, .slice iA n.kids.length ic]] w fun e w' => e = .returned (.tuple #[.agg #[.bool n.leaf, .slice kA n.keys.length kc, .slice vA n.vals.length vc, .slice iA n.kids.length ic], .int .i64 0]) ∧ Hid (Below w.heap.size w w') := by
  obtain ⟨h1, h2, h3⟩ := node2_boxT w (.bool n.leaf) (.slice kA n.keys.length kc) (.slice vA n.vals.length vc) (.slice iA n.kids.length ic) (.bool false) (.slice none 0 0) (.slice none 0 0) (.slice none 0 0) 28
  have HRt := Lib.hid (Right_calls (h.below h1))
  rw [rightB_true hr] at HRt
  obtain ⟨nk, hnk⟩ : ∃ k, n.keys.length = k := ⟨_, rfl⟩
  obtain ⟨nv, hnv⟩ : ∃ k, n.vals.length = k := ⟨_, rfl⟩
  obtain ⟨ni, hni⟩ : ∃ k, n.kids.length = k := ⟨_, rfl⟩
  obtain ⟨lf, hlf⟩ : ∃ k, n.leaf = k := ⟨_, rfl⟩
  rw [hnk, hnv, hni, hlf] at h1 h2 h3 HRt ⊢
  obtain ⟨W1, hW1⟩ : ∃ x, (w.alloc (.cells #[.bool lf, .slice kA nk kc, .slice vA nv vc, .slice iA ni ic] 28)).alloc (.cells #[.bool false, .slice none 0 0, .slice none 0 0, .slice none 0 0] 28) = x := ⟨_, rfl⟩
  rw [hW1] at h1 h2 h3
  have HB := Lib.hid h1
  have HX := Lib.hid h2
  have HY := Lib.hid h3
  have HW1 := Lib.hid hW1
  obtain ⟨r, hr0⟩ : ∃ r, w.heap.size = r := ⟨_, rfl⟩
  have HR0 := Lib.hid hr0
  rw [hr0] at HX HY
  clear h1 h2 h3 hW1 h hr hnk hnv hni hlf hr0
  go_enter Tryd.func52, Tryd.ntmps52
  go_wp2_with (go_at_call 14; (with_reducible refine HRt.out.mono ?_); rintro e w2 ⟨rfl, hb2⟩; refine park ?_; intro q hq)
  rw [HW1.out] at hb2
  have hx2 := (hb2.block r (Array.getElem?_eq_some_iff.1 HX.out).1).trans HX.out
  have hy2 := (hb2.block (r + 1) (Array.getElem?_eq_some_iff.1 HY.out).1).trans HY.out
  have HB2 : Hid (Below r w w2) := by rw [← HR0.out]; exact HB.out.trans (hb2.mono HB.out.size)
  obtain ⟨x0, x1, x2, x3⟩ := row4_cells hx2
  obtain ⟨y0, y1, y2, y3⟩ := row4_cells hy2
  obtain ⟨f0, f1, f2, f3⟩ := row4_frozen hy2
  have HY2 := Lib.hid hy2
  clear hx2 hy2 hb2 HRt
  refine hq.out ?_
  clear hq
  simp only [HR0.out]
  go_wp2_with fail
  obtain ⟨g1, g2⟩ := row4_put HY2.out (.bool lf) (.slice kA nk kc) (.slice vA nv vc) (.slice iA ni ic)
  refine bodyPost_ret_by (results_cellTmp rfl _ rfl rfl (run_retNode g1)) rfl ?_
  refine ⟨rfl, ?_⟩
  have hfin := HB2.out.trans (g2.below (by have := (Array.getElem?_eq_some_iff.1 HY2.out).1; omega) (fun k hk e => by have e' : k = r + 1 := e; omega))
  exact (show Below w.heap.size w _ from by rw [HR0.out]; exact hfin)
/-- A key of a node's own is set. -/
theorem NodeOwn.setKey {w : World} {B g : Nat} {n : NodeM} {kc : Nat} {vA : Option Addr} {vc : Nat} {iA : Option Addr} {ic : Nat} (h : NodeOwn w B n (some ⟨g, 0, none⟩) kc vA vc iA ic) (k : Nat) (x : List UInt8) :
    NodeOwn (w.setCell ⟨g, k, none⟩ (strV x)) B ⟨n.leaf, n.keys.set k x, n.vals, n.kids⟩ (some ⟨g, 0, none⟩) kc vA vc iA ic := by
  have hs : Kept (· = g) w (w.setCell ⟨g, k, none⟩ (strV x)) := Kept.set1 w g k _
  obtain ⟨cur, hc⟩ := ownsRow_block h.k (show (Value.slice (some ⟨g, 0, none⟩) n.keys.length kc).ownBlock = some g from rfl)
  have hty : ∀ k cs t fz, k = g → w.heap[k]? = some (.cells cs t fz) → t = 9 := fun k cs t fz e hc' => by
    rw [e, hc] at hc'; injection hc' with hc'; injection hc' with _ h4 _; exact h4.symm
  refine ⟨?_, h.v.keptBy hs (fun k cs hS hc' => absurd (hty _ _ _ _ hS hc') (by decide)) (fun k cs hS hc' => absurd (hty _ _ _ _ hS hc') (by decide)), h.i.keptT hs (fun k cs hS hc' => absurd (hty _ _ _ _ hS hc') (by decide))⟩
  have := h.k.set k (strV x)
  rw [show (strs n.keys).set k (strV x) = strs (n.keys.set k x) from by unfold strs; rw [List.map_set]] at this
  simpa using this
theorem NodeOwn.kB {w : World} {B : Nat} {n : NodeM} {kA : Option Addr} {kc : Nat} {vA : Option Addr} {vc : Nat} {iA : Option Addr} {ic : Nat} (h : NodeOwn w B n kA kc vA vc iA ic) (h0 : 0 < n.keys.length) : ∃ g, kA = some ⟨g, 0, none⟩ ∧ B ≤ g ∧ w.frozen? ⟨g, 0, none⟩ = false ∧ w.cell? ⟨g, 0, none⟩ = some (strV (atL n.keys 0)) ∧ (∀ k cs T fz, k = g → w.heap[k]? = some (.cells cs T fz) → T = 9) ∧ g < w.heap.size := by
  obtain ⟨g, rfl, h1, h2⟩ := h.k.fr 0 (by rw [strs_length]; exact h0)
  have hb := h.k.lt g rfl
  obtain ⟨cur, hc⟩ := ownsRow_block h.k (show (Value.slice (some ⟨g, 0, none⟩) n.keys.length kc).ownBlock = some g from rfl)
  rw [strs_get] at h2
  exact ⟨g, rfl, hb.1, h1, h2, fun k cs T fz e hc' => by rw [e, hc] at hc'; injection hc' with hc'; injection hc' with _ h4 _; exact h4.symm, hb.2⟩
/-- An inner node with the empty text for its first key. -/
def firstM (n : NodeM) : NodeM := if n.leaf = true ∨ n.keys = [] then n else ⟨n.leaf, n.keys.set 0 [], n.vals, n.kids⟩
set_option maxRecDepth 10000 in
set_option maxHeartbeats 1000000 in
theorem firstN_calls {w : World} {B : Nat} {n : NodeM} {kA : Option Addr} {kc : Nat} {vA : Option Addr} {vc : Nat} {iA : Option Addr} {ic : Nat} (h : NodeOwn w B n kA kc vA vc iA ic) (hB : B ≤ w.heap.size) :
    Calls Tryd.prog 53 #[.agg #[.bool n.leaf, .slice kA n.keys.length kc, .slice vA n.vals.length vc, .slice iA n.kids.length ic]] w fun e w' => e = .returned (.agg #[.bool n.leaf, .slice kA n.keys.length kc, .slice vA n.vals.length vc, .slice iA n.kids.length ic]) ∧ Hid (NodeOwn w' B (firstM n) kA kc vA vc iA ic ∧ Below B w w') := by
  obtain ⟨h1, h2, h3⟩ := node2_boxT w (.bool n.leaf) (.slice kA n.keys.length kc) (.slice vA n.vals.length vc) (.slice iA n.kids.length ic) (.bool false) (.slice none 0 0) (.slice none 0 0) (.slice none 0 0) 28
  have HO := Lib.hid (h.below h1)
  have HO0 := Lib.hid h
  have hk0 : Hid (n.leaf = false → 0 < n.keys.length → ∃ g, kA = some ⟨g, 0, none⟩ ∧ B ≤ g ∧ g < w.heap.size) := fun _ h0 => by
    obtain ⟨g, e, hB, _, _, _, hl⟩ := h.kB h0; exact ⟨g, e, hB, hl⟩
  have hf1 : Hid (n.leaf = true ∨ n.keys.length = 0 → firstM n = n) := fun hc => by
    unfold firstM; rw [if_pos]; rcases hc with hc | hc
    · exact .inl hc
    · exact .inr (List.length_eq_zero_iff.1 hc)
  have hf2 : Hid (n.leaf = false → 0 < n.keys.length → firstM n = ⟨n.leaf, n.keys.set 0 [], n.vals, n.kids⟩) := fun hl h0 => by
    unfold firstM; rw [if_neg]; rintro (hc | hc)
    · rw [hl] at hc; cases hc
    · rw [hc] at h0; exact absurd h0 (by simp)
  obtain ⟨nk, hnk⟩ : ∃ k, n.keys.length = k := ⟨_, rfl⟩
  obtain ⟨nv, hnv⟩ : ∃ k, n.vals.length = k := ⟨_, rfl⟩
  obtain ⟨ni, hni⟩ : ∃ k, n.kids.length = k := ⟨_, rfl⟩
  obtain ⟨lf, hlf⟩ : ∃ k, n.leaf = k := ⟨_, rfl⟩
  have HNK := Lib.hid hnk
  have HLF := Lib.hid hlf
  rw [hnk, hnv, hni, hlf] at h1 h2 h3 HO ⊢
  rw [hnk, hlf] at hk0 hf1
  rw [hnk, hlf] at hf2
  obtain ⟨r, hr0⟩ : ∃ r, w.heap.size = r := ⟨_, rfl⟩
  have HR0 := Lib.hid hr0
  have HSz : Hid (B ≤ r) := by rw [← hr0]; exact hB
  rw [hr0] at hk0
  obtain ⟨W1, hW1⟩ : ∃ x, (w.alloc (.cells #[.bool lf, .slice kA nk kc, .slice vA nv vc, .slice iA ni ic] 28)).alloc (.cells #[.bool false, .slice none 0 0, .slice none 0 0, .slice none 0 0] 28) = x := ⟨_, rfl⟩
  rw [hW1] at h1 h2 h3 HO
  rw [hr0] at h1 h2 h3
  have HB := Lib.hid h1
  have HX := Lib.hid h2
  have HY := Lib.hid h3
  have HW1 := Lib.hid hW1
  clear h1 h2 h3 hW1 h hnk hnv hni hlf hr0 hB
  have HQ := Lib.hid (node2_boxT w (.bool lf) (.slice kA nk kc) (.slice vA nv vc) (.slice iA ni ic) (.bool lf) (.slice kA nk kc) (.slice vA nv vc) (.slice iA ni ic) 28)
  cases lf
  · by_cases h0 : nk = 0
    · have HF := Lib.hid (hf1.out (.inr h0))
      have ht : decide (0 < nk) = false := by simp; omega
      have hnb : ¬ 0 < nk := by omega
      have HO2 := Lib.hid HO0.out
      clear h0 hf1 hf2 hk0
      go_enter Tryd.func53, Tryd.ntmps53
      go_wp2_with fail
      refine bodyPost_ret_by (results_cell1 rfl _ rfl (run_retNode HQ.out.2.2)) rfl ?_
      exact ⟨rfl, by rw [HF.out]; exact HO2.out.below HQ.out.1, HQ.out.1.mono (by rw [HR0.out]; exact HSz.out)⟩
    · obtain ⟨g, rfl, hgB, hgr⟩ := hk0.out rfl (by omega)
      have HF := Lib.hid (hf2.out rfl (by omega))
      have ht : decide (0 < nk) = true := by simp; omega
      have hpos : 0 < nk := by omega
      have hgl : g < w.heap.size := by rw [HR0.out]; exact hgr
      have hne1 : ¬ g = w.heap.size := by omega
      have hne2 : ¬ g = w.heap.size + 1 := by omega
      obtain ⟨g', e, _, hfz, hcl, _⟩ := HO0.out.kB (by rw [HNK.out]; exact hpos)
      obtain rfl : g = g' := by simpa using e
      clear h0 hf1 hf2 hk0 e hgr
      go_enter Tryd.func53, Tryd.ntmps53
      go_wp2_with fail
      have hsz : (w.setCell ⟨g, 0, none⟩ (.string { data := #[] })).heap.size = w.heap.size := by simp [World.setCell]
      have HQ2 := node2_boxT (w.setCell ⟨g, 0, none⟩ (.string { data := #[] })) (.bool false) (.slice (some ⟨g, 0, none⟩) nk kc) (.slice vA nv vc) (.slice iA ni ic) (.bool false) (.slice (some ⟨g, 0, none⟩) nk kc) (.slice vA nv vc) (.slice iA ni ic) 28
      have hB2 := HQ2.1
      rw [hsz] at HQ2
      refine bodyPost_ret_by (results_cell1 rfl _ rfl (run_retNode HQ2.2.2)) rfl ?_
      have hset := HO0.out.setKey 0 []
      rw [HLF.out] at hset
      have hs : Kept (· = g) w (w.setCell ⟨g, 0, none⟩ (.string { data := #[] })) := Kept.set1 w g 0 _
      exact ⟨rfl, by rw [HF.out]; exact hset.below hB2, (hs.below (by rw [HR0.out]; exact HSz.out) (fun k hk e => by have e' : k = g := e; omega)).trans (HQ2.1.mono (by rw [HR0.out]; exact HSz.out))⟩
  · have HF := Lib.hid (hf1.out (.inl rfl))
    have HO2 := Lib.hid HO0.out
    clear hf1 hf2 hk0
    go_enter Tryd.func53, Tryd.ntmps53
    go_wp2_with fail
    refine bodyPost_ret_by (results_cell1 rfl _ rfl (run_retNode HQ.out.2.2)) rfl ?_
    exact ⟨rfl, by rw [HF.out]; exact HO2.out.below HQ.out.1, HQ.out.1.mono (by rw [HR0.out]; exact HSz.out)⟩
end Go.Proofs.YtibmlgkakeakcaaDoor
/- Rows as values; a cell taken out: the walk of node.Remove. -/
set_option linter.unusedSimpArgs false
set_option linter.unusedVariables false
namespace Go.Proofs.YtibmlgkakeakcaaDoor
open Go.RowKit Go.Proofs.YtibmlgkakeakcaaDoor.Crc
/-- Values that are rows of one's own. -/
def RowsV (w : World) (B : Nat) (us : List Value) (ls : List (List UInt8)) : Prop := ∃ ps : List (Value × List UInt8), us = ps.map (·.1) ∧ ls = ps.map (·.2) ∧ ∀ p ∈ ps, ∃ A c, p.1 = .slice A p.2.length c ∧ OwnB w B p.1 p.2
theorem RowsV.of_own {w : World} {B : Nat} {v : Value} {ls : List (List UInt8)} (h : OwnRL w B v ls) : ∃ us, OwnVs w B 30 v us ∧ RowsV w B us ls := by
  obtain ⟨us, h1, h2⟩ := h
  have hl : us.length = ls.length := by have := h1.1; omega
  refine ⟨us, by unfold OwnVs; rw [hl]; exact h1, us.zip ls, ?_, ?_, ?_⟩
  · rw [List.map_fst_zip (by omega)]
  · rw [List.map_snd_zip (by omega)]
  · intro p hp
    obtain ⟨i, hi, rfl⟩ := List.getElem_of_mem hp
    rw [List.length_zip] at hi
    obtain ⟨A, c, h3, h4⟩ := h2 i (by omega)
    rw [List.getElem?_eq_getElem (by omega)] at h3
    injection h3 with h3
    rw [List.getElem_zip]
    exact ⟨A, c, h3, by rw [show us[i] = _ from h3]; exact h4⟩
theorem RowsV.own {w : World} {B : Nat} {v : Value} {us : List Value} {ls : List (List UInt8)} (h1 : OwnVs w B 30 v us) (h : RowsV w B us ls) : OwnRL w B v ls := by
  obtain ⟨ps, rfl, rfl, h2⟩ := h
  refine ⟨ps.map (·.1), ?_, fun i hi => ?_⟩
  · have h1' : w.ownsRow B 30 1 v (ps.map (·.1)).length (ps.map (·.1)) := h1
    rw [List.length_map] at h1'
    rw [List.length_map]; exact h1'
  · rw [List.length_map] at hi
    obtain ⟨A, c, h3, h4⟩ := h2 ps[i] (List.getElem_mem hi)
    refine ⟨A, c, ?_, ?_⟩
    · rw [List.getElem?_map, List.getElem?_eq_getElem hi, List.getElem_map]
      simp [h3]
    · rw [List.getElem_map, ← h3]; exact h4
theorem RowsV.append {w : World} {B : Nat} {us us' : List Value} {ls ls' : List (List UInt8)} (h : RowsV w B us ls) (h' : RowsV w B us' ls') : RowsV w B (us ++ us') (ls ++ ls') := by
  obtain ⟨ps, rfl, rfl, h2⟩ := h
  obtain ⟨qs, rfl, rfl, h3⟩ := h'
  refine ⟨ps ++ qs, by simp, by simp, fun p hp => ?_⟩
  rcases List.mem_append.1 hp with hp | hp
  · exact h2 p hp
  · exact h3 p hp
theorem RowsV.take {w : World} {B : Nat} {us : List Value} {ls : List (List UInt8)} (h : RowsV w B us ls) (i : Nat) : RowsV w B (us.take i) (ls.take i) := by
  obtain ⟨ps, rfl, rfl, h2⟩ := h
  exact ⟨ps.take i, by rw [List.map_take], by rw [List.map_take], fun p hp => h2 p (List.mem_of_mem_take hp)⟩
theorem RowsV.drop {w : World} {B : Nat} {us : List Value} {ls : List (List UInt8)} (h : RowsV w B us ls) (i : Nat) : RowsV w B (us.drop i) (ls.drop i) := by
  obtain ⟨ps, rfl, rfl, h2⟩ := h
  exact ⟨ps.drop i, by rw [List.map_drop], by rw [List.map_drop], fun p hp => h2 p (List.mem_of_mem_drop hp)⟩
theorem RowsV.below {w w' : World} {B : Nat} {us : List Value} {ls : List (List UInt8)} (h : RowsV w B us ls) (hb : Below w.heap.size w w') : RowsV w' B us ls := by
  obtain ⟨ps, h0, h1, h2⟩ := h
  refine ⟨ps, h0, h1, fun p hp => ?_⟩
  obtain ⟨A, c, h3, h4⟩ := h2 p hp
  exact ⟨A, c, h3, h4.below hb⟩
theorem RowsV.len {w : World} {B : Nat} {us : List Value} {ls : List (List UInt8)} (h : RowsV w B us ls) : us.length = ls.length := by
  obtain ⟨ps, rfl, rfl, _⟩ := h; simp
theorem RowsV.one {w : World} {B : Nat} {us : List Value} {ls : List (List UInt8)} (h : RowsV w B us ls) : ∀ u ∈ us, u.oneCell' = true := by
  obtain ⟨ps, rfl, rfl, h2⟩ := h
  intro u hu
  obtain ⟨p, hp, rfl⟩ := List.mem_map.1 hu
  obtain ⟨A, c, h3, _⟩ := h2 p hp
  rw [h3]; rfl
/-- A node without its cell i. -/
def delM (n : NodeM) (i : Nat) : NodeM := ⟨n.leaf, n.keys.take i ++ n.keys.drop (i + 1), if n.leaf then n.vals.take i ++ n.vals.drop (i + 1) else n.vals, if n.leaf then n.kids else n.kids.take i ++ n.kids.drop (i + 1)⟩
theorem firstM_shape (n : NodeM) : (firstM n).leaf = n.leaf ∧ (firstM n).keys.length = n.keys.length ∧ (firstM n).vals = n.vals ∧ (firstM n).kids = n.kids := by
  unfold firstM
  split
  · exact ⟨rfl, rfl, rfl, rfl⟩
  · exact ⟨rfl, by simp, rfl, rfl⟩
theorem RightM.lens {n : NodeM} (h : RightM n) : n.vals.length ≤ n.keys.length ∧ n.kids.length ≤ n.keys.length ∧ ∀ v ∈ n.vals, v.length ≤ 49 := by
  have h2 := h.2
  cases hl : n.leaf
  · rw [hl] at h2
    simp only [Bool.false_eq_true, if_false] at h2
    refine ⟨by omega, by omega, fun v hv => ?_⟩
    rw [List.length_eq_zero_iff.1 h2.2.2.1] at hv; cases hv
  · rw [hl] at h2
    simp only [if_true] at h2
    exact ⟨by omega, by omega, h2.2.2⟩
theorem strs_app (a b : List (List UInt8)) : strs (a ++ b) = strs a ++ strs b := by unfold strs; rw [List.map_append]
theorem strs_take (a : List (List UInt8)) (i : Nat) : (strs a).take i = strs (a.take i) := by unfold strs; rw [List.map_take]
theorem strs_drop (a : List (List UInt8)) (i : Nat) : (strs a).drop i = strs (a.drop i) := by unfold strs; rw [List.map_drop]
theorem ints_app (a b : List Int) : ints (a ++ b) = ints a ++ ints b := by unfold ints; rw [List.map_append]
theorem ints_take (a : List Int) (i : Nat) : (ints a).take i = ints (a.take i) := by unfold ints; rw [List.map_take]
theorem ints_drop (a : List Int) (i : Nat) : (ints a).drop i = ints (a.drop i) := by unfold ints; rw [List.map_drop]
theorem row4_set1 {w : World} {r : Nat} {a b c d : Value} {T : TypeId} (h : w.heap[r]? = some (.cells #[a, b, c, d] T (0, 0))) (x : Value) : (w.setCell ⟨r, 1, none⟩ x).heap[r]? = some (.cells #[a, x, c, d] T (0, 0)) := by simp [World.setCell, Array.getElem?_modify, h]
theorem row4_set2 {w : World} {r : Nat} {a b c d : Value} {T : TypeId} (h : w.heap[r]? = some (.cells #[a, b, c, d] T (0, 0))) (x : Value) : (w.setCell ⟨r, 2, none⟩ x).heap[r]? = some (.cells #[a, b, x, d] T (0, 0)) := by simp [World.setCell, Array.getElem?_modify, h]
theorem row4_set3 {w : World} {r : Nat} {a b c d : Value} {T : TypeId} (h : w.heap[r]? = some (.cells #[a, b, c, d] T (0, 0))) (x : Value) : (w.setCell ⟨r, 3, none⟩ x).heap[r]? = some (.cells #[a, b, c, x] T (0, 0)) := by simp [World.setCell, Array.getElem?_modify, h]
end Go.Proofs.YtibmlgkakeakcaaDoor
/- The walk of node.middle. -/
set_option linter.unusedSimpArgs false
set_option linter.unusedVariables false
namespace Go.Proofs.YtibmlgkakeakcaaDoor
open Go.RowKit Go.Proofs.YtibmlgkakeakcaaDoor.Crc
/-- How unlike the halves are, cut at i. -/
def unlN (n : NodeM) (i : Nat) : Int := max (2 * (sizeN n i : Int) - (takenN n : Int)) ((takenN n : Int) - 2 * (sizeN n i : Int))
/-- The first one of the least, among 1 to k. -/
def bestU (u : Nat → Int) : Nat → Nat
  | 0 => 1
  | 1 => 1
  | k + 2 => if u (k + 2) < u (bestU u (k + 1)) then k + 2 else bestU u (k + 1)
theorem bestU_le (u : Nat → Int) : ∀ k, 1 ≤ k → 1 ≤ bestU u k ∧ bestU u k ≤ k
  | 0, h => by omega
  | 1, _ => ⟨Nat.le_refl _, Nat.le_refl _⟩
  | k + 2, _ => by
    have ih := bestU_le u (k + 1) (by omega)
    unfold bestU
    split
    · omega
    · omega
def midN (n : NodeM) : Nat := bestU (unlN n) (n.keys.length - 1)
set_option maxRecDepth 10000 in
set_option maxHeartbeats 1000000 in
theorem middle1_calls {w : World} {p q g m c i : Nat} {s T : Int} (h1 : w.cell? ⟨p, 0, none⟩ = some (.slice (some ⟨g, 0, none⟩) m c)) (h2 : w.cell? ⟨q, 0, none⟩ = some (.int .i64 T)) (h3 : w.cell? ⟨g, i, none⟩ = some (.int .i64 s)) (hi : i < m) (hm : m ≤ 100000) (hs : 0 ≤ s ∧ s ≤ 1000000) (hT : 0 ≤ T ∧ T ≤ 1000000) :
    Calls Tryd.prog 82 #[.int .i64 (i : Int), .pointer (some ⟨p, 0, none⟩), .pointer (some ⟨q, 0, none⟩)] w fun e w' => e = .returned (.int .i64 (max (2 * s - T) (T - 2 * s))) ∧ ∃ n, w' = w.drewN n := by
  obtain ⟨hs0, hs1⟩ := hs
  obtain ⟨hT0, hT1⟩ := hT
  have e1 : IntKind.i64.wrap (2 * s) = 2 * s := IntWalk.i64_in _ (by omega)
  have e2 : IntKind.i64.wrap (2 * s - T) = 2 * s - T := IntWalk.i64_in _ (by omega)
  have e3 : IntKind.i64.wrap (T - 2 * s) = T - 2 * s := IntWalk.i64_in _ (by omega)
  have b1 : (0 : Int) ≤ (i : Int) := by omega
  have b2 : (i : Int) < (m : Int) := by omega
  go_enter Tryd.func82, Tryd.ntmps82
  go_wp2_with fail
  go_quiet (fail)
  go_wp2_with fail
  go_ret
  exact ⟨rfl, nq, rfl⟩
theorem midN_bounds {n : NodeM} (h : 2 ≤ n.keys.length) : 1 ≤ midN n ∧ midN n < n.keys.length := by
  have := bestU_le (unlN n) (n.keys.length - 1) (by omega)
  unfold midN
  omega
set_option maxRecDepth 10000 in
set_option maxHeartbeats 1000000 in
theorem middle_calls {w : World} {n : NodeM} {kA : Option Addr} {kc : Nat} {vA : Option Addr} {vc : Nat} {iA : Option Addr} {ic : Nat} (h : NodeAt w n kA kc vA vc iA ic) (hr : RightM n) (hn : n.keys.length ≤ 1000) (h2 : 2 ≤ n.keys.length) :
    Calls Tryd.prog 54 #[.agg #[.bool n.leaf, .slice kA n.keys.length kc, .slice vA n.vals.length vc, .slice iA n.kids.length ic]] w fun e w' => e = .returned (.int .i64 (midN n : Int)) ∧ Below w.heap.size w w' := by
  obtain ⟨hb1, hr1⟩ := node_box w (.bool n.leaf) (.slice kA n.keys.length kc) (.slice vA n.vals.length vc) (.slice iA n.kids.length ic) 28
  have HSz := Lib.hid (sizes_calls (h.below hb1) hr hn)
  have hsz : ∀ i, i ≤ n.keys.length → sizeN n i ≤ 112 * i := fun i hi => sizeN_le hr i hi
  have HSz2 := Lib.hid hsz
  have HMB := Lib.hid (midN_bounds h2)
  have HBu : Hid (∀ k, 2 ≤ k → k ≤ n.keys.length → bestU (unlN n) k = if unlN n k < unlN n (bestU (unlN n) (k - 1)) then k else bestU (unlN n) (k - 1)) := fun k hk _ => by
    obtain ⟨j, rfl⟩ : ∃ j, k = j + 2 := ⟨k - 2, by omega⟩
    rw [bestU]; rfl
  have HBl : Hid (∀ k, 1 ≤ k → bestU (unlN n) k ≤ k) := fun k hk => (bestU_le _ k hk).2
  have HMd : Hid (midN n = bestU (unlN n) (n.keys.length - 1)) := rfl
  obtain ⟨nk, hnk⟩ : ∃ k, n.keys.length = k := ⟨_, rfl⟩
  obtain ⟨nv, hnv⟩ : ∃ k, n.vals.length = k := ⟨_, rfl⟩
  obtain ⟨ni, hni⟩ : ∃ k, n.kids.length = k := ⟨_, rfl⟩
  obtain ⟨lf, hlf⟩ : ∃ k, n.leaf = k := ⟨_, rfl⟩
  have htk : takenN n = sizeN n nk := by unfold takenN; rw [hnk]
  rw [hnk, hnv, hni, hlf] at hb1 hr1 HSz ⊢
  rw [hnk] at HSz2 HMB hn h2 HMd HBu
  obtain ⟨T, hT⟩ : ∃ T : Int, (takenN n : Int) = T := ⟨_, rfl⟩
  have hT0 : 0 ≤ T ∧ T ≤ 1000000 := by rw [← hT, htk]; have := HSz2.out nk (Nat.le_refl _); omega
  have HTk : Hid ((sizeN n nk : Int) = T) := by show _ = _; rw [← htk]; exact hT
  obtain ⟨W1, hW1⟩ : ∃ x, w.alloc (.cells #[.bool lf, .slice kA nk kc, .slice vA nv vc, .slice iA ni ic] 28) = x := ⟨_, rfl⟩
  rw [hW1] at hb1 hr1
  have HW1 := Lib.hid hW1
  have HB := Lib.hid hb1
  have HX := Lib.hid hr1
  obtain ⟨r, hr0⟩ : ∃ r, w.heap.size = r := ⟨_, rfl⟩
  have HR0 := Lib.hid hr0
  rw [hr0] at HX
  have HUn : Hid (∀ i, unlN n i = max (2 * (sizeN n i : Int) - T) (T - 2 * (sizeN n i : Int))) := fun i => by unfold unlN; rw [hT]
  have HT0 := Lib.hid hT0
  clear hb1 hr1 hsz hnk hnv hni hlf htk hT hT0 hW1 h hr hr0
  go_enter Tryd.func54, Tryd.ntmps54
  go_wp2_with (go_at_call 40; (with_reducible refine HSz.out.mono ?_); rintro e w2 ⟨g, c, rfl, hO, hb2⟩; refine park ?_; intro q hq)
  rw [HW1.out] at hb2 hO
  have hcell : ∀ i, i ≤ nk → w2.cell? ⟨g, i, none⟩ = some (.int .i64 (sizeN n i : Int)) ∧ g < w2.heap.size := fun i hi => by
    have hl : i < (ints (sizesN n nk)).length := by rw [ints_length, sizesN_length]; omega
    obtain ⟨g', hg', _, hc⟩ := hO.fr i hl
    cases hg'
    exact ⟨by rw [hc, ints_get, sizesN_at n _ _ hi]; rfl, (hO.lt g rfl).2⟩
  have hx2 := (hb2.block r (Array.getElem?_eq_some_iff.1 HX.out).1).trans HX.out
  have c1 := (hcell nk (Nat.le_refl _)).1
  rw [HTk.out] at c1
  have hgl := (hcell 0 (Nat.zero_le _)).2
  have HC := Lib.hid hcell
  have HX2 := Lib.hid hx2
  have HB2 : Hid (Below r w w2) := by rw [← HR0.out]; exact HB.out.trans (hb2.mono HB.out.size)
  have hkk : (nk : Int) + 1 - 1 = (nk : Int) := by omega
  have hba : Below w2.heap.size w2 ((w2.alloc (.cells #[.slice (some ⟨g, 0, none⟩) (nk + 1) c] 24)).alloc (.cells #[.int .i64 T] 3)) := (((Below.refl w2.heap.size w2).alloc (Nat.le_refl _) _)).alloc (by simp) _
  have hp4 : ((w2.alloc (.cells #[.slice (some ⟨g, 0, none⟩) (nk + 1) c] 24)).alloc (.cells #[.int .i64 T] 3)).heap[w2.heap.size]? = some (.cells #[.slice (some ⟨g, 0, none⟩) (nk + 1) c] 24 (0, 0)) := (((Below.refl _ (w2.alloc (.cells #[.slice (some ⟨g, 0, none⟩) (nk + 1) c] 24))).alloc (Nat.le_refl _) _).block _ (by simp)).trans (heap_alloc_new w2 _)
  have hq4 : ((w2.alloc (.cells #[.slice (some ⟨g, 0, none⟩) (nk + 1) c] 24)).alloc (.cells #[.int .i64 T] 3)).heap[w2.heap.size + 1]? = some (.cells #[.int .i64 T] 3 (0, 0)) := by
    have h := heap_alloc_new (w2.alloc (.cells #[.slice (some ⟨g, 0, none⟩) (nk + 1) c] 24)) (.cells #[.int .i64 T] 3)
    rw [show (w2.alloc (.cells #[.slice (some ⟨g, 0, none⟩) (nk + 1) c] 24)).heap.size = w2.heap.size + 1 from by simp] at h
    exact h
  clear hcell
  refine hq.out ?_
  clear hq
  go_wp2_with fail
  have hx4 := (hba.block r (Array.getElem?_eq_some_iff.1 HX2.out).1).trans HX2.out
  have hc4 : ∀ i, i ≤ nk → ((w2.alloc (.cells #[.slice (some ⟨g, 0, none⟩) (nk + 1) c] 24)).alloc (.cells #[.int .i64 T] 3)).cell? ⟨g, i, none⟩ = some (.int .i64 (sizeN n i : Int)) := fun i hi => (hba.cell (HC.out i hi).2).trans (HC.out i hi).1
  obtain ⟨W4, hW4⟩ : ∃ x, (w2.alloc (.cells #[.slice (some ⟨g, 0, none⟩) (nk + 1) c] 24)).alloc (.cells #[.int .i64 T] 3) = x := ⟨_, rfl⟩
  obtain ⟨p, hp⟩ : ∃ p, w2.heap.size = p := ⟨_, rfl⟩
  rw [hW4] at hx4 hc4 hp4 hq4 hba ⊢
  simp only [hp, HR0.out]
  rw [hp] at hp4 hq4
  have HM : Hid (∀ i w', i ≤ nk → (∃ m, w' = W4.drewN m) → Calls Tryd.prog 82 #[.int .i64 (i : Int), .pointer (some ⟨p, 0, none⟩), .pointer (some ⟨p + 1, 0, none⟩)] w' fun e w'' => e = .returned (.int .i64 (unlN n i)) ∧ ∃ m, w'' = W4.drewN m) := fun i w' hi hw => by
    obtain ⟨m, rfl⟩ := hw
    have hk := kept_drewN W4 m
    have a1 : (W4.drewN m).cell? ⟨p, 0, none⟩ = some (.slice (some ⟨g, 0, none⟩) (nk + 1) c) := by rw [cell_of_row _ _ _ _ _ _ ((hk.block _ (Array.getElem?_eq_some_iff.1 hp4).1).trans hp4)]; rfl
    have a2 : (W4.drewN m).cell? ⟨p + 1, 0, none⟩ = some (.int .i64 T) := by rw [cell_of_row _ _ _ _ _ _ ((hk.block _ (Array.getElem?_eq_some_iff.1 hq4).1).trans hq4)]; rfl
    have a3 : (W4.drewN m).cell? ⟨g, i, none⟩ = some (.int .i64 (sizeN n i : Int)) := (hk.cell (p := ⟨g, i, none⟩) (Nat.lt_of_lt_of_le (HC.out i hi).2 hba.size)).trans (hc4 i hi)
    have hb := HSz2.out i hi
    refine (middle1_calls a1 a2 a3 (by omega) (by omega) (by omega) HT0.out).mono ?_
    rintro e w'' ⟨rfl, m2, rfl⟩
    exact ⟨by rw [HUn.out], m + m2, by rw [World.drewN_drewN]⟩
  have HB4 : Hid (Below r w W4) := HB2.out.trans (hba.mono (Nat.le_of_lt (Array.getElem?_eq_some_iff.1 HX2.out).1))
  obtain ⟨z0, z1, z2, z3⟩ := row4_cells hx4
  clear hx4 hc4 hp4 hq4 hba hW4 hp hx2 c1 hgl HSz HX2 HB2 hkk hO hb2 HX
  go_loopw [6, 7] (fun a i wr => ∃ k : Nat, 2 ≤ k ∧ k ≤ nk ∧ i = .int .i64 (k : Int) ∧ Hid (a = .int .i64 (bestU (unlN n) (k - 1) : Int)) ∧ ∃ m, wr = W4.drewN m) (fun _ i _ => nk - (intOf i).toNat)
  case atStart => exact ⟨2, Nat.le_refl _, h2, rfl, rfl, 0, rfl⟩
  case round =>
    obtain ⟨k, hk2, hk, rfl, ha, m, rfl⟩ := hrel
    obtain ⟨at0, hat⟩ : ∃ x, bestU (unlN n) (k - 1) = x := ⟨_, rfl⟩
    have hal := HBl.out (k - 1) (by omega)
    rw [hat] at ha hal
    obtain rfl := ha.out
    have HAt := Lib.hid hat
    clear hat ha
    by_cases hlt : k < nk
    · have HBk := Lib.hid (HBu.out k hk2 hk)
      have hal2 : at0 ≤ nk := by omega
      have HM1 := Lib.hid (fun w' h => HM.out k w' hk h)
      have HM2 := Lib.hid (fun w' h => HM.out at0 w' hal2 h)
      by_cases hu : unlN n k < unlN n at0
      · have hd : decide (unlN n k < unlN n at0) = true := decide_eq_true hu
        have HN : Hid (bestU (unlN n) k = k) := by show _ = _; rw [HBk.out, HAt.out, if_pos hu]
        clear hu HBk
        go_wp2_with (go_at_call 82; (with_reducible refine (HM1.out _ ⟨m, rfl⟩).mono ?_); rintro e w' ⟨rfl, m1, rfl⟩; refine park ?_; intro q hq)
        refine hq.out ?_
        clear hq
        go_wp2_with (go_at_call 82; (with_reducible refine (HM2.out _ ⟨m1, rfl⟩).mono ?_); rintro e w' ⟨rfl, m2, rfl⟩)
        go_roundw
        case rel => exact ⟨k + 1, by omega, by omega, by go_num, by show _ = _; rw [Nat.add_sub_cancel, HN.out], m2, rfl⟩
        case measure => simp [intOf]; omega
      · have hd : decide (unlN n k < unlN n at0) = false := decide_eq_false hu
        have HN : Hid (bestU (unlN n) k = at0) := by show _ = _; rw [HBk.out, HAt.out, if_neg hu]
        clear hu HBk
        go_wp2_with (go_at_call 82; (with_reducible refine (HM1.out _ ⟨m, rfl⟩).mono ?_); rintro e w' ⟨rfl, m1, rfl⟩; refine park ?_; intro q hq)
        refine hq.out ?_
        clear hq
        go_wp2_with (go_at_call 82; (with_reducible refine (HM2.out _ ⟨m1, rfl⟩).mono ?_); rintro e w' ⟨rfl, m2, rfl⟩)
        go_roundw
        case rel => exact ⟨k + 1, by omega, by omega, by go_num, by show _ = _; rw [Nat.add_sub_cancel, HN.out], m2, rfl⟩
        case measure => simp [intOf]; omega
    · obtain rfl : k = nk := by omega
      go_wp2_with fail
      go_ret
      exact ⟨by rw [HMd.out, HAt.out]; rfl, by rw [HR0.out]; exact HB4.out.trans ((kept_drewN W4 m).mono (by have := HB4.out.size; rw [← HR0.out]; exact this))⟩
end Go.Proofs.YtibmlgkakeakcaaDoor
/- The walk of node.part (printed by wip/gen/partgen.py). -/
set_option linter.unusedSimpArgs false
set_option linter.unusedVariables false
namespace Go.Proofs.YtibmlgkakeakcaaDoor
open Go.RowKit Go.Proofs.YtibmlgkakeakcaaDoor.Crc
theorem RowsB.mid {w : World} {A : Option Addr} {ls : List (List UInt8)} (h : RowsB w A ls) (a b : Nat) (hab : a < b) (hb : b ≤ ls.length) : RowsB w (A.map (·.add (a * 1))) ((ls.take b).drop a) := by
  obtain ⟨bb, o, rfl⟩ := h.spot (by omega)
  rw [Option.map_some, Nat.mul_one, Addr.add_lit]
  exact (h.takeN b).dropN a
theorem run_mid {t e : TypeId} (ht : Tryd.prog.underlying t = some (.slice e)) (hs : ∀ w, (Go.sizeOf (Tryd.prog.elem t)).run Tryd.prog w = .ok 1 w) {A : Option Addr} {n c i j : Nat} (hij : i ≤ j) (hj : j ≤ n) (hc : n ≤ c) (hnil : A = none → c = 0) :
    ∃ B, (∀ w, (Instr.slice t (.slice A n c) (some (.int .i64 (i : Int))) (some (.int .i64 (j : Int))) (some (.int .i64 (j : Int)))).run Tryd.prog w = .ok (.slice B (j - i) (j - i)) w) ∧ (B = none → j - i = 0) ∧ (∀ w xs, ValsAt w A xs → ValsAt w B ((xs.take j).drop i)) ∧ (∀ w ls, ls.length = n → RowsB w A ls → RowsB w B ((ls.take j).drop i)) := by
  have hr := fun w => @run_slice_lhm Tryd.prog w t A n c (by rw [ht, show Tryd.prog.elem t = e from by simp [Program.elem, ht]]) .i64 .i64 .i64 (i : Int) (j : Int) (j : Int) (by omega) (by omega) (by omega) (by omega)
  refine ⟨if j = i then A else A.map (·.add (i * 1)), fun w => ?_, ?_, fun w xs h => ?_, fun w ls hl h => ?_⟩
  · rw [hr w, hs w]
    simp [Result.andThen, sliced]
  · by_cases h0 : j = i
    · intro _; omega
    · rw [if_neg h0]
      intro h
      cases A with
      | none => have := hnil rfl; omega
      | some ad => cases h
  · by_cases h0 : j = i
    · have : (xs.take j).drop i = [] := List.drop_of_length_le (by rw [List.length_take]; omega)
      rw [this]; exact ValsAt.nil _ _
    · rw [if_neg h0, Nat.mul_one]
      exact (h.take j).dropMap i
  · by_cases h0 : j = i
    · have : (ls.take j).drop i = [] := List.drop_of_length_le (by rw [List.length_take]; omega)
      rw [this]; exact RowsB.nilR _ _
    · rw [if_neg h0]
      exact h.mid i j (by omega) (by omega)
theorem node3_box (w : World) (a b c d a' b' c' d' : Value) (T : TypeId) (w2 : World) (hw : Below (w.heap.size + 2) ((w.alloc (.cells #[a, b, c, d] T)).alloc (.cells #[a', b', c', d'] T)) w2) :
    Below w.heap.size w w2 ∧ w2.heap[w.heap.size]? = some (.cells #[a, b, c, d] T (0, 0)) ∧ w2.heap[w.heap.size + 1]? = some (.cells #[a', b', c', d'] T (0, 0)) := by
  obtain ⟨h1, h2, h3⟩ := node2_boxT w a b c d a' b' c' d' T
  exact ⟨h1.trans (hw.mono (by omega)), (hw.block _ (by omega)).trans h2, (hw.block _ (by omega)).trans h3⟩
def partM (n : NodeM) (a b : Nat) : NodeM := ⟨n.leaf, (n.keys.take b).drop a, if n.leaf then (n.vals.take b).drop a else [], if n.leaf then [] else (n.kids.take b).drop a⟩
set_option maxRecDepth 10000 in
set_option maxHeartbeats 2000000 in
theorem part_inner {w : World} {ks vs : List (List UInt8)} {is : List Int} {kA : Option Addr} {kc : Nat} {vA : Option Addr} {vc : Nat} {iA : Option Addr} {ic : Nat} (h : NodeAt w ⟨false, ks, vs, is⟩ kA kc vA vc iA ic) (hr : RightM ⟨false, ks, vs, is⟩) (hn : ks.length ≤ 1000) (a b : Nat) (hab : a ≤ b) (hb : b ≤ ks.length) :
    Calls Tryd.prog 55 #[.agg #[.bool false, .slice kA ks.length kc, .slice vA vs.length vc, .slice iA is.length ic], .int .i64 (a : Int), .int .i64 (b : Int)] w fun e w' => ∃ kB kd vB vd iB id, e = .returned (.agg #[.bool false, .slice kB (firstM (partM ⟨false, ks, vs, is⟩ a b)).keys.length kd, .slice vB (firstM (partM ⟨false, ks, vs, is⟩ a b)).vals.length vd, .slice iB (firstM (partM ⟨false, ks, vs, is⟩ a b)).kids.length id]) ∧ Hid (NodeOwn w' w.heap.size (firstM (partM ⟨false, ks, vs, is⟩ a b)) kB kd vB vd iB id ∧ Below w.heap.size w w') := by
  obtain ⟨hv1, hv2, hv3⟩ := hr.lens
  have hlen : is.length = ks.length := by have h := hr.2; simp at h; exact h.1
  have hk := h.kn
  have hvn := h.inn
  simp only at hv1 hv2 hk hvn
  have hs1 : ∀ w, (Go.sizeOf (Tryd.prog.elem 22)).run Tryd.prog w = .ok 1 w := fun w => by kernel_rfl
  have hs2 : ∀ w, (Go.sizeOf (Tryd.prog.elem 24)).run Tryd.prog w = .ok 1 w := fun w => by kernel_rfl
  obtain ⟨B1, r1, b1, v1, _⟩ := run_mid (n := ks.length) Tryd.underlying22 hs1 (A := kA) (c := kc) (i := a) (j := b) hab hb hk.2.1 hk.1
  obtain ⟨B2, r2, b2, v2, u2⟩ := run_mid (n := is.length) Tryd.underlying24 hs2 (A := iA) (c := ic) (i := a) (j := b) hab (by omega) hvn.2.1 hvn.1
  have HM : Hid (∀ w', NodeAt w' ⟨false, ks, vs, is⟩ kA kc vA vc iA ic → NodeAt w' (partM ⟨false, ks, vs, is⟩ a b) B1 (b - a) none 0 B2 (b - a)) := by
    intro w' h'
    have hl1 : ((ks.take b).drop a).length = b - a := by rw [List.length_drop, List.length_take]; omega
    have hl2 : ((is.take b).drop a).length = b - a := by rw [List.length_drop, List.length_take]; omega
    refine ⟨?_, RowsB.nilR _ _, ?_, ⟨b1, Nat.le_of_eq hl1, by omega⟩, ⟨fun _ => rfl, Nat.le_refl _, by omega⟩, ⟨b2, Nat.le_of_eq hl2, by omega⟩⟩
    · have := v1 w' _ h'.k; rw [strs_take, strs_drop] at this; exact this
    · have := v2 w' _ h'.i; rw [ints_take, ints_drop] at this; exact this
  have hlk : ((ks.take b).drop a).length = b - a := by rw [List.length_drop, List.length_take]; omega
  have hlv : ((is.take b).drop a).length = b - a := by rw [List.length_drop, List.length_take]; omega
  have HLs : Hid (((ks.take b).drop a).length = b - a ∧ ((is.take b).drop a).length = b - a) := ⟨hlk, hlv⟩
  have HOw : Hid (∀ w', NodeAt w' (partM ⟨false, ks, vs, is⟩ a b) B1 (b - a) none 0 B2 (b - a) → Calls Tryd.prog 48 #[.agg #[.bool false, .slice B1 (b - a) (b - a), .slice none 0 0, .slice B2 (b - a) (b - a)]] w' fun e w'' => ∃ kB kd vB vd iB id, e = .returned (.agg #[.bool false, .slice kB (b - a) kd, .slice vB 0 vd, .slice iB (b - a) id]) ∧ Hid (NodeOwn w'' w'.heap.size (partM ⟨false, ks, vs, is⟩ a b) kB kd vB vd iB id ∧ Below w'.heap.size w' w'')) := fun w' h' => by
    have hq := ownN_calls h' ⟨by show ((ks.take b).drop a).length ≤ 1000; omega, by show ([] : List (List UInt8)).length ≤ 1000; simp, by show ((is.take b).drop a).length ≤ 1000; omega⟩ (fun v hv => by have hv' : v ∈ ([] : List (List UInt8)) := hv; cases hv')
    rw [show (partM ⟨false, ks, vs, is⟩ a b).keys.length = b - a from hlk, show (partM ⟨false, ks, vs, is⟩ a b).vals.length = 0 from rfl, show (partM ⟨false, ks, vs, is⟩ a b).kids.length = b - a from hlv, show (partM ⟨false, ks, vs, is⟩ a b).leaf = false from rfl] at hq
    exact hq
  have HFs : Hid (∀ w' B kB kd vB vd iB id, NodeOwn w' B (partM ⟨false, ks, vs, is⟩ a b) kB kd vB vd iB id → B ≤ w'.heap.size → Calls Tryd.prog 53 #[.agg #[.bool false, .slice kB (b - a) kd, .slice vB 0 vd, .slice iB (b - a) id]] w' fun e w'' => e = .returned (.agg #[.bool false, .slice kB (b - a) kd, .slice vB 0 vd, .slice iB (b - a) id]) ∧ Hid (NodeOwn w'' B (firstM (partM ⟨false, ks, vs, is⟩ a b)) kB kd vB vd iB id ∧ Below B w' w'')) := fun w' B kB kd vB vd iB id h' hB => by
    have hq := firstN_calls h' hB
    rw [show (partM ⟨false, ks, vs, is⟩ a b).keys.length = b - a from hlk, show (partM ⟨false, ks, vs, is⟩ a b).vals.length = 0 from rfl, show (partM ⟨false, ks, vs, is⟩ a b).kids.length = b - a from hlv, show (partM ⟨false, ks, vs, is⟩ a b).leaf = false from rfl] at hq
    exact hq
  have HSh : Hid ((firstM (partM ⟨false, ks, vs, is⟩ a b)).keys.length = b - a ∧ (firstM (partM ⟨false, ks, vs, is⟩ a b)).vals.length = 0 ∧ (firstM (partM ⟨false, ks, vs, is⟩ a b)).kids.length = b - a) := by
    obtain ⟨_, q2, q3, q4⟩ := firstM_shape (partM ⟨false, ks, vs, is⟩ a b)
    exact ⟨q2.trans hlk, by rw [q3]; exact rfl, by rw [q4]; exact hlv⟩
  obtain ⟨nk, hnk⟩ : ∃ k, ks.length = k := ⟨_, rfl⟩
  obtain ⟨nv, hnv⟩ : ∃ k, vs.length = k := ⟨_, rfl⟩
  obtain ⟨ni, hni⟩ : ∃ k, is.length = k := ⟨_, rfl⟩
  have HAt := Lib.hid h
  rw [hnk] at r1
  rw [hni] at r2
  rw [hnk, hnv, hni]
  obtain ⟨d, hd⟩ : ∃ d, b - a = d := ⟨_, rfl⟩
  rw [hd] at r1 r2 HM HLs HOw HFs HSh
  have HN1 := Lib.hid node3_box
  obtain ⟨h1, h2, h3⟩ := node2_boxT w (.bool false) (.slice kA nk kc) (.slice vA nv vc) (.slice iA ni ic) (.bool false) (.slice none 0 0) (.slice none 0 0) (.slice none 0 0) 28
  obtain ⟨W1, hW1⟩ : ∃ x, (w.alloc (.cells #[.bool false, .slice kA nk kc, .slice vA nv vc, .slice iA ni ic] 28)).alloc (.cells #[.bool false, .slice none 0 0, .slice none 0 0, .slice none 0 0] 28) = x := ⟨_, rfl⟩
  rw [hW1] at h1 h2 h3
  have hs2 : W1.heap.size = w.heap.size + 2 := by rw [← hW1]; simp
  have HW1 := Lib.hid hW1
  obtain ⟨r, hr0⟩ : ∃ r, w.heap.size = r := ⟨_, rfl⟩
  rw [hr0] at h1 h2 h3 hs2
  have HB := Lib.hid h1
  have HX := Lib.hid h2
  have HY := Lib.hid h3
  have HR0 := Lib.hid hr0
  have HS2 := Lib.hid hs2
  have HA1 : Hid (NodeAt W1 ⟨false, ks, vs, is⟩ kA kc vA vc iA ic) := HAt.out.below (by rw [hr0]; exact h1)
  clear hv1 hv2 hv3 hlen hk hvn hs1 b1 v1 b2 v2 u2 hlk hlv hnk hnv hni hd h1 h2 h3 hW1 hs2 hr0 h hr HAt HN1 hab hb hn
  go_enter Tryd.func55, Tryd.ntmps55
  go_wp2_with fail
  simp only [HR0.out, HW1.out]
  have hx1 : ∀ w', Below W1.heap.size W1 w' → w'.cell? ⟨r, 0, none⟩ = some (.bool false) ∧ w'.cell? ⟨r, 1, none⟩ = some (.slice kA nk kc) ∧ w'.cell? ⟨r, 2, none⟩ = some (.slice vA nv vc) ∧ w'.cell? ⟨r, 3, none⟩ = some (.slice iA ni ic) := fun w' hb => row4_cells ((hb.block r (Array.getElem?_eq_some_iff.1 HX.out).1).trans HX.out)
  have HX1 := Lib.hid hx1
  clear hx1
  have hd0 : Below W1.heap.size W1 W1.drew := (Below.refl _ _).drew
  have hS0 : W1.drew.cell? ⟨r, 0, none⟩ = some (.bool false) ∧ W1.drew.cell? ⟨r, 1, none⟩ = some (.slice kA nk kc) := ⟨(HX1.out _ hd0).1, (HX1.out _ hd0).2.1⟩
  refine wp_region_M (fun w' => w'.cell? ⟨r, 0, none⟩ = some (.bool false) ∧ w'.cell? ⟨r, 1, none⟩ = some (.slice kA nk kc)) 10 (by as_aux_lemma => kernel_rfl) ?_
  refine mAnyTake (i := 0) (v := .pointer (some ⟨r, 0, none⟩)) (some 8) [0, 1, 8, 10] (by as_aux_lemma => kernel_rfl) rfl rfl (by decide) (by as_aux_lemma => kernel_rfl) rfl rfl (by as_aux_lemma => kernel_rfl) (by as_aux_lemma => kernel_rfl) (by as_aux_lemma => kernel_rfl) (fun _ _ _ h => h) (Or.inl ⟨by rfl, fun w => by go_simp⟩) hS0 ?_
  try simp only [Act.put, List.setIfInBounds_toArray, List.set_cons_zero, List.set_cons_succ]
  refine mTake (i := 1) (v := .bool false) (some 9) [1, 8, 10] (by as_aux_lemma => kernel_rfl) rfl rfl (by decide) (by as_aux_lemma => kernel_rfl) rfl rfl (by as_aux_lemma => kernel_rfl) (by as_aux_lemma => kernel_rfl) (by as_aux_lemma => kernel_rfl) (fun _ _ _ h => h) (Or.inl ⟨by rfl, fun w h => by ((obtain ⟨h1, h2⟩ := h); go_simp)⟩) hS0 ?_
  try simp only [Act.put, List.setIfInBounds_toArray, List.set_cons_zero, List.set_cons_succ]
  refine mAnyTake (i := 2) (v := .pointer (some ⟨r, 1, none⟩)) (some 10) [2, 3, 7, 8, 10] (by as_aux_lemma => kernel_rfl) rfl rfl (by decide) (by as_aux_lemma => kernel_rfl) rfl rfl (by as_aux_lemma => kernel_rfl) (by as_aux_lemma => kernel_rfl) (by as_aux_lemma => kernel_rfl) (fun _ _ _ h => h) (Or.inl ⟨by rfl, fun w => by go_simp⟩) hS0 ?_
  try simp only [Act.put, List.setIfInBounds_toArray, List.set_cons_zero, List.set_cons_succ]
  refine mTake (i := 3) (v := .slice kA nk kc) (some 11) [3, 7, 8, 10] (by as_aux_lemma => kernel_rfl) rfl rfl (by decide) (by as_aux_lemma => kernel_rfl) rfl rfl (by as_aux_lemma => kernel_rfl) (by as_aux_lemma => kernel_rfl) (by as_aux_lemma => kernel_rfl) (fun _ _ _ h => h) (Or.inl ⟨by rfl, fun w h => by ((obtain ⟨h1, h2⟩ := h); go_simp)⟩) hS0 ?_
  try simp only [Act.put, List.setIfInBounds_toArray, List.set_cons_zero, List.set_cons_succ]
  refine mAnyTake (i := 4) (v := .int .i64 (a : Int)) (some 12) [4, 7, 8, 10] (by as_aux_lemma => kernel_rfl) rfl rfl (by decide) (by as_aux_lemma => kernel_rfl) rfl rfl (by as_aux_lemma => kernel_rfl) (by as_aux_lemma => kernel_rfl) (by as_aux_lemma => kernel_rfl) (fun _ _ _ h => h) (Or.inl ⟨by rfl, fun w => by go_simp⟩) hS0 ?_
  try simp only [Act.put, List.setIfInBounds_toArray, List.set_cons_zero, List.set_cons_succ]
  refine mAnyTake (i := 5) (v := .int .i64 (b : Int)) (some 13) [5, 7, 8, 10] (by as_aux_lemma => kernel_rfl) rfl rfl (by decide) (by as_aux_lemma => kernel_rfl) rfl rfl (by as_aux_lemma => kernel_rfl) (by as_aux_lemma => kernel_rfl) (by as_aux_lemma => kernel_rfl) (fun _ _ _ h => h) (Or.inl ⟨by rfl, fun w => by go_simp⟩) hS0 ?_
  try simp only [Act.put, List.setIfInBounds_toArray, List.set_cons_zero, List.set_cons_succ]
  refine mAnyTake (i := 6) (v := .int .i64 (b : Int)) (some 14) [6, 7, 8, 10] (by as_aux_lemma => kernel_rfl) rfl rfl (by decide) (by as_aux_lemma => kernel_rfl) rfl rfl (by as_aux_lemma => kernel_rfl) (by as_aux_lemma => kernel_rfl) (by as_aux_lemma => kernel_rfl) (fun _ _ _ h => h) (Or.inl ⟨by rfl, fun w => by go_simp⟩) hS0 ?_
  try simp only [Act.put, List.setIfInBounds_toArray, List.set_cons_zero, List.set_cons_succ]
  refine mAnyTake (i := 7) (v := .slice B1 d d) (some 15) [7, 8, 10] (by as_aux_lemma => kernel_rfl) rfl rfl (by decide) (by as_aux_lemma => kernel_rfl) rfl rfl (by as_aux_lemma => kernel_rfl) (by as_aux_lemma => kernel_rfl) (by as_aux_lemma => kernel_rfl) (fun _ _ _ h => h) (Or.inl ⟨by rfl, fun w => by go_simp⟩) hS0 ?_
  try simp only [Act.put, List.setIfInBounds_toArray, List.set_cons_zero, List.set_cons_succ]
  refine mAnyTake (i := 8) (v := .agg #[.bool false, .slice B1 d d, .slice none 0 0, .slice none 0 0]) (some 16) [8, 10] (by as_aux_lemma => kernel_rfl) rfl rfl (by decide) (by as_aux_lemma => kernel_rfl) rfl rfl (by as_aux_lemma => kernel_rfl) (by as_aux_lemma => kernel_rfl) (by as_aux_lemma => kernel_rfl) (fun _ _ _ h => h) (Or.inl ⟨by rfl, fun w => by go_simp⟩) hS0 ?_
  try simp only [Act.put, List.setIfInBounds_toArray, List.set_cons_zero, List.set_cons_succ]
  have HS0 := Lib.hid hS0
  clear hS0
  have hba : Below W1.heap.size W1 ((W1.alloc (.cells #[.bool false, .slice none 0 0, .slice none 0 0, .slice none 0 0] 28)).drew) := ((Below.refl _ _).alloc (Nat.le_refl _) _).drew
  have hS9 : ((W1.alloc (.cells #[.bool false, .slice none 0 0, .slice none 0 0, .slice none 0 0] 28)).drew).cell? ⟨r, 0, none⟩ = some (.bool false) ∧ ((W1.alloc (.cells #[.bool false, .slice none 0 0, .slice none 0 0, .slice none 0 0] 28)).drew).cell? ⟨r, 1, none⟩ = some (.slice kA nk kc) := ⟨(HX1.out _ hba).1, (HX1.out _ hba).2.1⟩
  have hp9 : ((W1.alloc (.cells #[.bool false, .slice none 0 0, .slice none 0 0, .slice none 0 0] 28)).drew).heap[r + 2]? = some (.cells #[.bool false, .slice none 0 0, .slice none 0 0, .slice none 0 0] 28 (0, 0)) := by rw [← HS2.out]; exact heap_alloc_new W1 _
  have HBA := Lib.hid hba
  have HP9 := Lib.hid hp9
  clear hba hp9
  refine mOne (i := 9) (by as_aux_lemma => kernel_rfl) rfl (fun K hK => ?_)
  have HK := Lib.hid hK
  clear hK
  rw [if_pos (by rfl)]
  go_wp2_with fail
  simp only [HS2.out]
  refine HK.out _ _ (.inr (by first | exact hS9 | (rw [HR0.out]; exact hS9) | trace_state)) ?_
  clear HK
  try simp only [Act.put, List.setIfInBounds_toArray, List.set_cons_zero, List.set_cons_succ]
  obtain ⟨W9, hW9⟩ : ∃ x, (W1.alloc (.cells #[.bool false, .slice none 0 0, .slice none 0 0, .slice none 0 0] 28)).drew = x := ⟨_, rfl⟩
  rw [hW9] at HBA HP9 hS9 ⊢
  clear hW9 HS0
  refine mOne (i := 10) (by as_aux_lemma => kernel_rfl) rfl (fun K hK => ?_)
  have HK := Lib.hid hK
  clear hK
  rw [if_pos (by rfl)]
  refine wp_storeRow 28 (.tmp 7) (.tmp 16) rfl (r + 2) (by rfl) [.bool false, .slice B1 d d, .slice none 0 0, .slice none 0 0] [.bool false, .slice none 0 0, .slice none 0 0, .slice none 0 0] (by rfl) (by kernel_rfl) rfl (by intro u hu; simp only [List.mem_cons, List.mem_nil_iff, or_false] at hu; rcases hu with rfl | rfl | rfl | rfl <;> rfl) HP9.out ?_
  intro w10 h10 hk10
  refine HK.out _ _ (by simp) ?_
  clear HK
  try simp only [Act.put, List.setIfInBounds_toArray, List.set_cons_zero, List.set_cons_succ]
  refine mDone (by as_aux_lemma => kernel_rfl) ?_ _
  have hb10 : Below W1.heap.size W1 w10 := HBA.out.trans (hk10.below HBA.out.size (fun k hk e => by have e' : k = r + 2 := e; have := HS2.out; omega))
  have HB10 := Lib.hid hb10
  have HP10 := h10
  have hA10 := HA1.out.below hb10
  have HA10 := Lib.hid hA10
  clear HBA HP9 hS9 h10 hk10 hA10
  obtain ⟨x0, x1, x2, x3⟩ := HX1.out _ hb10
  obtain ⟨y0, y1, y2, y3⟩ := row4_cells HP10.out
  obtain ⟨f0, f1, f2, f3⟩ := row4_frozen HP10.out
  clear hb10
  have ks11 : Kept (· = r + 2) w10 (w10.setCell ⟨r + 2, 3, none⟩ (.slice B2 d d)) := Kept.set1 w10 (r + 2) 3 _
  have hp11 := row4_set3 HP10.out (.slice B2 d d)
  have hb11 : Below (r + 2) W1 (w10.setCell ⟨r + 2, 3, none⟩ (.slice B2 d d)) := (HB10.out.mono (by rw [HS2.out]; exact Nat.le_refl _)).trans (ks11.below (by have := HB10.out.size; rw [HS2.out] at this; exact this) (fun k hk e => by have e' : k = r + 2 := e; omega))
  have hs11 : W1.heap.size ≤ (w10.setCell ⟨r + 2, 3, none⟩ (.slice B2 d d)).heap.size := Nat.le_trans HB10.out.size ks11.size
  have hA11 : NodeAt (w10.setCell ⟨r + 2, 3, none⟩ (.slice B2 d d)) ⟨false, ks, vs, is⟩ kA kc vA vc iA ic := (HA1.out.below (by rw [HS2.out]; exact hb11))
  have HOw2 := Lib.hid (HOw.out _ (HM.out _ hA11))
  have HP11 := Lib.hid hp11
  have HB11 := Lib.hid hb11
  have HS11 := Lib.hid hs11
  clear hp11 hb11 hs11 ks11 hA11 HM HOw
  go_wp2_with (go_at_call 48; (with_reducible refine HOw2.out.mono ?_); rintro e w12 ⟨kB, kd, vB, vd, iB, id, rfl, h12⟩; refine park ?_; intro q hq)
  have HF12 := Lib.hid (HFs.out w12 _ kB kd vB vd iB id h12.out.1 h12.out.2.size)
  have HB12 := Lib.hid (HB11.out.trans (h12.out.2.mono (by have := HS11.out; rw [HS2.out] at this; exact this)))
  have HS12 : Hid ((w10.setCell ⟨r + 2, 3, none⟩ (.slice B2 d d)).heap.size ≤ w12.heap.size) := h12.out.2.size
  clear h12 x0 x1 x2 x3 y0 y1 y2 y3 f0 f1 f2 f3 HFs HOw2
  refine hq.out ?_
  clear hq
  go_wp2_with (go_at_call 53; (with_reducible refine HF12.out.mono ?_); rintro e w13 ⟨rfl, h13⟩; refine park ?_; intro q hq)
  have HB13 := Lib.hid (HB12.out.trans (h13.out.2.mono (by have := HS11.out; rw [HS2.out] at this; exact this)))
  have hy13 := (HB13.out.block (r + 1) (by omega)).trans HY.out
  have HY13 := Lib.hid hy13
  obtain ⟨y0, y1, y2, y3⟩ := row4_cells hy13
  obtain ⟨f0, f1, f2, f3⟩ := row4_frozen hy13
  clear hy13 HF12
  refine hq.out ?_
  clear hq
  go_wp2_with fail
  obtain ⟨g1, g2⟩ := row4_put HY13.out (.bool false) (.slice kB d kd) (.slice vB 0 vd) (.slice iB d id)
  refine bodyPost_ret_by (results_cell1 rfl _ rfl (run_retNode g1)) rfl ?_
  obtain ⟨s2, s3, s4⟩ := HSh.out
  have hr13 : r + 2 ≤ w13.heap.size := by have := HB13.out.size; have h2 := HS2.out; omega
  refine ⟨_, _, _, _, _, _, by rw [s2, s3, s4], (h13.out.1.keptN g2 (fun k cs t fz hS hc => ?_)).base' (by rw [HR0.out]; have := HS11.out; have h2 := HS2.out; omega), ?_⟩
  · rw [show k = r + 1 from hS, HY13.out] at hc; injection hc with hc; injection hc with _ h4 _; exact h4.symm
  · rw [HR0.out]
    exact (HB.out.trans (HB13.out.mono (by omega))).trans (g2.below (by omega) (fun k hk e => by have e' : k = r + 1 := e; omega))
set_option maxRecDepth 10000 in
set_option maxHeartbeats 2000000 in
theorem part_leaf {w : World} {ks vs : List (List UInt8)} {is : List Int} {kA : Option Addr} {kc : Nat} {vA : Option Addr} {vc : Nat} {iA : Option Addr} {ic : Nat} (h : NodeAt w ⟨true, ks, vs, is⟩ kA kc vA vc iA ic) (hr : RightM ⟨true, ks, vs, is⟩) (hn : ks.length ≤ 1000) (a b : Nat) (hab : a ≤ b) (hb : b ≤ ks.length) :
    Calls Tryd.prog 55 #[.agg #[.bool true, .slice kA ks.length kc, .slice vA vs.length vc, .slice iA is.length ic], .int .i64 (a : Int), .int .i64 (b : Int)] w fun e w' => ∃ kB kd vB vd iB id, e = .returned (.agg #[.bool true, .slice kB (firstM (partM ⟨true, ks, vs, is⟩ a b)).keys.length kd, .slice vB (firstM (partM ⟨true, ks, vs, is⟩ a b)).vals.length vd, .slice iB (firstM (partM ⟨true, ks, vs, is⟩ a b)).kids.length id]) ∧ Hid (NodeOwn w' w.heap.size (firstM (partM ⟨true, ks, vs, is⟩ a b)) kB kd vB vd iB id ∧ Below w.heap.size w w') := by
  obtain ⟨hv1, hv2, hv3⟩ := hr.lens
  have hlen : vs.length = ks.length := by have h := hr.2; simp at h; exact h.1
  have hk := h.kn
  have hvn := h.vn
  simp only at hv1 hv2 hk hvn
  have hs1 : ∀ w, (Go.sizeOf (Tryd.prog.elem 22)).run Tryd.prog w = .ok 1 w := fun w => by kernel_rfl
  have hs2 : ∀ w, (Go.sizeOf (Tryd.prog.elem 23)).run Tryd.prog w = .ok 1 w := fun w => by kernel_rfl
  obtain ⟨B1, r1, b1, v1, _⟩ := run_mid (n := ks.length) Tryd.underlying22 hs1 (A := kA) (c := kc) (i := a) (j := b) hab hb hk.2.1 hk.1
  obtain ⟨B2, r2, b2, v2, u2⟩ := run_mid (n := vs.length) Tryd.underlying23 hs2 (A := vA) (c := vc) (i := a) (j := b) hab (by omega) hvn.2.1 hvn.1
  have HM : Hid (∀ w', NodeAt w' ⟨true, ks, vs, is⟩ kA kc vA vc iA ic → NodeAt w' (partM ⟨true, ks, vs, is⟩ a b) B1 (b - a) B2 (b - a) none 0) := by
    intro w' h'
    have hl1 : ((ks.take b).drop a).length = b - a := by rw [List.length_drop, List.length_take]; omega
    have hl2 : ((vs.take b).drop a).length = b - a := by rw [List.length_drop, List.length_take]; omega
    refine ⟨?_, u2 w' vs rfl h'.v, ValsAt.nil _ _, ⟨b1, Nat.le_of_eq hl1, by omega⟩, ⟨b2, Nat.le_of_eq hl2, by omega⟩, ⟨fun _ => rfl, Nat.le_refl _, by omega⟩⟩
    · have := v1 w' _ h'.k; rw [strs_take, strs_drop] at this; exact this
  have hlk : ((ks.take b).drop a).length = b - a := by rw [List.length_drop, List.length_take]; omega
  have hlv : ((vs.take b).drop a).length = b - a := by rw [List.length_drop, List.length_take]; omega
  have HLs : Hid (((ks.take b).drop a).length = b - a ∧ ((vs.take b).drop a).length = b - a) := ⟨hlk, hlv⟩
  have HOw : Hid (∀ w', NodeAt w' (partM ⟨true, ks, vs, is⟩ a b) B1 (b - a) B2 (b - a) none 0 → Calls Tryd.prog 48 #[.agg #[.bool true, .slice B1 (b - a) (b - a), .slice B2 (b - a) (b - a), .slice none 0 0]] w' fun e w'' => ∃ kB kd vB vd iB id, e = .returned (.agg #[.bool true, .slice kB (b - a) kd, .slice vB (b - a) vd, .slice iB 0 id]) ∧ Hid (NodeOwn w'' w'.heap.size (partM ⟨true, ks, vs, is⟩ a b) kB kd vB vd iB id ∧ Below w'.heap.size w' w'')) := fun w' h' => by
    have hq := ownN_calls h' ⟨by show ((ks.take b).drop a).length ≤ 1000; omega, by show ((vs.take b).drop a).length ≤ 1000; omega, by show ([] : List Int).length ≤ 1000; simp⟩ (fun v hv => by have hv' : v ∈ (vs.take b).drop a := hv; have := hv3 v (List.mem_of_mem_take (List.mem_of_mem_drop hv')); omega)
    rw [show (partM ⟨true, ks, vs, is⟩ a b).keys.length = b - a from hlk, show (partM ⟨true, ks, vs, is⟩ a b).vals.length = b - a from hlv, show (partM ⟨true, ks, vs, is⟩ a b).kids.length = 0 from rfl, show (partM ⟨true, ks, vs, is⟩ a b).leaf = true from rfl] at hq
    exact hq
  have HFs : Hid (∀ w' B kB kd vB vd iB id, NodeOwn w' B (partM ⟨true, ks, vs, is⟩ a b) kB kd vB vd iB id → B ≤ w'.heap.size → Calls Tryd.prog 53 #[.agg #[.bool true, .slice kB (b - a) kd, .slice vB (b - a) vd, .slice iB 0 id]] w' fun e w'' => e = .returned (.agg #[.bool true, .slice kB (b - a) kd, .slice vB (b - a) vd, .slice iB 0 id]) ∧ Hid (NodeOwn w'' B (firstM (partM ⟨true, ks, vs, is⟩ a b)) kB kd vB vd iB id ∧ Below B w' w'')) := fun w' B kB kd vB vd iB id h' hB => by
    have hq := firstN_calls h' hB
    rw [show (partM ⟨true, ks, vs, is⟩ a b).keys.length = b - a from hlk, show (partM ⟨true, ks, vs, is⟩ a b).vals.length = b - a from hlv, show (partM ⟨true, ks, vs, is⟩ a b).kids.length = 0 from rfl, show (partM ⟨true, ks, vs, is⟩ a b).leaf = true from rfl] at hq
    exact hq
  have HSh : Hid ((firstM (partM ⟨true, ks, vs, is⟩ a b)).keys.length = b - a ∧ (firstM (partM ⟨true, ks, vs, is⟩ a b)).vals.length = b - a ∧ (firstM (partM ⟨true, ks, vs, is⟩ a b)).kids.length = 0) := by
    obtain ⟨_, q2, q3, q4⟩ := firstM_shape (partM ⟨true, ks, vs, is⟩ a b)
    exact ⟨q2.trans hlk, by rw [q3]; exact hlv, by rw [q4]; exact rfl⟩
  obtain ⟨nk, hnk⟩ : ∃ k, ks.length = k := ⟨_, rfl⟩
  obtain ⟨nv, hnv⟩ : ∃ k, vs.length = k := ⟨_, rfl⟩
  obtain ⟨ni, hni⟩ : ∃ k, is.length = k := ⟨_, rfl⟩
  have HAt := Lib.hid h
  rw [hnk] at r1
  rw [hnv] at r2
  rw [hnk, hnv, hni]
  obtain ⟨d, hd⟩ : ∃ d, b - a = d := ⟨_, rfl⟩
  rw [hd] at r1 r2 HM HLs HOw HFs HSh
  have HN1 := Lib.hid node3_box
  obtain ⟨h1, h2, h3⟩ := node2_boxT w (.bool true) (.slice kA nk kc) (.slice vA nv vc) (.slice iA ni ic) (.bool false) (.slice none 0 0) (.slice none 0 0) (.slice none 0 0) 28
  obtain ⟨W1, hW1⟩ : ∃ x, (w.alloc (.cells #[.bool true, .slice kA nk kc, .slice vA nv vc, .slice iA ni ic] 28)).alloc (.cells #[.bool false, .slice none 0 0, .slice none 0 0, .slice none 0 0] 28) = x := ⟨_, rfl⟩
  rw [hW1] at h1 h2 h3
  have hs2 : W1.heap.size = w.heap.size + 2 := by rw [← hW1]; simp
  have HW1 := Lib.hid hW1
  obtain ⟨r, hr0⟩ : ∃ r, w.heap.size = r := ⟨_, rfl⟩
  rw [hr0] at h1 h2 h3 hs2
  have HB := Lib.hid h1
  have HX := Lib.hid h2
  have HY := Lib.hid h3
  have HR0 := Lib.hid hr0
  have HS2 := Lib.hid hs2
  have HA1 : Hid (NodeAt W1 ⟨true, ks, vs, is⟩ kA kc vA vc iA ic) := HAt.out.below (by rw [hr0]; exact h1)
  clear hv1 hv2 hv3 hlen hk hvn hs1 b1 v1 b2 v2 u2 hlk hlv hnk hnv hni hd h1 h2 h3 hW1 hs2 hr0 h hr HAt HN1 hab hb hn
  go_enter Tryd.func55, Tryd.ntmps55
  go_wp2_with fail
  simp only [HR0.out, HW1.out]
  have hx1 : ∀ w', Below W1.heap.size W1 w' → w'.cell? ⟨r, 0, none⟩ = some (.bool true) ∧ w'.cell? ⟨r, 1, none⟩ = some (.slice kA nk kc) ∧ w'.cell? ⟨r, 2, none⟩ = some (.slice vA nv vc) ∧ w'.cell? ⟨r, 3, none⟩ = some (.slice iA ni ic) := fun w' hb => row4_cells ((hb.block r (Array.getElem?_eq_some_iff.1 HX.out).1).trans HX.out)
  have HX1 := Lib.hid hx1
  clear hx1
  have hd0 : Below W1.heap.size W1 W1.drew := (Below.refl _ _).drew
  have hS0 : W1.drew.cell? ⟨r, 0, none⟩ = some (.bool true) ∧ W1.drew.cell? ⟨r, 1, none⟩ = some (.slice kA nk kc) := ⟨(HX1.out _ hd0).1, (HX1.out _ hd0).2.1⟩
  refine wp_region_M (fun w' => w'.cell? ⟨r, 0, none⟩ = some (.bool true) ∧ w'.cell? ⟨r, 1, none⟩ = some (.slice kA nk kc)) 10 (by as_aux_lemma => kernel_rfl) ?_
  refine mAnyTake (i := 0) (v := .pointer (some ⟨r, 0, none⟩)) (some 8) [0, 1, 8, 10] (by as_aux_lemma => kernel_rfl) rfl rfl (by decide) (by as_aux_lemma => kernel_rfl) rfl rfl (by as_aux_lemma => kernel_rfl) (by as_aux_lemma => kernel_rfl) (by as_aux_lemma => kernel_rfl) (fun _ _ _ h => h) (Or.inl ⟨by rfl, fun w => by go_simp⟩) hS0 ?_
  try simp only [Act.put, List.setIfInBounds_toArray, List.set_cons_zero, List.set_cons_succ]
  refine mTake (i := 1) (v := .bool true) (some 9) [1, 8, 10] (by as_aux_lemma => kernel_rfl) rfl rfl (by decide) (by as_aux_lemma => kernel_rfl) rfl rfl (by as_aux_lemma => kernel_rfl) (by as_aux_lemma => kernel_rfl) (by as_aux_lemma => kernel_rfl) (fun _ _ _ h => h) (Or.inl ⟨by rfl, fun w h => by ((obtain ⟨h1, h2⟩ := h); go_simp)⟩) hS0 ?_
  try simp only [Act.put, List.setIfInBounds_toArray, List.set_cons_zero, List.set_cons_succ]
  refine mAnyTake (i := 2) (v := .pointer (some ⟨r, 1, none⟩)) (some 10) [2, 3, 7, 8, 10] (by as_aux_lemma => kernel_rfl) rfl rfl (by decide) (by as_aux_lemma => kernel_rfl) rfl rfl (by as_aux_lemma => kernel_rfl) (by as_aux_lemma => kernel_rfl) (by as_aux_lemma => kernel_rfl) (fun _ _ _ h => h) (Or.inl ⟨by rfl, fun w => by go_simp⟩) hS0 ?_
  try simp only [Act.put, List.setIfInBounds_toArray, List.set_cons_zero, List.set_cons_succ]
  refine mTake (i := 3) (v := .slice kA nk kc) (some 11) [3, 7, 8, 10] (by as_aux_lemma => kernel_rfl) rfl rfl (by decide) (by as_aux_lemma => kernel_rfl) rfl rfl (by as_aux_lemma => kernel_rfl) (by as_aux_lemma => kernel_rfl) (by as_aux_lemma => kernel_rfl) (fun _ _ _ h => h) (Or.inl ⟨by rfl, fun w h => by ((obtain ⟨h1, h2⟩ := h); go_simp)⟩) hS0 ?_
  try simp only [Act.put, List.setIfInBounds_toArray, List.set_cons_zero, List.set_cons_succ]
  refine mAnyTake (i := 4) (v := .int .i64 (a : Int)) (some 12) [4, 7, 8, 10] (by as_aux_lemma => kernel_rfl) rfl rfl (by decide) (by as_aux_lemma => kernel_rfl) rfl rfl (by as_aux_lemma => kernel_rfl) (by as_aux_lemma => kernel_rfl) (by as_aux_lemma => kernel_rfl) (fun _ _ _ h => h) (Or.inl ⟨by rfl, fun w => by go_simp⟩) hS0 ?_
  try simp only [Act.put, List.setIfInBounds_toArray, List.set_cons_zero, List.set_cons_succ]
  refine mAnyTake (i := 5) (v := .int .i64 (b : Int)) (some 13) [5, 7, 8, 10] (by as_aux_lemma => kernel_rfl) rfl rfl (by decide) (by as_aux_lemma => kernel_rfl) rfl rfl (by as_aux_lemma => kernel_rfl) (by as_aux_lemma => kernel_rfl) (by as_aux_lemma => kernel_rfl) (fun _ _ _ h => h) (Or.inl ⟨by rfl, fun w => by go_simp⟩) hS0 ?_
  try simp only [Act.put, List.setIfInBounds_toArray, List.set_cons_zero, List.set_cons_succ]
  refine mAnyTake (i := 6) (v := .int .i64 (b : Int)) (some 14) [6, 7, 8, 10] (by as_aux_lemma => kernel_rfl) rfl rfl (by decide) (by as_aux_lemma => kernel_rfl) rfl rfl (by as_aux_lemma => kernel_rfl) (by as_aux_lemma => kernel_rfl) (by as_aux_lemma => kernel_rfl) (fun _ _ _ h => h) (Or.inl ⟨by rfl, fun w => by go_simp⟩) hS0 ?_
  try simp only [Act.put, List.setIfInBounds_toArray, List.set_cons_zero, List.set_cons_succ]
  refine mAnyTake (i := 7) (v := .slice B1 d d) (some 15) [7, 8, 10] (by as_aux_lemma => kernel_rfl) rfl rfl (by decide) (by as_aux_lemma => kernel_rfl) rfl rfl (by as_aux_lemma => kernel_rfl) (by as_aux_lemma => kernel_rfl) (by as_aux_lemma => kernel_rfl) (fun _ _ _ h => h) (Or.inl ⟨by rfl, fun w => by go_simp⟩) hS0 ?_
  try simp only [Act.put, List.setIfInBounds_toArray, List.set_cons_zero, List.set_cons_succ]
  refine mAnyTake (i := 8) (v := .agg #[.bool true, .slice B1 d d, .slice none 0 0, .slice none 0 0]) (some 16) [8, 10] (by as_aux_lemma => kernel_rfl) rfl rfl (by decide) (by as_aux_lemma => kernel_rfl) rfl rfl (by as_aux_lemma => kernel_rfl) (by as_aux_lemma => kernel_rfl) (by as_aux_lemma => kernel_rfl) (fun _ _ _ h => h) (Or.inl ⟨by rfl, fun w => by go_simp⟩) hS0 ?_
  try simp only [Act.put, List.setIfInBounds_toArray, List.set_cons_zero, List.set_cons_succ]
  have HS0 := Lib.hid hS0
  clear hS0
  have hba : Below W1.heap.size W1 ((W1.alloc (.cells #[.bool false, .slice none 0 0, .slice none 0 0, .slice none 0 0] 28)).drew) := ((Below.refl _ _).alloc (Nat.le_refl _) _).drew
  have hS9 : ((W1.alloc (.cells #[.bool false, .slice none 0 0, .slice none 0 0, .slice none 0 0] 28)).drew).cell? ⟨r, 0, none⟩ = some (.bool true) ∧ ((W1.alloc (.cells #[.bool false, .slice none 0 0, .slice none 0 0, .slice none 0 0] 28)).drew).cell? ⟨r, 1, none⟩ = some (.slice kA nk kc) := ⟨(HX1.out _ hba).1, (HX1.out _ hba).2.1⟩
  have hp9 : ((W1.alloc (.cells #[.bool false, .slice none 0 0, .slice none 0 0, .slice none 0 0] 28)).drew).heap[r + 2]? = some (.cells #[.bool false, .slice none 0 0, .slice none 0 0, .slice none 0 0] 28 (0, 0)) := by rw [← HS2.out]; exact heap_alloc_new W1 _
  have HBA := Lib.hid hba
  have HP9 := Lib.hid hp9
  clear hba hp9
  refine mOne (i := 9) (by as_aux_lemma => kernel_rfl) rfl (fun K hK => ?_)
  have HK := Lib.hid hK
  clear hK
  rw [if_pos (by rfl)]
  go_wp2_with fail
  simp only [HS2.out]
  refine HK.out _ _ (.inr (by first | exact hS9 | (rw [HR0.out]; exact hS9) | trace_state)) ?_
  clear HK
  try simp only [Act.put, List.setIfInBounds_toArray, List.set_cons_zero, List.set_cons_succ]
  obtain ⟨W9, hW9⟩ : ∃ x, (W1.alloc (.cells #[.bool false, .slice none 0 0, .slice none 0 0, .slice none 0 0] 28)).drew = x := ⟨_, rfl⟩
  rw [hW9] at HBA HP9 hS9 ⊢
  clear hW9 HS0
  refine mOne (i := 10) (by as_aux_lemma => kernel_rfl) rfl (fun K hK => ?_)
  have HK := Lib.hid hK
  clear hK
  rw [if_pos (by rfl)]
  refine wp_storeRow 28 (.tmp 7) (.tmp 16) rfl (r + 2) (by rfl) [.bool true, .slice B1 d d, .slice none 0 0, .slice none 0 0] [.bool false, .slice none 0 0, .slice none 0 0, .slice none 0 0] (by rfl) (by kernel_rfl) rfl (by intro u hu; simp only [List.mem_cons, List.mem_nil_iff, or_false] at hu; rcases hu with rfl | rfl | rfl | rfl <;> rfl) HP9.out ?_
  intro w10 h10 hk10
  refine HK.out _ _ (by simp) ?_
  clear HK
  try simp only [Act.put, List.setIfInBounds_toArray, List.set_cons_zero, List.set_cons_succ]
  refine mDone (by as_aux_lemma => kernel_rfl) ?_ _
  have hb10 : Below W1.heap.size W1 w10 := HBA.out.trans (hk10.below HBA.out.size (fun k hk e => by have e' : k = r + 2 := e; have := HS2.out; omega))
  have HB10 := Lib.hid hb10
  have HP10 := h10
  have hA10 := HA1.out.below hb10
  have HA10 := Lib.hid hA10
  clear HBA HP9 hS9 h10 hk10 hA10
  obtain ⟨x0, x1, x2, x3⟩ := HX1.out _ hb10
  obtain ⟨y0, y1, y2, y3⟩ := row4_cells HP10.out
  obtain ⟨f0, f1, f2, f3⟩ := row4_frozen HP10.out
  clear hb10
  have ks11 : Kept (· = r + 2) w10 (w10.setCell ⟨r + 2, 2, none⟩ (.slice B2 d d)) := Kept.set1 w10 (r + 2) 2 _
  have hp11 := row4_set2 HP10.out (.slice B2 d d)
  have hb11 : Below (r + 2) W1 (w10.setCell ⟨r + 2, 2, none⟩ (.slice B2 d d)) := (HB10.out.mono (by rw [HS2.out]; exact Nat.le_refl _)).trans (ks11.below (by have := HB10.out.size; rw [HS2.out] at this; exact this) (fun k hk e => by have e' : k = r + 2 := e; omega))
  have hs11 : W1.heap.size ≤ (w10.setCell ⟨r + 2, 2, none⟩ (.slice B2 d d)).heap.size := Nat.le_trans HB10.out.size ks11.size
  have hA11 : NodeAt (w10.setCell ⟨r + 2, 2, none⟩ (.slice B2 d d)) ⟨true, ks, vs, is⟩ kA kc vA vc iA ic := (HA1.out.below (by rw [HS2.out]; exact hb11))
  have HOw2 := Lib.hid (HOw.out _ (HM.out _ hA11))
  have HP11 := Lib.hid hp11
  have HB11 := Lib.hid hb11
  have HS11 := Lib.hid hs11
  clear hp11 hb11 hs11 ks11 hA11 HM HOw
  go_wp2_with (go_at_call 48; (with_reducible refine HOw2.out.mono ?_); rintro e w12 ⟨kB, kd, vB, vd, iB, id, rfl, h12⟩; refine park ?_; intro q hq)
  have HF12 := Lib.hid (HFs.out w12 _ kB kd vB vd iB id h12.out.1 h12.out.2.size)
  have HB12 := Lib.hid (HB11.out.trans (h12.out.2.mono (by have := HS11.out; rw [HS2.out] at this; exact this)))
  have HS12 : Hid ((w10.setCell ⟨r + 2, 2, none⟩ (.slice B2 d d)).heap.size ≤ w12.heap.size) := h12.out.2.size
  clear h12 x0 x1 x2 x3 y0 y1 y2 y3 f0 f1 f2 f3 HFs HOw2
  refine hq.out ?_
  clear hq
  go_wp2_with (go_at_call 53; (with_reducible refine HF12.out.mono ?_); rintro e w13 ⟨rfl, h13⟩; refine park ?_; intro q hq)
  have HB13 := Lib.hid (HB12.out.trans (h13.out.2.mono (by have := HS11.out; rw [HS2.out] at this; exact this)))
  have hy13 := (HB13.out.block (r + 1) (by omega)).trans HY.out
  have HY13 := Lib.hid hy13
  obtain ⟨y0, y1, y2, y3⟩ := row4_cells hy13
  obtain ⟨f0, f1, f2, f3⟩ := row4_frozen hy13
  clear hy13 HF12
  refine hq.out ?_
  clear hq
  go_wp2_with fail
  obtain ⟨g1, g2⟩ := row4_put HY13.out (.bool true) (.slice kB d kd) (.slice vB d vd) (.slice iB 0 id)
  refine bodyPost_ret_by (results_cell1 rfl _ rfl (run_retNode g1)) rfl ?_
  obtain ⟨s2, s3, s4⟩ := HSh.out
  have hr13 : r + 2 ≤ w13.heap.size := by have := HB13.out.size; have h2 := HS2.out; omega
  refine ⟨_, _, _, _, _, _, by rw [s2, s3, s4], (h13.out.1.keptN g2 (fun k cs t fz hS hc => ?_)).base' (by rw [HR0.out]; have := HS11.out; have h2 := HS2.out; omega), ?_⟩
  · rw [show k = r + 1 from hS, HY13.out] at hc; injection hc with hc; injection hc with _ h4 _; exact h4.symm
  · rw [HR0.out]
    exact (HB.out.trans (HB13.out.mono (by omega))).trans (g2.below (by omega) (fun k hk e => by have e' : k = r + 1 := e; omega))
theorem part_calls {w : World} {n : NodeM} {kA : Option Addr} {kc : Nat} {vA : Option Addr} {vc : Nat} {iA : Option Addr} {ic : Nat} (h : NodeAt w n kA kc vA vc iA ic) (hr : RightM n) (hn : n.keys.length ≤ 1000) (a b : Nat) (hab : a ≤ b) (hb : b ≤ n.keys.length) :
    Calls Tryd.prog 55 #[.agg #[.bool n.leaf, .slice kA n.keys.length kc, .slice vA n.vals.length vc, .slice iA n.kids.length ic], .int .i64 (a : Int), .int .i64 (b : Int)] w fun e w' => ∃ kB kd vB vd iB id, e = .returned (.agg #[.bool n.leaf, .slice kB (firstM (partM n a b)).keys.length kd, .slice vB (firstM (partM n a b)).vals.length vd, .slice iB (firstM (partM n a b)).kids.length id]) ∧ Hid (NodeOwn w' w.heap.size (firstM (partM n a b)) kB kd vB vd iB id ∧ Below w.heap.size w w') := by
  obtain ⟨lf, ks, vs, is⟩ := n
  cases lf
  · exact part_inner h hr hn a b hab hb
  · exact part_leaf h hr hn a b hab hb
end Go.Proofs.YtibmlgkakeakcaaDoor
/- The walk of node.Cut (printed by wip/gen/cutgen.py). -/
set_option linter.unusedSimpArgs false
set_option linter.unusedVariables false
namespace Go.Proofs.YtibmlgkakeakcaaDoor
open Go.RowKit Go.Proofs.YtibmlgkakeakcaaDoor.Crc
theorem results_cellCellTmp {fn : Func} {t : TypeId} {k k2 k3 r r2 : Nat} {w : World} {v v2 v3 : Value} (hf : fn.results = #[.cell k t, .cell k2 t, .tmp k3]) (tmps : Array Value) (hp : tmps.getD k undef = .pointer (some ⟨r, 0, none⟩)) (hp2 : tmps.getD k2 undef = .pointer (some ⟨r2, 0, none⟩)) (hp3 : tmps.getD k3 undef = v3)
    (h : (loadVar t ⟨r, 0, none⟩).run Tryd.prog w = .ok v w) (h2 : (loadVar t ⟨r2, 0, none⟩).run Tryd.prog w = .ok v2 w) : (results fn tmps).run Tryd.prog w = .ok (.tuple #[v, v2, v3]) w := by
  rw [Array.getD_eq_getD_getElem?] at hp hp2 hp3
  simp [results, hf, hp, hp2, hp3, asAddr, h, h2]
def halfA (n : NodeM) : NodeM := firstM (partM n 0 (midN n))
def halfB (n : NodeM) : NodeM := firstM (partM n (midN n) n.keys.length)
set_option maxRecDepth 10000 in
set_option maxHeartbeats 2000000 in
theorem Cut_calls {w : World} {n : NodeM} {kA : Option Addr} {kc : Nat} {vA : Option Addr} {vc : Nat} {iA : Option Addr} {ic : Nat} (h : NodeAt w n kA kc vA vc iA ic) (hr : RightM n) (hn : n.keys.length ≤ 1000) (h2 : 2 ≤ n.keys.length) :
    Calls Tryd.prog 24 #[.agg #[.bool n.leaf, .slice kA n.keys.length kc, .slice vA n.vals.length vc, .slice iA n.kids.length ic]] w fun e w' => ∃ kB kd vB vd iB id kC ke vC ve iC ie, e = .returned (.tuple #[.agg #[.bool n.leaf, .slice kB (halfA n).keys.length kd, .slice vB (halfA n).vals.length vd, .slice iB (halfA n).kids.length id], .agg #[.bool n.leaf, .slice kC (halfB n).keys.length ke, .slice vC (halfB n).vals.length ve, .slice iC (halfB n).kids.length ie], .int .i64 0]) ∧ Hid (NodeOwn w' w.heap.size (halfA n) kB kd vB vd iB id ∧ NodeOwn w' w.heap.size (halfB n) kC ke vC ve iC ie ∧ Below w.heap.size w w') := by
  obtain ⟨hm1, hm2⟩ := midN_bounds h2
  have HRt0 := Lib.hid (fun w' (h' : NodeAt w' n kA kc vA vc iA ic) => Right_calls h')
  have HMd0 := Lib.hid (fun w' (h' : NodeAt w' n kA kc vA vc iA ic) => middle_calls h' hr hn h2)
  have HPa0 := Lib.hid (fun w' (h' : NodeAt w' n kA kc vA vc iA ic) => part_calls h' hr hn 0 (midN n) (Nat.zero_le _) (Nat.le_of_lt hm2))
  have HPb0 := Lib.hid (fun w' (h' : NodeAt w' n kA kc vA vc iA ic) => part_calls h' hr hn (midN n) n.keys.length (Nat.le_of_lt hm2) (Nat.le_refl _))
  have HA : Hid (halfA n = firstM (partM n 0 (midN n))) := rfl
  have HBh : Hid (halfB n = firstM (partM n (midN n) n.keys.length)) := rfl
  rw [rightB_true hr] at HRt0
  rw [← HA.out] at HPa0
  rw [← HBh.out] at HPb0
  obtain ⟨nk, hnk⟩ : ∃ k, n.keys.length = k := ⟨_, rfl⟩
  obtain ⟨nv, hnv⟩ : ∃ k, n.vals.length = k := ⟨_, rfl⟩
  obtain ⟨ni, hni⟩ : ∃ k, n.kids.length = k := ⟨_, rfl⟩
  obtain ⟨lf, hlf⟩ : ∃ k, n.leaf = k := ⟨_, rfl⟩
  obtain ⟨at0, hat⟩ : ∃ k, midN n = k := ⟨_, rfl⟩
  obtain ⟨nA, hnA⟩ : ∃ k, halfA n = k := ⟨_, rfl⟩
  obtain ⟨nB, hnB⟩ : ∃ k, halfB n = k := ⟨_, rfl⟩
  rw [hnk, hnv, hni, hlf] at HRt0
  rw [hnk, hnv, hni, hlf, hat] at HMd0
  rw [hnk, hnv, hni, hlf, hat, hnA] at HPa0
  rw [hnk, hnv, hni, hlf, hat, hnB] at HPb0
  rw [hnk, hnv, hni, hlf, hnA, hnB]
  rw [hnk] at hn h2
  have hn2 : nk ≤ 9223372036854775807 := by omega
  have hd2 : ¬ nk < 2 := by omega
  obtain ⟨h1, hr2, hr3⟩ := node2_boxT w (.bool lf) (.slice kA nk kc) (.slice vA nv vc) (.slice iA ni ic) (.bool false) (.slice none 0 0) (.slice none 0 0) (.slice none 0 0) 28
  obtain ⟨W0, hW0⟩ : ∃ x, (w.alloc (.cells #[.bool lf, .slice kA nk kc, .slice vA nv vc, .slice iA ni ic] 28)).alloc (.cells #[.bool false, .slice none 0 0, .slice none 0 0, .slice none 0 0] 28) = x := ⟨_, rfl⟩
  rw [hW0] at h1 hr2 hr3
  have hs0 : W0.heap.size = w.heap.size + 2 := by rw [← hW0]; simp
  have hb2 : Below W0.heap.size W0 (W0.alloc (.cells #[.bool false, .slice none 0 0, .slice none 0 0, .slice none 0 0] 28)) := (Below.refl _ _).alloc (Nat.le_refl _) _
  have hr4 := heap_alloc_new W0 (.cells #[.bool false, .slice none 0 0, .slice none 0 0, .slice none 0 0] 28)
  have hx1 := (hb2.block _ (by omega)).trans hr2
  have hy1 := (hb2.block _ (by omega)).trans hr3
  obtain ⟨W1, hW1⟩ : ∃ x, W0.alloc (.cells #[.bool false, .slice none 0 0, .slice none 0 0, .slice none 0 0] 28) = x := ⟨_, rfl⟩
  rw [hW1] at hb2 hr4 hx1 hy1
  rw [hs0] at hr4
  have hs1 : W1.heap.size = w.heap.size + 3 := by rw [← hW1]; simp [hs0]
  have hW1' : ((w.alloc (.cells #[.bool lf, .slice kA nk kc, .slice vA nv vc, .slice iA ni ic] 28)).alloc (.cells #[.bool false, .slice none 0 0, .slice none 0 0, .slice none 0 0] 28)).alloc (.cells #[.bool false, .slice none 0 0, .slice none 0 0, .slice none 0 0] 28) = W1 := by rw [hW0]; exact hW1
  have hbw : Below w.heap.size w W1 := h1.trans (hb2.mono (by omega))
  have HAt : Hid (NodeAt W1 n kA kc vA vc iA ic) := h.below hbw
  obtain ⟨r, hr0⟩ : ∃ r, w.heap.size = r := ⟨_, rfl⟩
  rw [hr0] at hr4 hx1 hy1 hbw hs1
  have HX := Lib.hid hx1
  have HY := Lib.hid hy1
  have HZ := Lib.hid hr4
  have HB := Lib.hid hbw
  have HR0 := Lib.hid hr0
  have HS1 := Lib.hid hs1
  have HW := Lib.hid hW1'
  have HRt := Lib.hid (HRt0.out W1 HAt.out)
  rw [← hW1'] at HRt
  clear hm1 hm2 h1 hr2 hr3 hW0 hs0 hb2 hr4 hx1 hy1 hW1 hs1 hW1' hbw hnk hnv hni hlf hat hnA hnB h hr hr0 HRt0 HA HBh h2
  go_enter Tryd.func24, Tryd.ntmps24
  go_wp2_with (go_at_call 14; (with_reducible refine HRt.out.mono ?_); rintro e w2 ⟨rfl, hb2⟩; refine park ?_; intro q hq)
  rw [HW.out] at hb2
  have hx2 := (hb2.block r (by rw [HS1.out]; omega)).trans HX.out
  obtain ⟨x0, x1, x2, x3⟩ := row4_cells hx2
  have HB2 := Lib.hid hb2
  have HMd := Lib.hid (HMd0.out w2 (HAt.out.below hb2))
  clear hx2 hb2 HRt HMd0
  refine hq.out ?_
  clear hq
  simp only [HR0.out]
  go_wp2_with (go_at_call 54; (with_reducible refine HMd.out.mono ?_); rintro e w3 ⟨rfl, hb3⟩; refine park ?_; intro q hq)
  have hB3 : Below W1.heap.size W1 w3 := HB2.out.trans (hb3.mono HB2.out.size)
  have HB3 := Lib.hid hB3
  clear hb3 HMd HB2 x0 x1 x2 x3 hB3
  refine hq.out ?_
  clear hq
  go_wp2_with fail
  have HX1 : Hid (∀ w', Below W1.heap.size W1 w' → w'.cell? ⟨r, 0, none⟩ = some (.bool lf) ∧ w'.cell? ⟨r, 1, none⟩ = some (.slice kA nk kc) ∧ w'.cell? ⟨r, 2, none⟩ = some (.slice vA nv vc) ∧ w'.cell? ⟨r, 3, none⟩ = some (.slice iA ni ic)) := fun w' hb => row4_cells ((hb.block r (by rw [HS1.out]; omega)).trans HX.out)
  have hS0 := HX1.out w3.drew HB3.out.drew
  refine wp_region_M (fun w' => w'.cell? ⟨r, 0, none⟩ = some (.bool lf) ∧ w'.cell? ⟨r, 1, none⟩ = some (.slice kA nk kc) ∧ w'.cell? ⟨r, 2, none⟩ = some (.slice vA nv vc) ∧ w'.cell? ⟨r, 3, none⟩ = some (.slice iA ni ic)) 10 (by as_aux_lemma => kernel_rfl) ?_
  refine mTake (i := 0) (v := .agg #[.bool lf, .slice kA nk kc, .slice vA nv vc, .slice iA ni ic]) (some 21) [0, 2, 8, 10] (by as_aux_lemma => kernel_rfl) rfl rfl (by decide) (by as_aux_lemma => kernel_rfl) rfl rfl (by as_aux_lemma => kernel_rfl) (by as_aux_lemma => kernel_rfl) (by as_aux_lemma => kernel_rfl) (fun _ _ _ h => h) (Or.inl ⟨by rfl, fun w h => by ((obtain ⟨h1, h2, h3, h4⟩ := h); go_simp)⟩) hS0 ?_
  try simp only [Act.put, List.setIfInBounds_toArray, List.set_cons_zero, List.set_cons_succ]
  refine mAnyTake (i := 1) (v := .int .i64 (at0 : Int)) (some 22) [1, 2, 8, 10] (by as_aux_lemma => kernel_rfl) rfl rfl (by decide) (by as_aux_lemma => kernel_rfl) rfl rfl (by as_aux_lemma => kernel_rfl) (by as_aux_lemma => kernel_rfl) (by as_aux_lemma => kernel_rfl) (fun _ _ _ h => h) (Or.inl ⟨by rfl, fun w => by go_simp⟩) hS0 ?_
  try simp only [Act.put, List.setIfInBounds_toArray, List.set_cons_zero, List.set_cons_succ]
  refine mTake (i := 3) (v := .agg #[.bool lf, .slice kA nk kc, .slice vA nv vc, .slice iA ni ic]) (some 24) [3, 8, 10] (by as_aux_lemma => kernel_rfl) rfl rfl (by decide) (by as_aux_lemma => kernel_rfl) rfl rfl (by as_aux_lemma => kernel_rfl) (by as_aux_lemma => kernel_rfl) (by as_aux_lemma => kernel_rfl) (fun _ _ _ h => h) (Or.inl ⟨by rfl, fun w h => by ((obtain ⟨h1, h2, h3, h4⟩ := h); go_simp)⟩) hS0 ?_
  try simp only [Act.put, List.setIfInBounds_toArray, List.set_cons_zero, List.set_cons_succ]
  refine mAnyTake (i := 4) (v := .int .i64 (at0 : Int)) (some 25) [4, 8, 10] (by as_aux_lemma => kernel_rfl) rfl rfl (by decide) (by as_aux_lemma => kernel_rfl) rfl rfl (by as_aux_lemma => kernel_rfl) (by as_aux_lemma => kernel_rfl) (by as_aux_lemma => kernel_rfl) (fun _ _ _ h => h) (Or.inl ⟨by rfl, fun w => by go_simp⟩) hS0 ?_
  try simp only [Act.put, List.setIfInBounds_toArray, List.set_cons_zero, List.set_cons_succ]
  refine mAnyTake (i := 5) (v := .pointer (some ⟨r, 1, none⟩)) (some 26) [5, 6, 7, 8, 10] (by as_aux_lemma => kernel_rfl) rfl rfl (by decide) (by as_aux_lemma => kernel_rfl) rfl rfl (by as_aux_lemma => kernel_rfl) (by as_aux_lemma => kernel_rfl) (by as_aux_lemma => kernel_rfl) (fun _ _ _ h => h) (Or.inl ⟨by rfl, fun w => by go_simp⟩) hS0 ?_
  try simp only [Act.put, List.setIfInBounds_toArray, List.set_cons_zero, List.set_cons_succ]
  refine mTake (i := 6) (v := .slice kA nk kc) (some 27) [6, 7, 8, 10] (by as_aux_lemma => kernel_rfl) rfl rfl (by decide) (by as_aux_lemma => kernel_rfl) rfl rfl (by as_aux_lemma => kernel_rfl) (by as_aux_lemma => kernel_rfl) (by as_aux_lemma => kernel_rfl) (fun _ _ _ h => h) (Or.inl ⟨by rfl, fun w h => by ((obtain ⟨h1, h2, h3, h4⟩ := h); go_simp)⟩) hS0 ?_
  try simp only [Act.put, List.setIfInBounds_toArray, List.set_cons_zero, List.set_cons_succ]
  refine mAnyTake (i := 7) (v := .int .i64 (nk : Int)) (some 28) [7, 8, 10] (by as_aux_lemma => kernel_rfl) rfl rfl (by decide) (by as_aux_lemma => kernel_rfl) rfl rfl (by as_aux_lemma => kernel_rfl) (by as_aux_lemma => kernel_rfl) (by as_aux_lemma => kernel_rfl) (fun _ _ _ h => h) (Or.inl ⟨by rfl, fun w => by go_simp⟩) hS0 ?_
  try simp only [Act.put, List.setIfInBounds_toArray, List.set_cons_zero, List.set_cons_succ]
  clear hS0
  have HPa := Lib.hid (HPa0.out w3.drew (HAt.out.below HB3.out.drew))
  clear HPa0
  refine mOne (i := 2) (by as_aux_lemma => kernel_rfl) rfl (fun K hK => ?_)
  have HK := Lib.hid hK
  clear hK
  rw [if_pos (by rfl)]
  refine wp_goCall 55 _ _ (by rfl) Tryd.func55 (by kernel_rfl) (by kernel_rfl) _ (by simp [Act.eval]) HPa.out ?_
  rintro e w4 ⟨kB, kd, vB, vd, iB, id, rfl, h4⟩
  refine ⟨_, rfl, ?_⟩
  have hB4 : Below W1.heap.size W1 w4 := HB3.out.drew.trans (h4.out.2.mono HB3.out.size)
  have HB4 := Lib.hid hB4
  have HO4 : Hid (NodeOwn w4 W1.heap.size nA kB kd vB vd iB id) := h4.out.1.base' HB3.out.size
  have hs4 := HX1.out w4 hB4
  have HPb := Lib.hid (HPb0.out w4 (HAt.out.below hB4))
  clear hB4 h4 HPa HPb0
  refine HK.out _ _ (.inr hs4) ?_
  clear HK
  try simp only [Act.put, List.setIfInBounds_toArray, List.set_cons_zero, List.set_cons_succ]
  refine mOne (i := 8) (by as_aux_lemma => kernel_rfl) rfl (fun K hK => ?_)
  have HK := Lib.hid hK
  clear hK
  rw [if_pos (by rfl)]
  refine wp_goCall 55 _ _ (by rfl) Tryd.func55 (by kernel_rfl) (by kernel_rfl) _ (by simp [Act.eval]) HPb.out ?_
  rintro e w5 ⟨kC, ke, vC, ve, iC, ie, rfl, h5⟩
  refine ⟨_, rfl, ?_⟩
  have hB5 : Below W1.heap.size W1 w5 := HB4.out.trans (h5.out.2.mono HB4.out.size)
  have HB5 := Lib.hid hB5
  have HO5 : Hid (NodeOwn w5 W1.heap.size nB kC ke vC ve iC ie) := h5.out.1.base' HB4.out.size
  have HO45 : Hid (NodeOwn w5 W1.heap.size nA kB kd vB vd iB id) := HO4.out.below h5.out.2
  have hs5 := HX1.out w5 hB5
  have hy5 := (hB5.block (r + 1) (by rw [HS1.out]; omega)).trans HY.out
  have hz5 := (hB5.block (r + 2) (by rw [HS1.out]; omega)).trans HZ.out
  have HY5 := Lib.hid hy5
  have HZ5 := Lib.hid hz5
  clear hB5 h5 HPb hy5 hz5 HO4 hs4
  refine HK.out _ _ (.inr hs5) ?_
  clear HK
  try simp only [Act.put, List.setIfInBounds_toArray, List.set_cons_zero, List.set_cons_succ]
  obtain ⟨lA, hlA⟩ : ∃ x, nA.keys.length = x := ⟨_, rfl⟩
  obtain ⟨vA', hvA⟩ : ∃ x, nA.vals.length = x := ⟨_, rfl⟩
  obtain ⟨iA', hiA⟩ : ∃ x, nA.kids.length = x := ⟨_, rfl⟩
  obtain ⟨lB, hlB⟩ : ∃ x, nB.keys.length = x := ⟨_, rfl⟩
  obtain ⟨vB', hvB⟩ : ∃ x, nB.vals.length = x := ⟨_, rfl⟩
  obtain ⟨iB', hiB⟩ : ∃ x, nB.kids.length = x := ⟨_, rfl⟩
  refine mOne (i := 9) (by as_aux_lemma => kernel_rfl) rfl (fun K hK => ?_)
  have HK := Lib.hid hK
  clear hK
  rw [if_pos (by rfl)]
  refine wp_storeRow 28 (.tmp 2) (.tmp 23) rfl (r + 1) (by rfl) [.bool lf, .slice kB nA.keys.length kd, .slice vB nA.vals.length vd, .slice iB nA.kids.length id] [.bool false, .slice none 0 0, .slice none 0 0, .slice none 0 0] (by rfl) (by kernel_rfl) rfl (by intro u hu; simp only [List.mem_cons, List.mem_nil_iff, or_false] at hu; rcases hu with rfl | rfl | rfl | rfl <;> rfl) HY5.out ?_
  intro w6 h6 hk6
  have hty5 : ∀ k cs t fz, k = r + 1 → w5.heap[k]? = some (.cells cs t fz) → t = 28 := fun k cs t fz e hc => by
    rw [e, HY5.out] at hc; injection hc with hc; injection hc with _ h4 _; exact h4.symm
  have HO56 : Hid (NodeOwn w6 W1.heap.size nB kC ke vC ve iC ie) := HO5.out.keptN hk6 hty5
  have HO46 : Hid (NodeOwn w6 W1.heap.size nA kB kd vB vd iB id) := HO45.out.keptN hk6 hty5
  have hx6 := (hk6.block r (Nat.lt_of_lt_of_le (by rw [HS1.out]; omega) HB5.out.size) (by show ¬ r = r + 1; omega)).trans ((HB5.out.block r (by rw [HS1.out]; omega)).trans HX.out)
  have hs6 := row4_cells hx6
  have hz6 := (hk6.block (r + 2) (Nat.lt_of_lt_of_le (by rw [HS1.out]; omega) HB5.out.size) (by show ¬ r + 2 = r + 1; omega)).trans HZ5.out
  have HZ6 := Lib.hid hz6
  have HX6 := Lib.hid hx6
  have HY6 := h6
  have HB6 : Hid (Below (r + 1) W1 w6) := (HB5.out.mono (by rw [HS1.out]; omega)).trans (hk6.below (by have := HB5.out.size; rw [HS1.out] at this; omega) (fun k hk e => by have e' : k = r + 1 := e; omega))
  have HL6 : Hid (r + 3 ≤ w6.heap.size) := (by have := HB5.out.size; rw [HS1.out] at this; exact Nat.le_trans this hk6.size)
  clear hz6 hx6 hty5 hk6 h6 hs5 HO5 HO45 HZ5 HY5
  refine HK.out _ _ (.inr hs6) ?_
  clear HK
  try simp only [Act.put, List.setIfInBounds_toArray, List.set_cons_zero, List.set_cons_succ]
  refine mOne (i := 10) (by as_aux_lemma => kernel_rfl) rfl (fun K hK => ?_)
  have HK := Lib.hid hK
  clear hK
  rw [if_pos (by rfl)]
  refine wp_storeRow 28 (.tmp 3) (.tmp 29) rfl (r + 2) (by rfl) [.bool lf, .slice kC nB.keys.length ke, .slice vC nB.vals.length ve, .slice iC nB.kids.length ie] [.bool false, .slice none 0 0, .slice none 0 0, .slice none 0 0] (by rfl) (by kernel_rfl) rfl (by intro u hu; simp only [List.mem_cons, List.mem_nil_iff, or_false] at hu; rcases hu with rfl | rfl | rfl | rfl <;> rfl) HZ6.out ?_
  intro w7 h7 hk7
  have hty6 : ∀ k cs t fz, k = r + 2 → w6.heap[k]? = some (.cells cs t fz) → t = 28 := fun k cs t fz e hc => by
    rw [e, HZ6.out] at hc; injection hc with hc; injection hc with _ h4 _; exact h4.symm
  have HO57 : Hid (NodeOwn w7 W1.heap.size nB kC ke vC ve iC ie) := HO56.out.keptN hk7 hty6
  have HO47 : Hid (NodeOwn w7 W1.heap.size nA kB kd vB vd iB id) := HO46.out.keptN hk7 hty6
  have hs7 := row4_cells ((hk7.block r (by have := HL6.out; omega) (by show ¬ r = r + 2; omega)).trans HX6.out)
  have HY7 : Hid (w7.heap[r + 1]? = _) := (hk7.block (r + 1) (by have := HL6.out; omega) (by show ¬ r + 1 = r + 2; omega)).trans HY6.out
  have HZ7 := h7
  have HB7 : Hid (Below r w w7) := HB.out.trans ((HB6.out.mono (by omega)).trans (hk7.below (by have := HL6.out; omega) (fun k hk e => by have e' : k = r + 2 := e; omega)))
  clear hty6 hk7 h7 hs6 HO56 HO46
  refine HK.out _ _ (by simp) ?_
  clear HK
  try simp only [Act.put, List.setIfInBounds_toArray, List.set_cons_zero, List.set_cons_succ]
  refine mOne (i := 11) (by as_aux_lemma => kernel_rfl) rfl (fun K hK => ?_)
  have HK := Lib.hid hK
  clear hK
  rw [if_pos (by rfl)]
  go_wp2_with fail
  refine HK.out _ _ (.inr hs7) ?_
  clear HK
  try simp only [Act.put, List.setIfInBounds_toArray, List.set_cons_zero, List.set_cons_succ]
  refine mDone (by as_aux_lemma => kernel_rfl) ?_ _
  go_wp2_with fail
  refine bodyPost_ret_by (results_cellCellTmp rfl _ rfl rfl rfl (run_retNode HY7.out) (run_retNode HZ7.out)) rfl ?_
  exact ⟨_, _, _, _, _, _, _, _, _, _, _, _, rfl, HO47.out.base' (by rw [HS1.out, HR0.out]; omega), HO57.out.base' (by rw [HS1.out, HR0.out]; omega), by rw [HR0.out]; exact HB7.out⟩
end Go.Proofs.YtibmlgkakeakcaaDoor
/- The walk of node.Cut where it refuses (printed by wip/gen/cutbad.py). -/
set_option linter.unusedSimpArgs false
set_option linter.unusedVariables false
namespace Go.Proofs.YtibmlgkakeakcaaDoor
open Go.RowKit Go.Proofs.YtibmlgkakeakcaaDoor.Crc
set_option maxRecDepth 10000 in
set_option maxHeartbeats 2000000 in
theorem Cut_form {w : World} {n : NodeM} {kA : Option Addr} {kc : Nat} {vA : Option Addr} {vc : Nat} {iA : Option Addr} {ic : Nat} (h : NodeAt w n kA kc vA vc iA ic) (hc0 : ¬ RightM n) (hn : n.keys.length ≤ 1000) :
    Calls Tryd.prog 24 #[.agg #[.bool n.leaf, .slice kA n.keys.length kc, .slice vA n.vals.length vc, .slice iA n.kids.length ic]] w fun e w' => e = .returned (.tuple #[.agg #[.bool false, .slice none 0 0, .slice none 0 0, .slice none 0 0], .agg #[.bool false, .slice none 0 0, .slice none 0 0, .slice none 0 0], .int .i64 22]) ∧ Hid (Below w.heap.size w w') := by
  have HRt0 := Lib.hid (fun w' (h' : NodeAt w' n kA kc vA vc iA ic) => Right_calls h')
  rw [rightB_false hc0] at HRt0
  have hc : n.keys.length ≤ 1000 := hn
  clear hc0
  obtain ⟨nk, hnk⟩ : ∃ k, n.keys.length = k := ⟨_, rfl⟩
  obtain ⟨nv, hnv⟩ : ∃ k, n.vals.length = k := ⟨_, rfl⟩
  obtain ⟨ni, hni⟩ : ∃ k, n.kids.length = k := ⟨_, rfl⟩
  obtain ⟨lf, hlf⟩ : ∃ k, n.leaf = k := ⟨_, rfl⟩
  rw [hnk, hnv, hni, hlf] at HRt0
  rw [hnk, hnv, hni, hlf]
  rw [hnk] at hn hc
  have hn2 : nk ≤ 9223372036854775807 := by omega
  obtain ⟨h1, hr2, hr3⟩ := node2_boxT w (.bool lf) (.slice kA nk kc) (.slice vA nv vc) (.slice iA ni ic) (.bool false) (.slice none 0 0) (.slice none 0 0) (.slice none 0 0) 28
  obtain ⟨W0, hW0⟩ : ∃ x, (w.alloc (.cells #[.bool lf, .slice kA nk kc, .slice vA nv vc, .slice iA ni ic] 28)).alloc (.cells #[.bool false, .slice none 0 0, .slice none 0 0, .slice none 0 0] 28) = x := ⟨_, rfl⟩
  rw [hW0] at h1 hr2 hr3
  have hs0 : W0.heap.size = w.heap.size + 2 := by rw [← hW0]; simp
  have hb2 : Below W0.heap.size W0 (W0.alloc (.cells #[.bool false, .slice none 0 0, .slice none 0 0, .slice none 0 0] 28)) := (Below.refl _ _).alloc (Nat.le_refl _) _
  have hr4 := heap_alloc_new W0 (.cells #[.bool false, .slice none 0 0, .slice none 0 0, .slice none 0 0] 28)
  have hx1 := (hb2.block _ (by omega)).trans hr2
  have hy1 := (hb2.block _ (by omega)).trans hr3
  obtain ⟨W1, hW1⟩ : ∃ x, W0.alloc (.cells #[.bool false, .slice none 0 0, .slice none 0 0, .slice none 0 0] 28) = x := ⟨_, rfl⟩
  rw [hW1] at hb2 hr4 hx1 hy1
  rw [hs0] at hr4
  have hs1 : W1.heap.size = w.heap.size + 3 := by rw [← hW1]; simp [hs0]
  have hW1' : ((w.alloc (.cells #[.bool lf, .slice kA nk kc, .slice vA nv vc, .slice iA ni ic] 28)).alloc (.cells #[.bool false, .slice none 0 0, .slice none 0 0, .slice none 0 0] 28)).alloc (.cells #[.bool false, .slice none 0 0, .slice none 0 0, .slice none 0 0] 28) = W1 := by rw [hW0]; exact hW1
  have hbw : Below w.heap.size w W1 := h1.trans (hb2.mono (by omega))
  have HAt : Hid (NodeAt W1 n kA kc vA vc iA ic) := h.below hbw
  obtain ⟨r, hr0⟩ : ∃ r, w.heap.size = r := ⟨_, rfl⟩
  rw [hr0] at hr4 hx1 hy1 hbw hs1
  have HX := Lib.hid hx1
  have HY := Lib.hid hy1
  have HZ := Lib.hid hr4
  have HB := Lib.hid hbw
  have HR0 := Lib.hid hr0
  have HS1 := Lib.hid hs1
  have HW := Lib.hid hW1'
  have HRt := Lib.hid (HRt0.out W1 HAt.out)
  rw [← hW1'] at HRt
  clear h1 hr2 hr3 hW0 hs0 hb2 hr4 hx1 hy1 hW1 hs1 hW1' hbw hnk hnv hni hlf h hr0 HRt0
  go_enter Tryd.func24, Tryd.ntmps24
  go_wp2_with (go_at_call 14; (with_reducible refine HRt.out.mono ?_); rintro e w2 ⟨rfl, hb2⟩; refine park ?_; intro q hq)
  rw [HW.out] at hb2
  have hx2 := (hb2.block r (by rw [HS1.out]; omega)).trans HX.out
  have hy2 := (hb2.block (r + 1) (by rw [HS1.out]; omega)).trans HY.out
  have hz2 := (hb2.block (r + 1 + 1) (by rw [HS1.out]; omega)).trans HZ.out
  obtain ⟨x0, x1, x2, x3⟩ := row4_cells hx2
  obtain ⟨y0, y1, y2, y3⟩ := row4_cells hy2
  obtain ⟨f0, f1, f2, f3⟩ := row4_frozen hy2
  obtain ⟨u0, u1, u2, u3⟩ := row4_cells hz2
  obtain ⟨v0, v1, v2, v3⟩ := row4_frozen hz2
  have HB2 := Lib.hid hb2
  have HY2 := Lib.hid hy2
  have HZ2 := Lib.hid hz2
  clear hx2 hb2 HRt hy2 hz2
  refine hq.out ?_
  clear hq
  simp only [HR0.out]
  go_wp2_with fail
  obtain ⟨g1, g2⟩ := row4_put HY2.out (.bool false) (.slice none 0 0) (.slice none 0 0) (.slice none 0 0)
  have hz3 := (g2.block (r + 1 + 1) (Array.getElem?_eq_some_iff.1 HZ2.out).1 (by show ¬ r + 1 + 1 = r + 1; omega)).trans HZ2.out
  obtain ⟨k1, k2⟩ := row4_put hz3 (.bool false) (.slice none 0 0) (.slice none 0 0) (.slice none 0 0)
  have g3 := (k2.block (r + 1) (Array.getElem?_eq_some_iff.1 g1).1 (by show ¬ r + 1 = r + 1 + 1; omega)).trans g1
  refine bodyPost_ret_by (results_cellCellTmp rfl _ rfl rfl rfl (run_retNode g3) (run_retNode k1)) rfl ?_
  refine ⟨rfl, ?_⟩
  have hs2 : r + 3 ≤ w2.heap.size := by have := HB2.out.size; rw [HS1.out] at this; exact this
  have hfin := (HB.out.trans (HB2.out.mono (by rw [HS1.out]; omega))).trans ((g2.below (B := r) (by omega) (fun k hk e => by have e' : k = r + 1 := e; omega)).trans (k2.below (by have := g2.size; omega) (fun k hk e => by have e' : k = r + 1 + 1 := e; omega)))
  exact (show Below w.heap.size w _ from by rw [HR0.out]; exact hfin)
set_option maxRecDepth 10000 in
set_option maxHeartbeats 2000000 in
theorem Cut_none {w : World} {n : NodeM} {kA : Option Addr} {kc : Nat} {vA : Option Addr} {vc : Nat} {iA : Option Addr} {ic : Nat} (h : NodeAt w n kA kc vA vc iA ic) (hc0 : RightM n ∧ n.keys.length < 2) (hn : n.keys.length ≤ 1000) :
    Calls Tryd.prog 24 #[.agg #[.bool n.leaf, .slice kA n.keys.length kc, .slice vA n.vals.length vc, .slice iA n.kids.length ic]] w fun e w' => e = .returned (.tuple #[.agg #[.bool false, .slice none 0 0, .slice none 0 0, .slice none 0 0], .agg #[.bool false, .slice none 0 0, .slice none 0 0, .slice none 0 0], .int .i64 40]) ∧ Hid (Below w.heap.size w w') := by
  have HRt0 := Lib.hid (fun w' (h' : NodeAt w' n kA kc vA vc iA ic) => Right_calls h')
  rw [rightB_true hc0.1] at HRt0
  have hc := hc0.2
  clear hc0
  obtain ⟨nk, hnk⟩ : ∃ k, n.keys.length = k := ⟨_, rfl⟩
  obtain ⟨nv, hnv⟩ : ∃ k, n.vals.length = k := ⟨_, rfl⟩
  obtain ⟨ni, hni⟩ : ∃ k, n.kids.length = k := ⟨_, rfl⟩
  obtain ⟨lf, hlf⟩ : ∃ k, n.leaf = k := ⟨_, rfl⟩
  rw [hnk, hnv, hni, hlf] at HRt0
  rw [hnk, hnv, hni, hlf]
  rw [hnk] at hn hc
  have hn2 : nk ≤ 9223372036854775807 := by omega
  obtain ⟨h1, hr2, hr3⟩ := node2_boxT w (.bool lf) (.slice kA nk kc) (.slice vA nv vc) (.slice iA ni ic) (.bool false) (.slice none 0 0) (.slice none 0 0) (.slice none 0 0) 28
  obtain ⟨W0, hW0⟩ : ∃ x, (w.alloc (.cells #[.bool lf, .slice kA nk kc, .slice vA nv vc, .slice iA ni ic] 28)).alloc (.cells #[.bool false, .slice none 0 0, .slice none 0 0, .slice none 0 0] 28) = x := ⟨_, rfl⟩
  rw [hW0] at h1 hr2 hr3
  have hs0 : W0.heap.size = w.heap.size + 2 := by rw [← hW0]; simp
  have hb2 : Below W0.heap.size W0 (W0.alloc (.cells #[.bool false, .slice none 0 0, .slice none 0 0, .slice none 0 0] 28)) := (Below.refl _ _).alloc (Nat.le_refl _) _
  have hr4 := heap_alloc_new W0 (.cells #[.bool false, .slice none 0 0, .slice none 0 0, .slice none 0 0] 28)
  have hx1 := (hb2.block _ (by omega)).trans hr2
  have hy1 := (hb2.block _ (by omega)).trans hr3
  obtain ⟨W1, hW1⟩ : ∃ x, W0.alloc (.cells #[.bool false, .slice none 0 0, .slice none 0 0, .slice none 0 0] 28) = x := ⟨_, rfl⟩
  rw [hW1] at hb2 hr4 hx1 hy1
  rw [hs0] at hr4
  have hs1 : W1.heap.size = w.heap.size + 3 := by rw [← hW1]; simp [hs0]
  have hW1' : ((w.alloc (.cells #[.bool lf, .slice kA nk kc, .slice vA nv vc, .slice iA ni ic] 28)).alloc (.cells #[.bool false, .slice none 0 0, .slice none 0 0, .slice none 0 0] 28)).alloc (.cells #[.bool false, .slice none 0 0, .slice none 0 0, .slice none 0 0] 28) = W1 := by rw [hW0]; exact hW1
  have hbw : Below w.heap.size w W1 := h1.trans (hb2.mono (by omega))
  have HAt : Hid (NodeAt W1 n kA kc vA vc iA ic) := h.below hbw
  obtain ⟨r, hr0⟩ : ∃ r, w.heap.size = r := ⟨_, rfl⟩
  rw [hr0] at hr4 hx1 hy1 hbw hs1
  have HX := Lib.hid hx1
  have HY := Lib.hid hy1
  have HZ := Lib.hid hr4
  have HB := Lib.hid hbw
  have HR0 := Lib.hid hr0
  have HS1 := Lib.hid hs1
  have HW := Lib.hid hW1'
  have HRt := Lib.hid (HRt0.out W1 HAt.out)
  rw [← hW1'] at HRt
  clear h1 hr2 hr3 hW0 hs0 hb2 hr4 hx1 hy1 hW1 hs1 hW1' hbw hnk hnv hni hlf h hr0 HRt0
  have hd2 : nk < 2 := hc
  go_enter Tryd.func24, Tryd.ntmps24
  go_wp2_with (go_at_call 14; (with_reducible refine HRt.out.mono ?_); rintro e w2 ⟨rfl, hb2⟩; refine park ?_; intro q hq)
  rw [HW.out] at hb2
  have hx2 := (hb2.block r (by rw [HS1.out]; omega)).trans HX.out
  have hy2 := (hb2.block (r + 1) (by rw [HS1.out]; omega)).trans HY.out
  have hz2 := (hb2.block (r + 1 + 1) (by rw [HS1.out]; omega)).trans HZ.out
  obtain ⟨x0, x1, x2, x3⟩ := row4_cells hx2
  obtain ⟨y0, y1, y2, y3⟩ := row4_cells hy2
  obtain ⟨f0, f1, f2, f3⟩ := row4_frozen hy2
  obtain ⟨u0, u1, u2, u3⟩ := row4_cells hz2
  obtain ⟨v0, v1, v2, v3⟩ := row4_frozen hz2
  have HB2 := Lib.hid hb2
  have HY2 := Lib.hid hy2
  have HZ2 := Lib.hid hz2
  clear hx2 hb2 HRt hy2 hz2
  refine hq.out ?_
  clear hq
  simp only [HR0.out]
  go_wp2_with fail
  obtain ⟨g1, g2⟩ := row4_put HY2.out (.bool false) (.slice none 0 0) (.slice none 0 0) (.slice none 0 0)
  have hz3 := (g2.block (r + 1 + 1) (Array.getElem?_eq_some_iff.1 HZ2.out).1 (by show ¬ r + 1 + 1 = r + 1; omega)).trans HZ2.out
  obtain ⟨k1, k2⟩ := row4_put hz3 (.bool false) (.slice none 0 0) (.slice none 0 0) (.slice none 0 0)
  have g3 := (k2.block (r + 1) (Array.getElem?_eq_some_iff.1 g1).1 (by show ¬ r + 1 = r + 1 + 1; omega)).trans g1
  refine bodyPost_ret_by (results_cellCellTmp rfl _ rfl rfl rfl (run_retNode g3) (run_retNode k1)) rfl ?_
  refine ⟨rfl, ?_⟩
  have hs2 : r + 3 ≤ w2.heap.size := by have := HB2.out.size; rw [HS1.out] at this; exact this
  have hfin := (HB.out.trans (HB2.out.mono (by rw [HS1.out]; omega))).trans ((g2.below (B := r) (by omega) (fun k hk e => by have e' : k = r + 1 := e; omega)).trans (k2.below (by have := g2.size; omega) (fun k hk e => by have e' : k = r + 1 + 1 := e; omega)))
  exact (show Below w.heap.size w _ from by rw [HR0.out]; exact hfin)
end Go.Proofs.YtibmlgkakeakcaaDoor
/- The walk of node.Join (printed by wip/gen/joingen.py). -/
set_option linter.unusedSimpArgs false
set_option linter.unusedVariables false
namespace Go.Proofs.YtibmlgkakeakcaaDoor
open Go.RowKit Go.Proofs.YtibmlgkakeakcaaDoor.Crc
def joinM (a : NodeM) (key : List UInt8) (b : NodeM) : NodeM := ⟨a.leaf, a.keys ++ (if b.leaf then b.keys else b.keys.set 0 key), a.vals ++ b.vals, a.kids ++ b.kids⟩
theorem Below.sizeE {B : Nat} {a b : World} (h : Below B a b) (e : a.heap.size = B) : B ≤ b.heap.size := by rw [← e]; exact h.size
end Go.Proofs.YtibmlgkakeakcaaDoor
/- Halves of nodes (plain). -/
set_option linter.unusedSimpArgs false
set_option linter.unusedVariables false
namespace Go.Proofs.YtibmlgkakeakcaaDoor
open Go.RowKit Go.Proofs.YtibmlgkakeakcaaDoor.Crc
/-- Keys that are short enough and rise. -/
def RiseL (ks : List (List UInt8)) : Prop := (∀ k ∈ ks, k.length ≤ 40) ∧ ks.Pairwise (fun a b => ltB a b = true)
theorem RiseL.of {ks : List (List UInt8)} (h : riseK ks ks.length) : RiseL ks := by
  refine ⟨fun k hk => ?_, ?_⟩
  · obtain ⟨i, hi, rfl⟩ := List.getElem_of_mem hk
    have := (h i hi).1
    rwa [atL_eq ks i hi] at this
  · rw [List.pairwise_iff_getElem]
    intro i j hi hj hij
    obtain ⟨d, rfl⟩ : ∃ d, j = i + 1 + d := ⟨j - i - 1, by omega⟩
    clear hij
    induction d with
    | zero =>
      have := (h (i + 1) hj).2 (by omega)
      rw [Nat.add_sub_cancel, atL_eq ks i hi, atL_eq ks (i + 1) hj] at this
      exact this
    | succ d ih =>
      have h1 := ih (by omega)
      have := (h (i + 1 + (d + 1)) hj).2 (by omega)
      rw [show i + 1 + (d + 1) - 1 = i + 1 + d from by omega, atL_eq ks (i + 1 + d) (by omega), atL_eq ks (i + 1 + (d + 1)) hj] at this
      exact ltB_trans _ _ _ h1 this
theorem RiseL.to {ks : List (List UInt8)} (h : RiseL ks) : riseK ks ks.length := fun i hi => by
  refine ⟨by rw [atL_eq ks i hi]; exact h.1 _ (List.getElem_mem hi), fun h0 => ?_⟩
  rw [atL_eq ks i hi, atL_eq ks (i - 1) (by omega)]
  exact (List.pairwise_iff_getElem.1 h.2) (i - 1) i (by omega) hi (by omega)
theorem right_leaf {ks vs : List (List UInt8)} {is : List Int} : RightM ⟨true, ks, vs, is⟩ ↔ RiseL ks ∧ vs.length = ks.length ∧ is = [] ∧ ∀ v ∈ vs, v.length ≤ 49 := by
  unfold RightM
  simp only [if_true]
  constructor
  · rintro ⟨h1, h2, h3, h4⟩; exact ⟨RiseL.of h1, h2, List.length_eq_zero_iff.1 h3, h4⟩
  · rintro ⟨h1, h2, h3, h4⟩; exact ⟨h1.to, h2, by rw [h3]; rfl, h4⟩
theorem right_inner {ks vs : List (List UInt8)} {is : List Int} : RightM ⟨false, ks, vs, is⟩ ↔ RiseL ks ∧ is.length = ks.length ∧ 0 < is.length ∧ vs = [] ∧ atL ks 0 = [] ∧ ∀ k ∈ is, 0 ≤ k ∧ k ≤ 2147483647 := by
  unfold RightM
  simp only [Bool.false_eq_true, if_false]
  constructor
  · rintro ⟨h1, h2, h3, h4, h5, h6⟩; exact ⟨RiseL.of h1, h2, h3, List.length_eq_zero_iff.1 h4, h5, h6⟩
  · rintro ⟨h1, h2, h3, h4, h5, h6⟩; exact ⟨h1.to, h2, h3, by rw [h4]; rfl, h5, h6⟩
theorem firstM_leaf (ks vs : List (List UInt8)) (is : List Int) : firstM ⟨true, ks, vs, is⟩ = ⟨true, ks, vs, is⟩ := by unfold firstM; simp
theorem firstM_inner (ks vs : List (List UInt8)) (is : List Int) : firstM ⟨false, ks, vs, is⟩ = ⟨false, ks.set 0 [], vs, is⟩ := by
  unfold firstM
  cases ks with
  | nil => simp
  | cons k ks => simp
theorem set0_same {ks : List (List UInt8)} (h : atL ks 0 = []) : ks.set 0 [] = ks := by
  cases ks with
  | nil => rfl
  | cons k ks => rw [List.set_cons_zero]; have : k = [] := h; rw [this]
theorem sizC_take_drop (cs : List (List UInt8)) (k : Nat) : sizC (cs.take k) + sizC (cs.drop k) = sizC cs := by rw [← sizC_append, List.take_append_drop]
theorem RightM.two {n : NodeM} (h : RightM n) : (n.leaf = true → n.vals.length = n.keys.length) ∧ (n.leaf = false → n.kids.length = n.keys.length) := by
  have h2 := h.2
  refine ⟨fun e => ?_, fun e => ?_⟩
  · rw [if_pos e] at h2; exact h2.1
  · rw [if_neg (by rw [e]; decide)] at h2; exact h2.1
end Go.Proofs.YtibmlgkakeakcaaDoor
/- A cell put into a node (plain). -/
set_option linter.unusedSimpArgs false
set_option linter.unusedVariables false
namespace Go.Proofs.YtibmlgkakeakcaaDoor
open Go.RowKit Go.Proofs.YtibmlgkakeakcaaDoor.Crc
/-- A node with a cell put in at i. -/
def insM (n : NodeM) (i : Nat) (key val : List UInt8) (kid : Int) : NodeM := ⟨n.leaf, n.keys.take i ++ [key] ++ n.keys.drop i, if n.leaf then n.vals.take i ++ [val] ++ n.vals.drop i else n.vals, if n.leaf then n.kids else n.kids.take i ++ [kid] ++ n.kids.drop i⟩
theorem ins_length {α : Type} (l : List α) (x : α) (p : Nat) : (l.take p ++ [x] ++ l.drop p).length = l.length + 1 := by
  simp only [List.length_append, List.length_take, List.length_drop, List.length_cons, List.length_nil]; omega
theorem insM_len (n : NodeM) (i : Nat) (key val : List UInt8) (kid : Int) : (insM n i key val kid).keys.length = n.keys.length + 1 := ins_length _ _ _
end Go.Proofs.YtibmlgkakeakcaaDoor
/- The walks of node.checked (whatever the node) and node.Insert (printed by wip/gen/insertgen.py). -/
set_option linter.unusedSimpArgs false
set_option linter.unusedVariables false
namespace Go.Proofs.YtibmlgkakeakcaaDoor
open Go.RowKit Go.Proofs.YtibmlgkakeakcaaDoor.Crc
def zeroM : NodeM := ⟨false, [], [], []⟩
noncomputable def outM (n : NodeM) : NodeM := if rightB n then n else zeroM
noncomputable def codeN (n : NodeM) : Int := if rightB n then 0 else 22
theorem outM_right {n : NodeM} (h : RightM n) : outM n = n := by unfold outM; rw [rightB_true h]; rfl
theorem codeN_right {n : NodeM} (h : RightM n) : codeN n = 0 := by unfold codeN; rw [rightB_true h]; rfl
theorem outM_bad {n : NodeM} (h : ¬ RightM n) : outM n = zeroM := by unfold outM; rw [rightB_false h]; rfl
theorem codeN_bad {n : NodeM} (h : ¬ RightM n) : codeN n = 22 := by unfold codeN; rw [rightB_false h]; rfl
theorem NodeOwn.zero (w : World) (B : Nat) : NodeOwn w B zeroM none 0 none 0 none 0 := ⟨OwnVs.nil w B _, OwnRL.nil w B, OwnVs.nil w B _⟩
set_option maxRecDepth 10000 in
set_option maxHeartbeats 1000000 in
theorem checked_bad {w : World} {n : NodeM} {kA : Option Addr} {kc : Nat} {vA : Option Addr} {vc : Nat} {iA : Option Addr} {ic : Nat} (h : NodeAt w n kA kc vA vc iA ic) (hr : ¬ RightM n) :
    Calls Tryd.prog 52 #[.agg #[.bool n.leaf, .slice kA n.keys.length kc, .slice vA n.vals.length vc, .slice iA n.kids.length ic]] w fun e w' => e = .returned (.tuple #[.agg #[.bool false, .slice none 0 0, .slice none 0 0, .slice none 0 0], .int .i64 22]) ∧ Hid (Below w.heap.size w w') := by
  obtain ⟨h1, h2, h3⟩ := node2_boxT w (.bool n.leaf) (.slice kA n.keys.length kc) (.slice vA n.vals.length vc) (.slice iA n.kids.length ic) (.bool false) (.slice none 0 0) (.slice none 0 0) (.slice none 0 0) 28
  have HRt := Lib.hid (Right_calls (h.below h1))
  rw [rightB_false hr] at HRt
  obtain ⟨nk, hnk⟩ : ∃ k, n.keys.length = k := ⟨_, rfl⟩
  obtain ⟨nv, hnv⟩ : ∃ k, n.vals.length = k := ⟨_, rfl⟩
  obtain ⟨ni, hni⟩ : ∃ k, n.kids.length = k := ⟨_, rfl⟩
  obtain ⟨lf, hlf⟩ : ∃ k, n.leaf = k := ⟨_, rfl⟩
  rw [hnk, hnv, hni, hlf] at h1 h2 h3 HRt ⊢
  obtain ⟨W1, hW1⟩ : ∃ x, (w.alloc (.cells #[.bool lf, .slice kA nk kc, .slice vA nv vc, .slice iA ni ic] 28)).alloc (.cells #[.bool false, .slice none 0 0, .slice none 0 0, .slice none 0 0] 28) = x := ⟨_, rfl⟩
  rw [hW1] at h1 h2 h3
  have HB := Lib.hid h1
  have HX := Lib.hid h2
  have HY := Lib.hid h3
  have HW1 := Lib.hid hW1
  obtain ⟨r, hr0⟩ : ∃ r, w.heap.size = r := ⟨_, rfl⟩
  have HR0 := Lib.hid hr0
  rw [hr0] at HX HY
  clear h1 h2 h3 hW1 h hr hnk hnv hni hlf hr0
  go_enter Tryd.func52, Tryd.ntmps52
  go_wp2_with (go_at_call 14; (with_reducible refine HRt.out.mono ?_); rintro e w2 ⟨rfl, hb2⟩; refine park ?_; intro q hq)
  rw [HW1.out] at hb2
  have hx2 := (hb2.block r (Array.getElem?_eq_some_iff.1 HX.out).1).trans HX.out
  have hy2 := (hb2.block (r + 1) (Array.getElem?_eq_some_iff.1 HY.out).1).trans HY.out
  have HB2 : Hid (Below r w w2) := by rw [← HR0.out]; exact HB.out.trans (hb2.mono HB.out.size)
  obtain ⟨x0, x1, x2, x3⟩ := row4_cells hx2
  obtain ⟨y0, y1, y2, y3⟩ := row4_cells hy2
  obtain ⟨f0, f1, f2, f3⟩ := row4_frozen hy2
  have HY2 := Lib.hid hy2
  clear hx2 hy2 hb2 HRt
  refine hq.out ?_
  clear hq
  simp only [HR0.out]
  go_wp2_with fail
  obtain ⟨g1, g2⟩ := row4_put HY2.out (.bool false) (.slice none 0 0) (.slice none 0 0) (.slice none 0 0)
  refine bodyPost_ret_by (results_cellTmp rfl _ rfl rfl (run_retNode g1)) rfl ?_
  refine ⟨rfl, ?_⟩
  have hfin := HB2.out.trans (g2.below (by have := (Array.getElem?_eq_some_iff.1 HY2.out).1; omega) (fun k hk e => by have e' : k = r + 1 := e; omega))
  exact (show Below w.heap.size w _ from by rw [HR0.out]; exact hfin)
/-- checked, whatever the node. -/
theorem checkedO_calls {w : World} {B : Nat} {n : NodeM} {kA : Option Addr} {kc : Nat} {vA : Option Addr} {vc : Nat} {iA : Option Addr} {ic : Nat} (h : NodeOwn w B n kA kc vA vc iA ic) :
    Calls Tryd.prog 52 #[.agg #[.bool n.leaf, .slice kA n.keys.length kc, .slice vA n.vals.length vc, .slice iA n.kids.length ic]] w fun e w' => ∃ kB kd vB vd iB id, e = .returned (.tuple #[.agg #[.bool (outM n).leaf, .slice kB (outM n).keys.length kd, .slice vB (outM n).vals.length vd, .slice iB (outM n).kids.length id], .int .i64 (codeN n)]) ∧ Hid (NodeOwn w' B (outM n) kB kd vB vd iB id ∧ Below w.heap.size w w') := by
  by_cases hr : RightM n
  · refine (checked_calls h.at' hr).mono ?_
    rintro e w' ⟨rfl, hb⟩
    rw [outM_right hr, codeN_right hr]
    exact ⟨_, _, _, _, _, _, rfl, h.below hb.out, hb.out⟩
  · refine (checked_bad h.at' hr).mono ?_
    rintro e w' ⟨rfl, hb⟩
    rw [outM_bad hr, codeN_bad hr]
    exact ⟨none, 0, none, 0, none, 0, rfl, NodeOwn.zero _ _, hb.out⟩
set_option maxRecDepth 10000 in
set_option maxHeartbeats 16000000 in
theorem InsertN_calls {w : World} {n : NodeM} {kA : Option Addr} {kc : Nat} {vA : Option Addr} {vc : Nat} {iA : Option Addr} {ic : Nat} (h : NodeAt w n kA kc vA vc iA ic) (hr : RightM n) (hs : n.keys.length ≤ 1000) (i : Nat) (hi : i ≤ n.keys.length) (key : List UInt8) {dA : Option Addr} {dc : Nat} {ds : List UInt8} (hdb : Bytes w dA ds) (hdn : dA = none → dc = 0) (hdl : ds.length ≤ 1000) (kid : Int) :
    Calls Tryd.prog 22 #[.agg #[.bool n.leaf, .slice kA n.keys.length kc, .slice vA n.vals.length vc, .slice iA n.kids.length ic], .int .i64 (i : Int), .string (bstr key), .slice dA ds.length dc, .int .i64 kid] w fun e w' => ∃ kB kd vB vd iB id, e = .returned (.tuple #[.agg #[.bool (outM (insM n i key ds kid)).leaf, .slice kB (outM (insM n i key ds kid)).keys.length kd, .slice vB (outM (insM n i key ds kid)).vals.length vd, .slice iB (outM (insM n i key ds kid)).kids.length id], .int .i64 (codeN (insM n i key ds kid))]) ∧ Hid (NodeOwn w' w.heap.size (outM (insM n i key ds kid)) kB kd vB vd iB id ∧ Below w.heap.size w w') := by
  obtain ⟨hv1, hv2, hv3⟩ := hr.lens
  obtain ⟨h1, h2, h3⟩ := node2_boxT w (.bool n.leaf) (.slice kA n.keys.length kc) (.slice vA n.vals.length vc) (.slice iA n.kids.length ic) (.bool false) (.slice none 0 0) (.slice none 0 0) (.slice none 0 0) 28
  have HRt := Lib.hid (Right_calls (h.below h1))
  rw [rightB_true hr] at HRt
  have HOw : Hid (∀ w' kA kc vA vc iA ic, NodeAt w' n kA kc vA vc iA ic → Calls Tryd.prog 48 #[.agg #[.bool n.leaf, .slice kA n.keys.length kc, .slice vA n.vals.length vc, .slice iA n.kids.length ic]] w' fun e w'' => ∃ kB kd vB vd iB id, e = .returned (.agg #[.bool n.leaf, .slice kB n.keys.length kd, .slice vB n.vals.length vd, .slice iB n.kids.length id]) ∧ Hid (NodeOwn w'' w'.heap.size n kB kd vB vd iB id ∧ Below w'.heap.size w' w'')) := fun w' kA kc vA vc iA ic h => ownN_calls h ⟨hs, by omega, by omega⟩ (fun v hv => by have := hv3 v hv; omega)
  have H := Lib.hid (h.below h1)
  obtain ⟨lf, ks, vs, is⟩ := n
  simp only at hi hs hv1 hv2 h1 h2 h3 HRt HOw ⊢
  obtain ⟨nk, hnk⟩ : ∃ k, ks.length = k := ⟨_, rfl⟩
  obtain ⟨nv, hnv⟩ : ∃ k, vs.length = k := ⟨_, rfl⟩
  obtain ⟨ni, hni⟩ : ∃ k, is.length = k := ⟨_, rfl⟩
  have HNK := Lib.hid hnk
  have HNV := Lib.hid hnv
  have HNI := Lib.hid hni
  rw [hnk] at hi hs hv1 hv2
  rw [hnv] at hv1
  rw [hni] at hv2
  rw [hnk, hnv, hni] at h1 h2 h3 HRt HOw ⊢
  obtain ⟨W1, hW1⟩ : ∃ x, (w.alloc (.cells #[.bool lf, .slice kA nk kc, .slice vA nv vc, .slice iA ni ic] 28)).alloc (.cells #[.bool false, .slice none 0 0, .slice none 0 0, .slice none 0 0] 28) = x := ⟨_, rfl⟩
  rw [hnk, hnv, hni, hW1] at H
  rw [hW1] at h1 h2 h3
  have HB := Lib.hid h1
  have HX := Lib.hid h2
  have HY := Lib.hid h3
  have HW1 := Lib.hid hW1
  have HR := Lib.hid hr
  have HD := Lib.hid hdb
  have HDn := Lib.hid hdn
  have HDl := Lib.hid hdl
  obtain ⟨dn, hdn0⟩ : ∃ k, ds.length = k := ⟨_, rfl⟩
  have HDN := Lib.hid hdn0
  obtain ⟨y, hy0⟩ : ∃ y, bstr key = y := ⟨_, rfl⟩
  have HYK : Hid (strV key = .string y) := by show strV key = _; unfold strV; rw [hy0]
  rw [hdn0, hy0]
  obtain ⟨r, hr0⟩ : ∃ r, w.heap.size = r := ⟨_, rfl⟩
  have HR0 := Lib.hid hr0
  rw [hr0] at HX HY
  clear h1 h2 h3 hW1 h hr hnk hnv hni hr0 hv3 hdb hdn hdl hdn0 hy0
  have hd2 : decide (nk < i) = false := by simp; omega
  go_enter Tryd.func22, Tryd.ntmps22
  go_wp2_with (go_at_call 14; (with_reducible refine HRt.out.mono ?_); rintro e w2 ⟨rfl, hb2⟩; refine park ?_; intro q hq)
  rw [HW1.out] at hb2
  have hx2 := (hb2.block r (Array.getElem?_eq_some_iff.1 HX.out).1).trans HX.out
  have hy2 := (hb2.block (r + 1) (Array.getElem?_eq_some_iff.1 HY.out).1).trans HY.out
  have HB2 : Hid (Below r w w2) := by rw [← HR0.out]; exact HB.out.trans (hb2.mono HB.out.size)
  have HO2 := Lib.hid (HOw.out w2 _ _ _ _ _ _ (H.out.below hb2))
  obtain ⟨x0, x1, x2, x3⟩ := row4_cells hx2
  have HX2 := Lib.hid hx2
  have HY2 := Lib.hid hy2
  clear hx2 hy2 hb2 HRt HOw H
  refine hq.out ?_
  clear hq
  simp only [HR0.out]
  go_wp2_with (go_at_call 48; (with_reducible refine HO2.out.mono ?_); rintro e w3 ⟨kB, kd, vB, vd, iB, id, rfl, h3⟩; refine park ?_; intro q hq)
  have hx3 := (h3.out.2.block r (Array.getElem?_eq_some_iff.1 HX2.out).1).trans HX2.out
  have hy3 := (h3.out.2.block (r + 1) (Array.getElem?_eq_some_iff.1 HY2.out).1).trans HY2.out
  obtain ⟨f0, f1, f2, f3⟩ := row4_frozen hx3
  obtain ⟨x0', x1', x2', x3'⟩ := row4_cells hx3
  obtain ⟨g1, g2⟩ := row4_put hx3 (.bool lf) (.slice kB nk kd) (.slice vB nv vd) (.slice iB ni id)
  have hty : ∀ k cs t fz, k = r → w3.heap[k]? = some (.cells cs t fz) → t = 28 := fun k cs t fz e hc => by
    rw [e, hx3] at hc; injection hc with hc; injection hc with _ h4 _; exact h4.symm
  have hO3 := h3.out.1
  have HO4 := Lib.hid (hO3.keptN g2 hty)
  have hrr : r < w2.heap.size := (Array.getElem?_eq_some_iff.1 HX2.out).1
  have hrr1 : r + 1 < w2.heap.size := (Array.getElem?_eq_some_iff.1 HY2.out).1
  have HB4 : Hid (Below r w ((((w3.setCell ⟨r, 0, none⟩ (.bool lf)).setCell ⟨r, 1, none⟩ (.slice kB nk kd)).setCell ⟨r, 2, none⟩ (.slice vB nv vd)).setCell ⟨r, 3, none⟩ (.slice iB ni id))) := (HB2.out.trans (h3.out.2.mono (Nat.le_of_lt hrr))).trans (g2.below (Nat.le_trans (Nat.le_of_lt hrr) h3.out.2.size) (fun k hk e => by have e' : k = r := e; omega))
  have HY4 : Hid (((((w3.setCell ⟨r, 0, none⟩ (.bool lf)).setCell ⟨r, 1, none⟩ (.slice kB nk kd)).setCell ⟨r, 2, none⟩ (.slice vB nv vd)).setCell ⟨r, 3, none⟩ (.slice iB ni id)).heap[r + 1]? = some (.cells #[.bool false, .slice none 0 0, .slice none 0 0, .slice none 0 0] 28 (0, 0))) := (g2.block (r + 1) (Nat.lt_of_lt_of_le hrr1 h3.out.2.size) (by show ¬ r + 1 = r; omega)).trans hy3
  have HX4 := Lib.hid g1
  have HS4 : Hid (w2.heap.size ≤ ((((w3.setCell ⟨r, 0, none⟩ (.bool lf)).setCell ⟨r, 1, none⟩ (.slice kB nk kd)).setCell ⟨r, 2, none⟩ (.slice vB nv vd)).setCell ⟨r, 3, none⟩ (.slice iB ni id)).heap.size) := Nat.le_trans h3.out.2.size g2.size
  have hK4 : OwnVs ((((w3.setCell ⟨r, 0, none⟩ (.bool lf)).setCell ⟨r, 1, none⟩ (.slice kB nk kd)).setCell ⟨r, 2, none⟩ (.slice vB nv vd)).setCell ⟨r, 3, none⟩ (.slice iB ni id)) w2.heap.size 9 (.slice kB nk kd) (strs ks) := by
    have h := HO4.out.k
    change OwnVs _ _ _ (.slice kB ks.length kd) (strs ks) at h
    rw [HNK.out] at h
    exact h
  have HSz5 : Hid (((((w3.setCell ⟨r, 0, none⟩ (.bool lf)).setCell ⟨r, 1, none⟩ (.slice kB nk kd)).setCell ⟨r, 2, none⟩ (.slice vB nv vd)).setCell ⟨r, 3, none⟩ (.slice iB ni id)).heap.size = w3.heap.size) := by show _ = _; simp [World.setCell]
  have HC5 : Hid (Calls Tryd.prog 49 #[.slice kB nk kd, .int .i64 (i : Int), .int .i64 (i : Int), .slice (some ⟨w3.heap.size, 0, none⟩) 1 1] (((((w3.setCell ⟨r, 0, none⟩ (.bool lf)).setCell ⟨r, 1, none⟩ (.slice kB nk kd)).setCell ⟨r, 2, none⟩ (.slice vB nv vd)).setCell ⟨r, 3, none⟩ (.slice iB ni id)).alloc (.cells #[.string y] 9)) fun e w' => ∃ v, e = .returned v ∧ Hid (OwnVs w' (((((w3.setCell ⟨r, 0, none⟩ (.bool lf)).setCell ⟨r, 1, none⟩ (.slice kB nk kd)).setCell ⟨r, 2, none⟩ (.slice vB nv vd)).setCell ⟨r, 3, none⟩ (.slice iB ni id))).heap.size 9 v (strs (ks.take i ++ [key] ++ ks.drop i)) ∧ Below (((((w3.setCell ⟨r, 0, none⟩ (.bool lf)).setCell ⟨r, 1, none⟩ (.slice kB nk kd)).setCell ⟨r, 2, none⟩ (.slice vB nv vd)).setCell ⟨r, 3, none⟩ (.slice iB ni id))).heap.size ((((w3.setCell ⟨r, 0, none⟩ (.bool lf)).setCell ⟨r, 1, none⟩ (.slice kB nk kd)).setCell ⟨r, 2, none⟩ (.slice vB nv vd)).setCell ⟨r, 3, none⟩ (.slice iB ni id)) w')) := by
    have hba : Below ((((w3.setCell ⟨r, 0, none⟩ (.bool lf)).setCell ⟨r, 1, none⟩ (.slice kB nk kd)).setCell ⟨r, 2, none⟩ (.slice vB nv vd)).setCell ⟨r, 3, none⟩ (.slice iB ni id)).heap.size ((((w3.setCell ⟨r, 0, none⟩ (.bool lf)).setCell ⟨r, 1, none⟩ (.slice kB nk kd)).setCell ⟨r, 2, none⟩ (.slice vB nv vd)).setCell ⟨r, 3, none⟩ (.slice iB ni id)) (((((w3.setCell ⟨r, 0, none⟩ (.bool lf)).setCell ⟨r, 1, none⟩ (.slice kB nk kd)).setCell ⟨r, 2, none⟩ (.slice vB nv vd)).setCell ⟨r, 3, none⟩ (.slice iB ni id)).alloc (.cells #[.string y] 9)) := (Below.refl _ _).alloc (Nat.le_refl _) _
    obtain ⟨e1, v1, n1, l1, m1⟩ := (hK4.below hba).at'
    have hn := heap_alloc_new ((((w3.setCell ⟨r, 0, none⟩ (.bool lf)).setCell ⟨r, 1, none⟩ (.slice kB nk kd)).setCell ⟨r, 2, none⟩ (.slice vB nv vd)).setCell ⟨r, 3, none⟩ (.slice iB ni id)) (.cells #[.string y] 9)
    rw [HSz5.out] at hn
    have h := splicedS_calls (xs := strs ks) (ys := [.string y]) (Ai := some ⟨w3.heap.size, 0, none⟩) (ci := 1) (m := 1) (i := i) (j := i) v1 (by rw [strs_length, HNK.out]) l1 m1 n1 (strs_one ks) (Nat.le_refl i) hi (ValsAt.one hn) rfl (fun h => by cases h) (fun u hu => by rw [List.mem_singleton.1 hu]; rfl) (by omega) (by decide)
    rw [show (strs ks).take i ++ [Value.string y] ++ (strs ks).drop i = strs (ks.take i ++ [key] ++ ks.drop i) from by rw [strs_take, strs_drop, strs_app, strs_app, ← HYK.out]; rfl] at h
    refine h.mono ?_
    rintro e w' ⟨v, rfl, h7⟩
    exact ⟨v, rfl, h7.out.1.base' hba.size, hba.trans (h7.out.2.mono hba.size)⟩
  simp only [HSz5.out] at HC5
  clear hK4
  obtain ⟨W4, hW4⟩ : ∃ x, ((((w3.setCell ⟨r, 0, none⟩ (.bool lf)).setCell ⟨r, 1, none⟩ (.slice kB nk kd)).setCell ⟨r, 2, none⟩ (.slice vB nv vd)).setCell ⟨r, 3, none⟩ (.slice iB ni id)) = x := ⟨_, rfl⟩
  rw [hW4] at HO4 HB4 HY4 HX4 HS4
  have HW4 := Lib.hid hW4
  clear hx3 hy3 x0 x1 x2 x3 hty hO3 h3 g1 g2 HX2 HY2 HO2 HB2 hW4
  refine hq.out ?_
  clear hq
  go_wp2_with (go_at_call 49; (with_reducible refine HC5.out.mono ?_); rintro e w5 ⟨v5, rfl, h5⟩; refine park ?_; intro q hq)
  rw [HW4.out, show w3.heap.size = W4.heap.size from by rw [← HSz5.out, HW4.out]] at h5
  obtain ⟨A5, c5, hv5, _⟩ := h5.out.1.sl
  rw [strs_length] at hv5
  obtain ⟨nk', hnk'⟩ : ∃ x, (ks.take i ++ [key] ++ ks.drop i).length = x := ⟨_, rfl⟩
  have HNK' := Lib.hid hnk'
  rw [hnk'] at hv5
  subst hv5
  have hx5 := (h5.out.2.block r (Array.getElem?_eq_some_iff.1 HX4.out).1).trans HX4.out
  have hy5 := (h5.out.2.block (r + 1) (Array.getElem?_eq_some_iff.1 HY4.out).1).trans HY4.out
  have HO5 := Lib.hid (HO4.out.below h5.out.2)
  have HK5 := Lib.hid (h5.out.1.base' HS4.out)
  have HB5 : Hid (Below r w w5) := HB4.out.trans (h5.out.2.mono (Nat.le_trans (Nat.le_of_lt hrr) HS4.out))
  have HS5 : Hid (w2.heap.size ≤ w5.heap.size) := Nat.le_trans HS4.out h5.out.2.size
  clear h5 f0 f1 f2 f3 x0' x1' x2' x3' HC5 hnk' HX4 HY4 HO4 HB4 HS4 HW4 HSz5
  obtain ⟨f0, f1, f2, f3⟩ := row4_frozen hx5
  obtain ⟨x0, x1, x2, x3⟩ := row4_cells hx5
  have k6 : Kept (· = r) w5 (w5.setCell ⟨r, 1, none⟩ (.slice A5 nk' c5)) := Kept.set1 w5 r 1 _
  have hx6 := row4_set1 hx5 (.slice A5 nk' c5)
  have hty : ∀ k cs t fz, k = r → w5.heap[k]? = some (.cells cs t fz) → t = 28 := fun k cs t fz e hc => by
    rw [e, hx5] at hc; injection hc with hc; injection hc with _ h4 _; exact h4.symm
  have HO6 := Lib.hid (HO5.out.keptN k6 hty)
  have HK6 := Lib.hid (HK5.out.keptT k6 (fun k cs hS hc => absurd (hty _ _ _ _ hS hc) (by decide)))
  have HB6 : Hid (Below r w (w5.setCell ⟨r, 1, none⟩ (.slice A5 nk' c5))) := HB5.out.trans (k6.below (Nat.le_trans (Nat.le_of_lt hrr) HS5.out) (fun k hk e => by have e' : k = r := e; omega))
  have hy6 := (k6.block (r + 1) (Nat.lt_of_lt_of_le hrr1 HS5.out) (by show ¬ r + 1 = r; omega)).trans hy5
  have HS6 : Hid (w2.heap.size ≤ (w5.setCell ⟨r, 1, none⟩ (.slice A5 nk' c5)).heap.size) := Nat.le_trans HS5.out k6.size
  have HX6 := Lib.hid hx6
  have HY6 := Lib.hid hy6
  have HZ := Lib.hid hx5
  clear hx6 hy6 k6 hty hx5 hy5 HO5 HK5 HB5 HS5
  cases lf
  · have _t := trivial
    obtain ⟨W6, hW6⟩ : ∃ x, (w5.setCell ⟨r, 1, none⟩ (.slice A5 nk' c5)) = x := ⟨_, rfl⟩
    rw [hW6] at HO6 HK6 HB6 HY6 HX6 HS6
    have HW6 := Lib.hid hW6
    clear hW6
    have HZ6 := Lib.hid (box_cells HX6.out)
    have hni : ni = nk := by have h := HR.out.2; simp only [Bool.false_eq_true, if_false] at h; rw [← HNI.out, ← HNK.out]; exact h.1
    have HC7 : Hid (Calls Tryd.prog 51 #[.slice iB ni id, .int .i64 (i : Int), .int .i64 (i : Int), .slice (some ⟨W6.heap.size, 0, none⟩) 1 1] (W6.alloc (.cells #[.int .i64 kid] 3)) fun e w' => ∃ v, e = .returned v ∧ Hid (OwnVs w' w2.heap.size 3 v (ints (is.take i ++ [kid] ++ is.drop i)) ∧ Below W6.heap.size W6 w')) := by
      have hI6 : OwnVs W6 w2.heap.size 3 (.slice iB ni id) (ints is) := by
        have h := HO6.out.i
        change OwnVs _ _ _ (.slice iB is.length id) (ints is) at h
        rw [HNI.out] at h
        exact h
      have hba : Below W6.heap.size W6 (W6.alloc (.cells #[.int .i64 kid] 3)) := (Below.refl _ _).alloc (Nat.le_refl _) _
      obtain ⟨e1, v1, n1, l1, m1⟩ := (hI6.below hba).at'
      have h := splicedI_calls (xs := ints is) (ys := [.int .i64 kid]) (Ai := some ⟨W6.heap.size, 0, none⟩) (ci := 1) (m := 1) (i := i) (j := i) v1 e1 l1 m1 n1 (ints_one is) (Nat.le_refl i) (by rw [hni]; omega) (ValsAt.one (heap_alloc_new W6 _)) rfl (fun h => by cases h) (fun u hu => by rw [List.mem_singleton.1 hu]; rfl) (by omega) (by decide)
      rw [show (ints is).take i ++ [Value.int .i64 kid] ++ (ints is).drop i = ints (is.take i ++ [kid] ++ is.drop i) from by rw [ints_take, ints_drop, ints_app, ints_app]; rfl] at h
      refine h.mono ?_
      rintro e w' ⟨v, rfl, h7⟩
      exact ⟨v, rfl, h7.out.1.base' (Nat.le_trans HS6.out hba.size), hba.trans (h7.out.2.mono hba.size)⟩
    obtain ⟨z0, z1, z2, z3⟩ := row4_cells HX6.out
    clear hni
    have HSz6 : Hid (W6.heap.size = w5.heap.size) := by show _ = _; rw [← HW6.out]; simp [World.setCell]
    rw [HSz6.out, ← HW6.out] at HC7
    refine hq.out ?_
    clear hq
    go_wp2_with (go_at_call 51; (with_reducible refine HC7.out.mono ?_); rintro e w7 ⟨v7, rfl, h7⟩; refine park ?_; intro q hq)
    rw [HW6.out, ← HSz6.out] at h7
    obtain ⟨A7, c7, hv7, _⟩ := h7.out.1.sl
    rw [ints_length] at hv7
    obtain ⟨ni', hni'⟩ : ∃ x, (is.take i ++ [kid] ++ is.drop i).length = x := ⟨_, rfl⟩
    have HNI' := Lib.hid hni'
    rw [hni'] at hv7
    subst hv7
    clear hni' z0 z1 z2 z3
    have hx7 := (h7.out.2.block r (Array.getElem?_eq_some_iff.1 HX6.out).1).trans HX6.out
    have hy7 := (h7.out.2.block (r + 1) (Array.getElem?_eq_some_iff.1 HY6.out).1).trans HY6.out
    have hty : ∀ k cs t fz, k = r → w7.heap[k]? = some (.cells cs t fz) → t = 28 := fun k cs t fz e hc => by
      rw [e, hx7] at hc; injection hc with hc; injection hc with _ h4 _; exact h4.symm
    have k8 : Kept (· = r) w7 (w7.setCell ⟨r, 3, none⟩ (.slice A7 ni' c7)) := Kept.set1 w7 r 3 _
    have hx8 := row4_set3 hx7 (.slice A7 ni' c7)
    have hs8 : w2.heap.size ≤ w7.heap.size := Nat.le_trans HS6.out h7.out.2.size
    have hy8 := (k8.block (r + 1) (Nat.lt_of_lt_of_le hrr1 hs8) (by show ¬ r + 1 = r; omega)).trans hy7
    have HB8 : Hid (Below r w (w7.setCell ⟨r, 3, none⟩ (.slice A7 ni' c7))) := (HB6.out.trans (h7.out.2.mono (Nat.le_trans (Nat.le_of_lt hrr) HS6.out))).trans (k8.below (Nat.le_trans (Nat.le_of_lt hrr) hs8) (fun k hk e => by have e' : k = r := e; omega))
    have HS8 : Hid (w2.heap.size ≤ (w7.setCell ⟨r, 3, none⟩ (.slice A7 ni' c7)).heap.size) := Nat.le_trans hs8 k8.size
    have hM : insM ⟨false, ks, vs, is⟩ i key ds kid = ⟨false, ks.take i ++ [key] ++ ks.drop i, vs, is.take i ++ [kid] ++ is.drop i⟩ := rfl
    have hO7 : NodeOwn w7 w2.heap.size (insM ⟨false, ks, vs, is⟩ i key ds kid) A5 c5 vB vd A7 c7 := by
      rw [hM]
      exact ⟨by have h := HK6.out.below h7.out.2; rw [← HNK'.out] at h; exact h, HO6.out.v.below h7.out.2, by have h := h7.out.1; rw [← HNI'.out] at h; exact h⟩
    have hO8 := hO7.keptN k8 hty
    have HCk : Hid (Calls Tryd.prog 52 #[.agg #[.bool false, .slice A5 nk' c5, .slice vB nv vd, .slice A7 ni' c7]] (w7.setCell ⟨r, 3, none⟩ (.slice A7 ni' c7)) fun e w'' => ∃ b kB nkB kd vB nvB vd iB niB id cd, e = .returned (.tuple #[.agg #[.bool b, .slice kB nkB kd, .slice vB nvB vd, .slice iB niB id], .int .i64 cd]) ∧ Hid (b = (outM (insM ⟨false, ks, vs, is⟩ i key ds kid)).leaf ∧ nkB = (outM (insM ⟨false, ks, vs, is⟩ i key ds kid)).keys.length ∧ nvB = (outM (insM ⟨false, ks, vs, is⟩ i key ds kid)).vals.length ∧ niB = (outM (insM ⟨false, ks, vs, is⟩ i key ds kid)).kids.length ∧ cd = codeN (insM ⟨false, ks, vs, is⟩ i key ds kid) ∧ NodeOwn w'' w2.heap.size (outM (insM ⟨false, ks, vs, is⟩ i key ds kid)) kB kd vB vd iB id ∧ Below (w7.setCell ⟨r, 3, none⟩ (.slice A7 ni' c7)).heap.size (w7.setCell ⟨r, 3, none⟩ (.slice A7 ni' c7)) w'')) := by
      have h := checkedO_calls hO8
      rw [show (insM ⟨false, ks, vs, is⟩ i key ds kid).leaf = false from rfl, show (insM ⟨false, ks, vs, is⟩ i key ds kid).keys.length = nk' from by rw [hM]; exact HNK'.out, show (insM ⟨false, ks, vs, is⟩ i key ds kid).vals.length = nv from by rw [hM]; exact HNV.out, show (insM ⟨false, ks, vs, is⟩ i key ds kid).kids.length = ni' from by rw [hM]; exact HNI'.out] at h
      refine h.mono ?_
      rintro e w'' ⟨kB, kd, vB, vd, iB, id, rfl, h9⟩
      exact ⟨_, _, _, _, _, _, _, _, _, _, _, rfl, rfl, rfl, rfl, rfl, rfl, h9.out.1, h9.out.2⟩
    have HX8 := Lib.hid hx8
    have HY8 := Lib.hid hy8
    obtain ⟨f0', f1', f2', f3'⟩ := row4_frozen hx7
    obtain ⟨y0, y1, y2, y3⟩ := row4_cells hx7
    clear hx8 hy8 hx7 hy7 hty k8 hs8 hO7 hO8 hM h7 HX6 HY6 HO6 HK6 HB6 HS6 HW6 HZ6 HC7
    clear x0 x1 x2 x3 f0 f1 f2 f3
    refine hq.out ?_
    clear hq
    go_wp2_with (go_at_call 52; (with_reducible refine HCk.out.mono ?_); rintro e w10 ⟨b10, kE, nkE, ke, vE, nvE, ve, iE, niE, ie, cd, rfl, h10⟩; refine park ?_; intro q hq)
    obtain ⟨s1, s2, s3, s4, s5, hO10, hb10⟩ := h10.out
    have hy10 := (hb10.block (r + 1) (Nat.lt_of_lt_of_le hrr1 HS8.out)).trans HY8.out
    have HSh := Lib.hid (And.intro s1 (And.intro s2 (And.intro s3 (And.intro s4 s5))))
    have HO10 := Lib.hid hO10
    have HB10 : Hid (Below r w w10) := HB8.out.trans (hb10.mono (Nat.le_trans (Nat.le_of_lt hrr) HS8.out))
    have HS10 : Hid (w2.heap.size ≤ w10.heap.size) := Nat.le_trans HS8.out hb10.size
    have HY10 := Lib.hid hy10
    clear y0 y1 y2 y3 f0' f1' f2' f3'
    obtain ⟨y0, y1, y2, y3⟩ := row4_cells hy10
    obtain ⟨f0, f1, f2, f3⟩ := row4_frozen hy10
    clear h10 hy10 HCk s1 s2 s3 s4 s5 hO10 hb10
    refine hq.out ?_
    clear hq
    go_wp2_with fail
    obtain ⟨g1, g2⟩ := row4_put HY10.out (.bool b10) (.slice kE nkE ke) (.slice vE nvE ve) (.slice iE niE ie)
    refine bodyPost_ret_by (results_cellTmp rfl _ rfl rfl (run_retNode g1)) rfl ?_
    obtain ⟨s1, s2, s3, s4, s5⟩ := HSh.out
    refine ⟨_, _, _, _, _, _, by rw [← s1, ← s2, ← s3, ← s4, ← s5]; rfl, (HO10.out.keptN g2 (fun k cs t fz hS hc => ?_)).base' (by rw [HR0.out]; exact Nat.le_of_lt hrr), ?_⟩
    · rw [show k = r + 1 from hS, HY10.out] at hc; injection hc with hc; injection hc with _ h4 _; exact h4.symm
    · rw [HR0.out]
      exact HB10.out.trans (g2.below (Nat.le_trans (Nat.le_of_lt hrr) HS10.out) (fun k hk e => by have e' : k = r + 1 := e; omega))
  · have _t := trivial
    obtain ⟨W6, hW6⟩ : ∃ x, (w5.setCell ⟨r, 1, none⟩ (.slice A5 nk' c5)) = x := ⟨_, rfl⟩
    rw [hW6] at HO6 HK6 HB6 HY6 HX6 HS6
    have HW6 := Lib.hid hW6
    clear hW6
    have HZ6 := Lib.hid (box_cells HX6.out)
    have hnv : nv = nk := by have h := HR.out.2; simp only [if_true] at h; rw [← HNV.out, ← HNK.out]; exact h.1
    have hV6 : OwnRL W6 w2.heap.size (.slice vB nv vd) vs := by
      have h := HO6.out.v
      change OwnRL _ _ (.slice vB vs.length vd) vs at h
      rw [HNV.out] at h
      exact h
    obtain ⟨us, hu1, hu2⟩ := RowsV.of_own hV6
    have hul := hu2.len
    have HCs : Hid (∀ w' A c, Below W6.heap.size W6 w' → OwnB w' w2.heap.size (.slice A dn c) ds → Calls Tryd.prog 50 #[.slice vB nv vd, .int .i64 (i : Int), .int .i64 (i : Int), .slice (some ⟨w'.heap.size, 0, none⟩) 1 1] (w'.alloc (.cells #[.slice A dn c] 30)) fun e w'' => ∃ v, e = .returned v ∧ Hid (OwnRL w'' w2.heap.size v (vs.take i ++ [ds] ++ vs.drop i) ∧ Below w'.heap.size w' w'')) := fun w' A c hb ho => by
      have hba : Below w'.heap.size w' (w'.alloc (.cells #[.slice A dn c] 30)) := (Below.refl _ _).alloc (Nat.le_refl _) _
      have hbb : Below W6.heap.size W6 (w'.alloc (.cells #[.slice A dn c] 30)) := hb.trans (hba.mono hb.size)
      obtain ⟨e1, v1, n1, l1, m1⟩ := (hu1.below hbb).at'
      have h1u : RowsV (w'.alloc (.cells #[.slice A dn c] 30)) w2.heap.size [.slice A dn c] [ds] := ⟨[(.slice A dn c, ds)], rfl, rfl, fun p hp => by rw [List.mem_singleton.1 hp]; exact ⟨A, c, by rw [HDN.out], ho.below hba⟩⟩
      have h := splicedR_calls (xs := us) (ys := [.slice A dn c]) (Ai := some ⟨w'.heap.size, 0, none⟩) (ci := 1) (m := 1) (i := i) (j := i) v1 e1 l1 m1 n1 hu2.one (Nat.le_refl i) (by omega) (ValsAt.one (heap_alloc_new w' _)) rfl (fun h => by cases h) (fun u hu => by rw [List.mem_singleton.1 hu]; rfl) (by omega) (by decide)
      refine h.mono ?_
      rintro e w'' ⟨v, rfl, h7⟩
      exact ⟨v, rfl, RowsV.own (h7.out.1.base' (Nat.le_trans HS6.out (Nat.le_trans hb.size hba.size))) (((((hu2.below hbb).take i).append h1u).append ((hu2.below hbb).drop i)).below h7.out.2), hba.trans (h7.out.2.mono hba.size)⟩
    have HD6 := Lib.hid (HD.out.below (by rw [HR0.out]; exact HB6.out))
    clear hnv hul hu1 hu2 hV6
    refine hq.out ?_
    clear hq
    go_wp2_with fail
    rw [HW6.out]
    have hS0 : Hid (Below W6.heap.size W6 W6.drew) := Lib.hid (Below.refl _ _).drew
    refine wp_region_M (fun w' => Hid (Below W6.heap.size W6 w')) 10 (by as_aux_lemma => kernel_rfl) ?_
    refine mAnyTake (i := 0) (v := Value.pointer (some ⟨r, 2, none⟩)) (some 38) [0, 1, 8, 10] (by as_aux_lemma => kernel_rfl) rfl rfl (by decide) (by as_aux_lemma => kernel_rfl) rfl rfl (by as_aux_lemma => kernel_rfl) (by as_aux_lemma => kernel_rfl) (by as_aux_lemma => kernel_rfl) (fun _ _ _ h => h) (Or.inl ⟨by rfl, fun w => by go_simp⟩) hS0 ?_
    try simp only [Act.put, List.setIfInBounds_toArray, List.set_cons_zero, List.set_cons_succ]
    refine mTake (i := 1) (v := Value.slice vB nv vd) (some 39) [1, 8, 10] (by as_aux_lemma => kernel_rfl) rfl rfl (by decide) (by as_aux_lemma => kernel_rfl) rfl rfl (by as_aux_lemma => kernel_rfl) (by as_aux_lemma => kernel_rfl) (by as_aux_lemma => kernel_rfl) (fun _ _ _ h => h) (Or.inl ⟨by rfl, fun w h => by ((obtain ⟨z0, z1, z2, z3⟩ := HZ6.out _ h.out); go_simp)⟩) hS0 ?_
    try simp only [Act.put, List.setIfInBounds_toArray, List.set_cons_zero, List.set_cons_succ]
    refine mAnyTake (i := 2) (v := Value.int IntKind.i64 (i : Int)) (some 40) [2, 8, 10] (by as_aux_lemma => kernel_rfl) rfl rfl (by decide) (by as_aux_lemma => kernel_rfl) rfl rfl (by as_aux_lemma => kernel_rfl) (by as_aux_lemma => kernel_rfl) (by as_aux_lemma => kernel_rfl) (fun _ _ _ h => h) (Or.inl ⟨by rfl, fun w => by go_simp⟩) hS0 ?_
    try simp only [Act.put, List.setIfInBounds_toArray, List.set_cons_zero, List.set_cons_succ]
    refine mAnyTake (i := 3) (v := Value.int IntKind.i64 (i : Int)) (some 41) [3, 8, 10] (by as_aux_lemma => kernel_rfl) rfl rfl (by decide) (by as_aux_lemma => kernel_rfl) rfl rfl (by as_aux_lemma => kernel_rfl) (by as_aux_lemma => kernel_rfl) (by as_aux_lemma => kernel_rfl) (fun _ _ _ h => h) (Or.inl ⟨by rfl, fun w => by go_simp⟩) hS0 ?_
    try simp only [Act.put, List.setIfInBounds_toArray, List.set_cons_zero, List.set_cons_succ]
    refine mAnyTake (i := 5) (v := Value.slice dA dn dc) (some 43) [5, 6, 7, 8, 10] (by as_aux_lemma => kernel_rfl) rfl rfl (by decide) (by as_aux_lemma => kernel_rfl) rfl rfl (by as_aux_lemma => kernel_rfl) (by as_aux_lemma => kernel_rfl) (by as_aux_lemma => kernel_rfl) (fun _ _ _ h => h) (Or.inl ⟨by rfl, fun w => by go_simp⟩) hS0 ?_
    try simp only [Act.put, List.setIfInBounds_toArray, List.set_cons_zero, List.set_cons_succ]
    refine mOne (i := 4) (by as_aux_lemma => kernel_rfl) rfl (fun K hK => ?_)
    have HK := Lib.hid hK
    clear hK
    rw [if_pos (by rfl)]
    have hba : Below W6.drew.heap.size W6.drew (W6.drew.alloc (.cells #[] 5)) := (Below.refl _ _).alloc (Nat.le_refl _) _
    have hS1 : Hid (Below W6.heap.size W6 (W6.drew.alloc (.cells #[] 5))) := Lib.hid (hS0.out.trans (hba.mono hS0.out.size))
    have HO5 : Hid (OwnB (W6.drew.alloc (.cells #[] 5)) w2.heap.size (.slice (some ⟨W6.drew.heap.size, 0, none⟩) 0 0) []) := OwnB.lit W6.drew w2.heap.size HS6.out [] [] rfl 0 rfl (by decide)
    go_wp2_with fail
    refine HK.out _ _ (.inr hS1) ?_
    clear HK
    try simp only [Act.put, List.setIfInBounds_toArray, List.set_cons_zero, List.set_cons_succ]
    have HD7 := Lib.hid (HD6.out.below hS1.out)
    have hb7 : w2.heap.size ≤ (W6.drew.alloc (.cells #[] 5)).heap.size := Nat.le_trans HS6.out hS1.out.size
    refine mOne (i := 6) (by as_aux_lemma => kernel_rfl) rfl (fun K hK => ?_)
    have HK := Lib.hid hK
    clear hK
    rw [if_pos (by rfl)]
    refine wp_append_bytesO _ _ (by rfl) w2.heap.size (.slice (some ⟨W6.drew.heap.size, 0, none⟩) 0 0) [] (by rfl) HO5.out dA dn dc ds (by rfl) HDN.out.symm HDn.out HD7.out (by have := HDl.out; simp only [List.length_nil]; omega) hb7 ?_
    intro v7 w7 H7
    obtain ⟨A7, c7, hv7⟩ := H7.out.1.slice'
    rw [List.nil_append, HDN.out] at hv7
    subst hv7
    have hg7 : Below (W6.drew.alloc (.cells #[] 5)).heap.size (W6.drew.alloc (.cells #[] 5)) w7 ∨ True := .inr trivial
    have hS2 : Hid (Below W6.heap.size W6 w7) := Lib.hid (hS1.out.grown H7.out.2 hS1.out.size (fun k hk => by cases hk; exact Nat.le_refl _))
    have HO7 : Hid (OwnB w7 w2.heap.size (.slice A7 dn c7) ds) := Lib.hid (by have h := H7.out.1; rwa [List.nil_append] at h)
    refine HK.out _ _ (.inr hS2) ?_
    clear HK
    try simp only [Act.put, List.setIfInBounds_toArray, List.set_cons_zero, List.set_cons_succ]
    have HC7 := Lib.hid (HCs.out w7 A7 c7 hS2.out HO7.out)
    have hS3 : Hid (Below W6.heap.size W6 (w7.alloc (.cells #[.slice A7 dn c7] 30))) := Lib.hid (hS2.out.trans (((Below.refl _ _).alloc (Nat.le_refl _) _ : Below w7.heap.size w7 (w7.alloc (.cells #[.slice A7 dn c7] 30))).mono hS2.out.size))
    clear H7 hg7 HO5 HD7 hb7 hS1 hS0 hba HCs HO7
    refine mOne (i := 7) (by as_aux_lemma => kernel_rfl) rfl (fun K hK => ?_)
    have HK := Lib.hid hK
    clear hK
    rw [if_pos (by rfl)]
    go_wp2_with fail
    refine HK.out _ _ (.inr hS3) ?_
    clear HK
    try simp only [Act.put, List.setIfInBounds_toArray, List.set_cons_zero, List.set_cons_succ]
    refine mOne (i := 8) (by as_aux_lemma => kernel_rfl) rfl (fun K hK => ?_)
    have HK := Lib.hid hK
    clear hK
    rw [if_pos (by rfl)]
    refine wp_goCall 50 _ _ (by rfl) Tryd.func50 (by kernel_rfl) (by kernel_rfl) _ (by simp [Act.eval]) HC7.out ?_
    rintro e w8 ⟨v8, rfl, h8⟩
    refine ⟨_, rfl, ?_⟩
    have hS4 : Hid (Below W6.heap.size W6 w8) := Lib.hid (hS2.out.trans (h8.out.2.mono hS2.out.size))
    obtain ⟨A8, c8, hv8, _⟩ := h8.out.1.slice
    obtain ⟨nv', hnv'⟩ : ∃ x, (vs.take i ++ [ds] ++ vs.drop i).length = x := ⟨_, rfl⟩
    have HNV' := Lib.hid hnv'
    rw [hnv'] at hv8
    subst hv8
    clear hnv'
    refine HK.out _ _ (.inr hS4) ?_
    clear HK
    try simp only [Act.put, List.setIfInBounds_toArray, List.set_cons_zero, List.set_cons_succ]
    have hx7 := (hS4.out.block r (Array.getElem?_eq_some_iff.1 HX6.out).1).trans HX6.out
    have hy7 := (hS4.out.block (r + 1) (Array.getElem?_eq_some_iff.1 HY6.out).1).trans HY6.out
    have h7 : Hid (OwnRL w8 w2.heap.size (.slice A8 nv' c8) (vs.take i ++ [ds] ++ vs.drop i) ∧ Below W6.heap.size W6 w8) := Lib.hid ⟨h8.out.1, hS4.out⟩
    obtain ⟨f0, f1, f2, f3⟩ := row4_frozen hx7
    obtain ⟨x0, x1, x2, x3⟩ := row4_cells hx7
    clear h8 hS3 hS2 HC7
    refine mOne (i := 9) (by as_aux_lemma => kernel_rfl) rfl (fun K hK => ?_)
    have HK := Lib.hid hK
    clear hK
    rw [if_pos (by rfl)]
    go_wp2_with fail
    refine HK.out _ _ (.inr hS4) ?_
    clear HK
    try simp only [Act.put, List.setIfInBounds_toArray, List.set_cons_zero, List.set_cons_succ]
    refine mOne (i := 10) (by as_aux_lemma => kernel_rfl) rfl (fun K hK => ?_)
    have HK := Lib.hid hK
    clear hK
    rw [if_pos (by rfl)]
    go_wp2_with fail
    refine HK.out _ _ (by simp) ?_
    clear HK
    try simp only [Act.put, List.setIfInBounds_toArray, List.set_cons_zero, List.set_cons_succ]
    clear f0 f1 f2 f3 x0 x1 x2 x3
    have hty : ∀ k cs t fz, k = r → w8.heap[k]? = some (.cells cs t fz) → t = 28 := fun k cs t fz e hc => by
      rw [e, hx7] at hc; injection hc with hc; injection hc with _ h4 _; exact h4.symm
    have k8 : Kept (· = r) w8 (w8.setCell ⟨r, 2, none⟩ (.slice A8 nv' c8)) := Kept.set1 w8 r 2 _
    have hx8 := row4_set2 hx7 (.slice A8 nv' c8)
    have hs8 : w2.heap.size ≤ w8.heap.size := Nat.le_trans HS6.out h7.out.2.size
    have hy8 := (k8.block (r + 1) (Nat.lt_of_lt_of_le hrr1 hs8) (by show ¬ r + 1 = r; omega)).trans hy7
    have HB8 : Hid (Below r w (w8.setCell ⟨r, 2, none⟩ (.slice A8 nv' c8))) := (HB6.out.trans (h7.out.2.mono (Nat.le_trans (Nat.le_of_lt hrr) HS6.out))).trans (k8.below (Nat.le_trans (Nat.le_of_lt hrr) hs8) (fun k hk e => by have e' : k = r := e; omega))
    have HS8 : Hid (w2.heap.size ≤ (w8.setCell ⟨r, 2, none⟩ (.slice A8 nv' c8)).heap.size) := Nat.le_trans hs8 k8.size
    have hM : insM ⟨true, ks, vs, is⟩ i key ds kid = ⟨true, ks.take i ++ [key] ++ ks.drop i, vs.take i ++ [ds] ++ vs.drop i, is⟩ := rfl
    have hO7 : NodeOwn w8 w2.heap.size (insM ⟨true, ks, vs, is⟩ i key ds kid) A5 c5 A8 c8 iB id := by
      rw [hM]
      exact ⟨by have h := HK6.out.below h7.out.2; rw [← HNK'.out] at h; exact h, by have h := h7.out.1; rw [← HNV'.out] at h; exact h, HO6.out.i.below h7.out.2⟩
    have hO8 := hO7.keptN k8 hty
    have HCk : Hid (Calls Tryd.prog 52 #[.agg #[.bool true, .slice A5 nk' c5, .slice A8 nv' c8, .slice iB ni id]] (w8.setCell ⟨r, 2, none⟩ (.slice A8 nv' c8)) fun e w'' => ∃ b kB nkB kd vB nvB vd iB niB id cd, e = .returned (.tuple #[.agg #[.bool b, .slice kB nkB kd, .slice vB nvB vd, .slice iB niB id], .int .i64 cd]) ∧ Hid (b = (outM (insM ⟨true, ks, vs, is⟩ i key ds kid)).leaf ∧ nkB = (outM (insM ⟨true, ks, vs, is⟩ i key ds kid)).keys.length ∧ nvB = (outM (insM ⟨true, ks, vs, is⟩ i key ds kid)).vals.length ∧ niB = (outM (insM ⟨true, ks, vs, is⟩ i key ds kid)).kids.length ∧ cd = codeN (insM ⟨true, ks, vs, is⟩ i key ds kid) ∧ NodeOwn w'' w2.heap.size (outM (insM ⟨true, ks, vs, is⟩ i key ds kid)) kB kd vB vd iB id ∧ Below (w8.setCell ⟨r, 2, none⟩ (.slice A8 nv' c8)).heap.size (w8.setCell ⟨r, 2, none⟩ (.slice A8 nv' c8)) w'')) := by
      have h := checkedO_calls hO8
      rw [show (insM ⟨true, ks, vs, is⟩ i key ds kid).leaf = true from rfl, show (insM ⟨true, ks, vs, is⟩ i key ds kid).keys.length = nk' from by rw [hM]; exact HNK'.out, show (insM ⟨true, ks, vs, is⟩ i key ds kid).vals.length = nv' from by rw [hM]; exact HNV'.out, show (insM ⟨true, ks, vs, is⟩ i key ds kid).kids.length = ni from by rw [hM]; exact HNI.out] at h
      refine h.mono ?_
      rintro e w'' ⟨kB, kd, vB, vd, iB, id, rfl, h9⟩
      exact ⟨_, _, _, _, _, _, _, _, _, _, _, rfl, rfl, rfl, rfl, rfl, rfl, h9.out.1, h9.out.2⟩
    have HX8 := Lib.hid hx8
    have HY8 := Lib.hid hy8
    obtain ⟨f0', f1', f2', f3'⟩ := row4_frozen hx7
    obtain ⟨y0, y1, y2, y3⟩ := row4_cells hx7
    clear hx8 hy8 hx7 hy7 hty k8 hs8 hO7 hO8 hM h7 HX6 HY6 HO6 HK6 HB6 HS6 HW6 HZ6 hS4
    refine mDone (by as_aux_lemma => kernel_rfl) ?_ _
    go_wp2_with (go_at_call 52; (with_reducible refine HCk.out.mono ?_); rintro e w10 ⟨b10, kE, nkE, ke, vE, nvE, ve, iE, niE, ie, cd, rfl, h10⟩; refine park ?_; intro q hq)
    obtain ⟨s1, s2, s3, s4, s5, hO10, hb10⟩ := h10.out
    have hy10 := (hb10.block (r + 1) (Nat.lt_of_lt_of_le hrr1 HS8.out)).trans HY8.out
    have HSh := Lib.hid (And.intro s1 (And.intro s2 (And.intro s3 (And.intro s4 s5))))
    have HO10 := Lib.hid hO10
    have HB10 : Hid (Below r w w10) := HB8.out.trans (hb10.mono (Nat.le_trans (Nat.le_of_lt hrr) HS8.out))
    have HS10 : Hid (w2.heap.size ≤ w10.heap.size) := Nat.le_trans HS8.out hb10.size
    have HY10 := Lib.hid hy10
    clear y0 y1 y2 y3 f0' f1' f2' f3'
    obtain ⟨y0, y1, y2, y3⟩ := row4_cells hy10
    obtain ⟨f0, f1, f2, f3⟩ := row4_frozen hy10
    clear h10 hy10 HCk s1 s2 s3 s4 s5 hO10 hb10
    refine hq.out ?_
    clear hq
    go_wp2_with fail
    obtain ⟨g1, g2⟩ := row4_put HY10.out (.bool b10) (.slice kE nkE ke) (.slice vE nvE ve) (.slice iE niE ie)
    refine bodyPost_ret_by (results_cellTmp rfl _ rfl rfl (run_retNode g1)) rfl ?_
    obtain ⟨s1, s2, s3, s4, s5⟩ := HSh.out
    refine ⟨_, _, _, _, _, _, by rw [← s1, ← s2, ← s3, ← s4, ← s5]; rfl, (HO10.out.keptN g2 (fun k cs t fz hS hc => ?_)).base' (by rw [HR0.out]; exact Nat.le_of_lt hrr), ?_⟩
    · rw [show k = r + 1 from hS, HY10.out] at hc; injection hc with hc; injection hc with _ h4 _; exact h4.symm
    · rw [HR0.out]
      exact HB10.out.trans (g2.below (Nat.le_trans (Nat.le_of_lt hrr) HS10.out) (fun k hk e => by have e' : k = r + 1 := e; omega))
end Go.Proofs.YtibmlgkakeakcaaDoor
