/- The disk: what a sector has. -/
import Derived.Test.YtehigfpdeoebdaaDiskW
set_option linter.unusedSimpArgs false
set_option linter.unusedVariables false
namespace Go.Proofs.Ytehigfpdeoebdaa.Dsk
open Go.RowKit
theorem lastOf_at (i : Int) (z : List UInt8) (l : List (Int × List UInt8)) (k : Nat) (hk : k < l.length) (he : l[k].1 = i) (hr : ∀ e ∈ l.drop (k + 1), e.1 ≠ i) : lastOf i z l = l[k].2 := by
  have h : l = l.take (k + 1) ++ l.drop (k + 1) := (List.take_append_drop _ _).symm
  have h2 : ∀ (p q : List (Int × List UInt8)) (z : List UInt8), lastOf i z (p ++ q) = lastOf i (lastOf i z p) q := by
    intro p; induction p with
    | nil => intro q z; rfl
    | cons x p ih => intro q z; rw [List.cons_append, lastOf, ih]; rfl
  conv => lhs; rw [h]
  rw [h2, lastOf_miss i _ _ hr, List.take_succ_eq_append_getElem hk, lastOf_snoc, if_pos he]
theorem DiskAt.form2 {w : World} {base a m : Nat} {wv : Value} {d : DiskM} (h : DiskAt w base a m wv d) : ∃ A c, wv = .slice A d.wait.length c ∧ ∀ k, k < d.wait.length → ∃ g, A = some ⟨g, 0, none⟩ := by
  rcases h.form with ⟨rfl, hw⟩ | ⟨g, c, rfl⟩
  · exact ⟨none, 0, by rw [hw]; rfl, fun k hk => by rw [hw] at hk; exact absurd hk (by simp)⟩
  · exact ⟨_, c, rfl, fun k _ => ⟨g, rfl⟩⟩
theorem run_ret69 {w : World} {r : Nat} {l : List UInt8} (hl : l.length = 256) (h : w.heap[r]? = some (.cells (cells8 l).toArray 64 (0, 0))) : (loadVar 64 ⟨r, 0, none⟩).run Try.prog w = .ok (secV l) w :=
  run_loadVar_row _ _ 64 64 _ (0, 0) _ h under69 rfl (by rw [List.size_toArray, cells8_length, hl]; exact size69)
theorem results_cell {fn : Func} {t : TypeId} {k r : Nat} {w : World} {v : Value} (hf : fn.results = #[.cell k t]) (tmps : Array Value) (hp : tmps.getD k undef = .pointer (some ⟨r, 0, none⟩))
    (h : (loadVar t ⟨r, 0, none⟩).run Try.prog w = .ok v w) : (results fn tmps).run Try.prog w = .ok v w := by
  rw [Array.getD_eq_getD_getElem?] at hp
  simp [results, hf, hp, asAddr, h]
set_option maxRecDepth 100000 in
set_option maxHeartbeats 1000000 in
theorem now_calls {w : World} {base a m : Nat} {wv : Value} {d : DiskM} (h : DiskAt w base a m wv d) (i : Int) (h0 : -9223372036854775808 ≤ i) (h1 : i ≤ 9223372036854775807) :
    Calls Try.prog 34 #[.pointer (some ⟨a, 0, none⟩), .int .i64 i] w fun e w' => e = .returned (secV (d.now i)) ∧ Below w.heap.size w w' := by
  have hlen : d.wait.length ≤ 1000 := by obtain ⟨n, D, _, hn⟩ := h.map; have := h.ok.bud; omega
  have H := Lib.hid h
  obtain ⟨A, c, rfl, hf0⟩ := h.form2
  have HF := Lib.hid hf0
  clear hf0
  clear h
  go_enter Try.func34, Try.ntmps34
  go_wp2_with ((first | with_reducible refine park_at (.load 64 _) ?_ | with_reducible refine park_at (.load 66 _) ?_ | with_reducible refine park_at (.store 64 _ _) ?_ | with_reducible refine park_at (.store 66 _ _) ?_ | with_reducible refine park_at (.alloc 64) ?_ | with_reducible refine park_at (.alloc 66) ?_ | with_reducible refine park_at (.box 64 _) ?_ | with_reducible refine park_at (.build 64 _) ?_ | with_reducible refine park_at (.build 66 _) ?_ | with_reducible refine park_at (.binOp _ 64 _ _ _) ?_ | with_reducible refine park_at (.lookup _ _ _ _) ?_ | with_reducible refine park_at (.mapUpdate _ _ _ _) ?_ | with_reducible refine park_at (.makeMap _ _) ?_ | with_reducible refine park_at (.range _ _) ?_ | with_reducible refine park_at (.next _ _) ?_ | with_reducible refine park_append ?_ | with_reducible refine park_copy ?_ | with_reducible refine park_delete ?_); intro q hq)
  refine hq.out ?_
  clear hq
  refine wpList_alloc69 rfl rfl ?_
  have HA : Hid (DiskAt (w.alloc (.cells (cells8 zsec).toArray 64)) base a m (.slice A d.wait.length c) d) := H.out.below ((Below.refl _ _).alloc (Nat.le_refl _) _)
  have HB : Hid (Below w.heap.size w (w.alloc (.cells (cells8 zsec).toArray 64))) := (Below.refl _ _).alloc (Nat.le_refl _) _
  have HR : Hid ((w.alloc (.cells (cells8 zsec).toArray 64)).heap[w.heap.size]? = some (.cells (cells8 zsec).toArray 64 (0, 0))) := heap_alloc_new w _
  generalize (w.alloc (.cells (cells8 zsec).toArray 64)) = w1 at HA HB HR ⊢
  have hsz : Hid (w.heap.size < w1.heap.size) := (Array.getElem?_eq_some_iff.1 HR.out).1
  obtain ⟨r, hr⟩ : ∃ r, w.heap.size = r := ⟨_, rfl⟩
  have hr := Lib.hid hr
  rw [hr.out] at HB HR hsz ⊢
  have c2 := HA.out.c2
  have c1 := HA.out.c1
  go_wp2
  go_loop [5] (fun k => ∃ z : Int, -1 ≤ z ∧ z < d.wait.length ∧ k = .int .i64 z ∧ Hid (∀ e ∈ d.wait.drop (z + 1).toNat, e.1 ≠ i)) (fun k => (intOf k + 1).toNat)
  case atStart => exact ⟨(d.wait.length : Int) - 1, by omega, by omega, rfl, by intro e he; rw [show ((d.wait.length : Int) - 1 + 1).toNat = d.wait.length by omega] at he; simp at he⟩
  case round =>
    obtain ⟨z, hz0, hz1, rfl, hno⟩ := hrel
    by_cases hz : z < 0
    · obtain rfl : z = -1 := by omega
      go_wp2_with ((first | with_reducible refine park_at (.load 64 _) ?_ | with_reducible refine park_at (.load 66 _) ?_ | with_reducible refine park_at (.store 64 _ _) ?_ | with_reducible refine park_at (.store 66 _ _) ?_ | with_reducible refine park_at (.alloc 64) ?_ | with_reducible refine park_at (.alloc 66) ?_ | with_reducible refine park_at (.box 64 _) ?_ | with_reducible refine park_at (.build 64 _) ?_ | with_reducible refine park_at (.build 66 _) ?_ | with_reducible refine park_at (.binOp _ 64 _ _ _) ?_ | with_reducible refine park_at (.lookup _ _ _ _) ?_ | with_reducible refine park_at (.mapUpdate _ _ _ _) ?_ | with_reducible refine park_at (.makeMap _ _) ?_ | with_reducible refine park_at (.range _ _) ?_ | with_reducible refine park_at (.next _ _) ?_ | with_reducible refine park_append ?_ | with_reducible refine park_copy ?_ | with_reducible refine park_delete ?_); intro q hq)
      refine hq.out ?_
      clear hq
      obtain ⟨n, D, hM, hn⟩ := HA.out.map
      refine wpList_look60 rfl _ _ rfl m n D d.held rfl hM i h0 h1 rfl ?_
      have HZ := Lib.hid (HA.out.ok.hlen i)
      clear hM hn
      go_wp2_with ((first | with_reducible refine park_at (.load 64 _) ?_ | with_reducible refine park_at (.load 66 _) ?_ | with_reducible refine park_at (.store 64 _ _) ?_ | with_reducible refine park_at (.store 66 _ _) ?_ | with_reducible refine park_at (.alloc 64) ?_ | with_reducible refine park_at (.alloc 66) ?_ | with_reducible refine park_at (.box 64 _) ?_ | with_reducible refine park_at (.build 64 _) ?_ | with_reducible refine park_at (.build 66 _) ?_ | with_reducible refine park_at (.binOp _ 64 _ _ _) ?_ | with_reducible refine park_at (.lookup _ _ _ _) ?_ | with_reducible refine park_at (.mapUpdate _ _ _ _) ?_ | with_reducible refine park_at (.makeMap _ _) ?_ | with_reducible refine park_at (.range _ _) ?_ | with_reducible refine park_at (.next _ _) ?_ | with_reducible refine park_append ?_ | with_reducible refine park_copy ?_ | with_reducible refine park_delete ?_); intro q hq)
      refine hq.out ?_
      clear hq
      refine wpList_store69 rfl _ _ rfl r rfl (d.held i) zsec rfl HZ.out zsec_length HR.out ?_
      intro w2 hr2 hk2
      have hret := run_ret69 HZ.out hr2.out
      go_wp2
      refine bodyPost_ret_by (v := secV (d.held i)) (results_cell (r := r) rfl _ rfl hret) rfl ⟨?_, ?_⟩
      · have : d.now i = d.held i := lastOf_miss i _ _ (by simpa using hno.out)
        rw [this]
      · rw [hr.out]
        exact HB.out.trans (hk2.below (Nat.le_of_lt hsz.out) (fun k hk e => by omega))
    · obtain ⟨k, rfl⟩ := Int.eq_ofNat_of_zero_le (Int.not_lt.1 hz)
      have hk : k < d.wait.length := by omega
      obtain ⟨g, hg⟩ := HF.out k hk
      subst hg
      have cat := rangeAt_head (wait_at HA.out k hk)
      have hra := Lib.hid (rangeAt_tail (wait_at HA.out k hk))
      have hl := Lib.hid (HA.out.ok.wlen _ (List.getElem_mem hk)).1
      obtain ⟨e, he⟩ : ∃ e, d.wait[k] = e := ⟨_, rfl⟩
      have he := Lib.hid he
      rw [he.out] at cat hra hl
      by_cases heq : e.1 = i
      · have hb : (e.1 == i) = true := by simp [heq]
        go_wp2_with ((first | with_reducible refine park_at (.load 64 _) ?_ | with_reducible refine park_at (.load 66 _) ?_ | with_reducible refine park_at (.store 64 _ _) ?_ | with_reducible refine park_at (.store 66 _ _) ?_ | with_reducible refine park_at (.alloc 64) ?_ | with_reducible refine park_at (.alloc 66) ?_ | with_reducible refine park_at (.box 64 _) ?_ | with_reducible refine park_at (.build 64 _) ?_ | with_reducible refine park_at (.build 66 _) ?_ | with_reducible refine park_at (.binOp _ 64 _ _ _) ?_ | with_reducible refine park_at (.lookup _ _ _ _) ?_ | with_reducible refine park_at (.mapUpdate _ _ _ _) ?_ | with_reducible refine park_at (.makeMap _ _) ?_ | with_reducible refine park_at (.range _ _) ?_ | with_reducible refine park_at (.next _ _) ?_ | with_reducible refine park_append ?_ | with_reducible refine park_copy ?_ | with_reducible refine park_delete ?_); intro q hq)
        refine hq.out ?_
        clear hq
        refine wpList_load69 rfl _ rfl g (k * 257 + 1) rfl e.2 hl.out hra.out ?_
        go_wp2_with ((first | with_reducible refine park_at (.load 64 _) ?_ | with_reducible refine park_at (.load 66 _) ?_ | with_reducible refine park_at (.store 64 _ _) ?_ | with_reducible refine park_at (.store 66 _ _) ?_ | with_reducible refine park_at (.alloc 64) ?_ | with_reducible refine park_at (.alloc 66) ?_ | with_reducible refine park_at (.box 64 _) ?_ | with_reducible refine park_at (.build 64 _) ?_ | with_reducible refine park_at (.build 66 _) ?_ | with_reducible refine park_at (.binOp _ 64 _ _ _) ?_ | with_reducible refine park_at (.lookup _ _ _ _) ?_ | with_reducible refine park_at (.mapUpdate _ _ _ _) ?_ | with_reducible refine park_at (.makeMap _ _) ?_ | with_reducible refine park_at (.range _ _) ?_ | with_reducible refine park_at (.next _ _) ?_ | with_reducible refine park_append ?_ | with_reducible refine park_copy ?_ | with_reducible refine park_delete ?_); intro q hq)
        refine hq.out ?_
        clear hq
        refine wpList_store69 rfl _ _ rfl r rfl e.2 zsec rfl hl.out zsec_length HR.out ?_
        intro w2 hr2 hk2
        have hret := run_ret69 hl.out hr2.out
        go_wp2
        refine bodyPost_ret_by (v := secV e.2) (results_cell (r := r) rfl _ rfl hret) rfl ⟨?_, ?_⟩
        · have : d.now i = e.2 := by rw [← he.out]; exact lastOf_at i _ _ k hk (by rw [he.out]; exact heq) (by simpa using hno.out)
          rw [this]
        · rw [hr.out]
          exact HB.out.trans (hk2.below (Nat.le_of_lt hsz.out) (fun k hk e => by omega))
      · have hb : (e.1 == i) = false := by simp [heq]
        go_wp2
        go_round
        case rel =>
          refine ⟨(k : Int) - 1, by omega, by omega, rfl, ?_⟩
          intro x hx
          rw [show ((k : Int) - 1 + 1).toNat = k by omega, List.drop_eq_getElem_cons hk] at hx
          rcases List.mem_cons.1 hx with rfl | hx
          · rw [he.out]; exact heq
          · exact hno.out x (by rw [show ((k : Int) + 1).toNat = k + 1 by omega]; exact hx)
        case measure => simp [intOf]
end Go.Proofs.Ytehigfpdeoebdaa.Dsk
