/- The document's disk: Put, New. -/
import Derived.Test.YtehigfpdeoebdaaRefE
set_option linter.unusedSimpArgs false
set_option linter.unusedVariables false
namespace Go.Proofs.Ytehigfpdeoebdaa.Dsk
open Go.RowKit
def RefM.put (r : RefM) (i : Int) (l : List UInt8) : RefM := { r with wait := r.wait ++ [(i, l)] }
theorem wpList_append_at {w : World} {ops : Array Oper} {rest : List Oper} {o : Oper} {a : Act} {Q : Exit → Act → World → Prop} (hgd : o.guard = none) (s x : Operand) (t : TypeId)
    (ho : o.op = .call { callee := .builtin .append, args := #[s, x], argTypes := #[t, t] })
    (base : Nat) (e : TypeId) (z : Value) (size bytes : Nat) (ht : Try.prog.underlying t = some (.slice e)) (hi : (Try.prog.info? e).map (fun i => (i.zero, i.size, i.bytes)) = some (some z, size, bytes))
    (hzs : z.cells.size = size) (hsz : 0 < size)
    (v : Value) (n : Nat) (xs : List Value) (hs : a.eval s = v) (hown : w.ownsRow base e size v n xs)
    (ad : Addr) (m c : Nat) (news : List Value) (hx : a.eval x = .slice (some ad) m c) (hl : news.length = m * size) (hnews : ∀ j u, news[j]? = some u → w.cell? (ad.add j) = some u) (h1 : ∀ u ∈ news, u.oneCell' = true)
    (h63 : n + m ≤ maxLen) (hbytes : (n + m) * bytes ≤ 140737488355328) (hbase : base ≤ w.heap.size)
    (h : ∀ v' w', Hid (w'.ownsRow base e size v' (n + m) (xs ++ news) ∧ w.grownBy w' v.ownBlock ∧ (v'.ownBlock = v.ownBlock ∨ v'.ownBlock = some w.heap.size)) → wpList Try.prog ops Q rest (a.put o.dst v') w') : wpList Try.prog ops Q (o :: rest) a w := by
  obtain ⟨i, hi, hz0, hz1, hz2⟩ := info_parts hi
  refine wpList_plain hgd fun K hK => ?_
  obtain ⟨v', w', hr, h2, h3, _, h5⟩ := run_append_own_at (P := Try.prog) w base t o.type e i z size bytes ht hi hz0 hz1 hz2 hzs hsz v n xs hown ad m c news hl hnews h1 h63 hbytes hbase
  unfold Oper.wp execOp
  simp only [ho, resolve, invoke, builtin, Sem.run_bind, Sem.run_pure, Result.andThen_ok, List.map_toArray, List.map_cons, List.map_nil, hs, hx, hr]
  exact hK _ _ (h v' w' ⟨h2, h3, h5⟩)
theorem underWr : Try.prog.underlying 55 = some (.slice 68) := by kernel_rfl
theorem infoWr : (Try.prog.info? 68).map (fun i => (i.zero, i.size, i.bytes)) = some (some (.agg #[.int .i64 0, .string ByteArray.empty]), 2, 24) := by kernel_rfl
set_option maxRecDepth 100000 in
set_option maxHeartbeats 1000000 in
theorem PutR_bad {w : World} {base a : Nat} {hv wv : Value} {r : RefM} (h : RefAt w base a hv wv r) (i : Int) (s : List UInt8) (hb : ¬ (0 ≤ i ∧ i < r.held.length) ∨ ¬ s.length = 256) :
    Calls Try.prog 9 #[.pointer (some ⟨a, 0, none⟩), .int .i64 i, .string (bstr s)] w fun e w' => e = .returned (.int .i64 2) ∧ w = w' := by
  have hs := h.ok.size
  have c0 := h.c0
  obtain ⟨A, c, rfl, _⟩ := h.hform
  have hbs := bstr_size s
  clear h
  obtain ⟨sb, hsb⟩ : ∃ sb, bstr s = sb := ⟨_, rfl⟩
  rw [hsb] at hbs ⊢
  by_cases h0 : i < 0
  · have e1 : decide (i < (0 : Int)) = true := by simpa using h0
    go_enter Try.func9, Try.ntmps9
    go_wp2
    go_ret
    exact ⟨rfl, rfl⟩
  · have e1 : decide (i < (0 : Int)) = false := by simpa using h0
    by_cases h1 : i < r.held.length
    · have e2 : decide (i ≥ (r.held.length : Int)) = false := by simp; omega
      have e3 : ((sb.size : Int) != (256 : Int)) = true := by
        rw [hbs]; simp; rcases hb with hb | hb
        · exact absurd ⟨by omega, h1⟩ hb
        · omega
      clear hb hbs hsb
      go_enter Try.func9, Try.ntmps9
      go_wp2
      go_ret
      exact ⟨rfl, rfl⟩
    · have e2 : decide (i ≥ (r.held.length : Int)) = true := by simp; omega
      clear hb hbs hsb
      go_enter Try.func9, Try.ntmps9
      go_wp2
      go_ret
      exact ⟨rfl, rfl⟩
set_option maxRecDepth 100000 in
set_option maxHeartbeats 1000000 in
theorem PutR_off {w : World} {base a : Nat} {hv wv : Value} {r : RefM} (h : RefAt w base a hv wv r) (i : Int) (s : List UInt8) (hi : 0 ≤ i ∧ i < r.held.length) (hl : s.length = 256) (ho : r.left = 0) :
    Calls Try.prog 9 #[.pointer (some ⟨a, 0, none⟩), .int .i64 i, .string (bstr s)] w fun e w' => e = .returned (.int .i64 10) ∧ w = w' := by
  have hs := h.ok.size
  have c0 := h.c0
  have c3 := h.c3
  obtain ⟨A, c, rfl, _⟩ := h.hform
  have hbs := bstr_size s
  clear h
  obtain ⟨sb, hsb⟩ : ∃ sb, bstr s = sb := ⟨_, rfl⟩
  rw [hsb] at hbs ⊢
  have e1 : decide (i < (0 : Int)) = false := by simp; omega
  have e2 : decide (i ≥ (r.held.length : Int)) = false := by simp; omega
  have e3 : ((sb.size : Int) != (256 : Int)) = false := by rw [hbs, hl]; rfl
  have e4 : (r.left == (0 : Int)) = true := by simp [ho]
  clear hbs hsb hl ho
  go_enter Try.func9, Try.ntmps9
  go_wp2
  go_ret
  exact ⟨rfl, rfl⟩
set_option maxRecDepth 100000 in
set_option maxHeartbeats 1000000 in
theorem PutR_ok {w : World} {base a : Nat} {hv wv : Value} {r : RefM} (h : RefAt w base a hv wv r) (i : Int) (s : List UInt8) (hi : 0 ≤ i ∧ i < r.held.length) (hl : s.length = 256) (ho : ¬ r.left = 0)
    (hbase : base ≤ w.heap.size) (hst : r.steps + 1 ≤ 1000000) (hw : r.wait.length < 1000) :
    Calls Try.prog 9 #[.pointer (some ⟨a, 0, none⟩), .int .i64 i, .string (bstr s)] w fun e w' => e = .returned (.int .i64 0) ∧ ∃ wv', RefAt w' base a hv wv' (r.put i s).step ∧ Kept (FootR a hv wv) w w' ∧ (wv'.ownBlock = wv.ownBlock ∨ ∃ k, wv'.ownBlock = some k ∧ w.heap.size ≤ k) := by
  have hs := h.ok.size
  have H := Lib.hid h
  have c0 := h.c0
  have c1 := h.c1
  have c3 := h.c3
  obtain ⟨A, c, rfl, _⟩ := h.hform
  have hbs := bstr_size s
  obtain ⟨sb, hsb⟩ : ∃ sb, bstr s = sb := ⟨_, rfl⟩
  have HSB := Lib.hid hsb
  rw [hsb] at hbs ⊢
  have e1 : decide (i < (0 : Int)) = false := by simp; omega
  have e2 : decide (i ≥ (r.held.length : Int)) = false := by simp; omega
  have e3 : ((sb.size : Int) != (256 : Int)) = false := by rw [hbs, hl]; rfl
  have e4 : (r.left == (0 : Int)) = false := by simp [ho]
  have HL := Lib.hid hl
  have HBs := Lib.hid hbase
  have HSt := Lib.hid hst
  have HW := Lib.hid hw
  clear hbs hsb hl ho h hbase hst hw
  go_enter Try.func9, Try.ntmps9
  go_wp2_with (with_reducible refine park_append ?_; intro q hq)
  refine hq.out ?_
  clear hq
  have hB1 : Hid (Below w.heap.size w (w.alloc (.cells #[.int .i64 i, .string sb] 68))) := (Below.refl _ _).alloc (Nat.le_refl _) _
  have hC1 : ∀ j u, (wrL (i, s))[j]? = some u → (w.alloc (.cells #[.int .i64 i, .string sb] 68)).cell? ((⟨w.heap.size, 0, none⟩ : Addr).add j) = some u := fun j u hj => by
    rw [Addr.add_lit, Nat.zero_add, cell_of_row _ _ _ _ _ _ (heap_alloc_new w _)]
    have e : wrL (i, s) = [.int .i64 i, .string sb] := by unfold wrL; rw [← HSB.out]
    rw [e] at hj
    simpa using hj
  have hsz : w.heap.size ≤ (w.alloc (.cells #[.int .i64 i, .string sb] 68)).heap.size := hB1.out.size
  have hD1 := Lib.hid (H.out.below hB1.out)
  refine wpList_append_at rfl _ _ 55 rfl base 68 _ 2 24 underWr infoWr rfl (by decide) _ r.wait.length (wrCells r.wait) rfl hD1.out.wrow ⟨w.heap.size, 0, none⟩ 1 1 (wrL (i, s)) rfl (by simp [wrL]) hC1 (by intro u hu; simp only [wrL, List.mem_cons, List.mem_nil_iff, or_false] at hu; rcases hu with rfl | rfl <;> rfl) (by have := HW.out; unfold maxLen; omega) (by have := HW.out; omega) (by have := HBs.out; omega) ?_
  intro wv' w2 HV
  have hk2 : Kept (fun k => wv.ownBlock = some k) w w2 := (Kept.of_below hB1.out).trans (Kept.of_grown HV.out.2.1 (fun k hk => hk))
  have hat : wv'.ownBlock = wv.ownBlock ∨ ∃ k, wv'.ownBlock = some k ∧ w.heap.size ≤ k := by
    rcases HV.out.2.2 with e | e
    · exact .inl e
    · exact .inr ⟨_, e, hsz⟩
  have haa : w2.heap[a]? = some (.cells #[.slice A r.held.length c, wv, .int .i64 r.steps, .int .i64 r.left] 57 (0, 0)) := by
    rw [hk2.block a (Array.getElem?_eq_some_iff.1 H.out.blk).1 (fun e => H.out.wa e)]; exact H.out.blk
  have hnA : ¬ wv'.ownBlock = some a := fun e => by
    rcases hat with e' | ⟨k, e', hk⟩
    · exact H.out.wa (by rw [← e', e])
    · rw [e] at e'; cases e'; have := (H.out.foot a (.inl rfl)).2; omega
  have HD : Hid (RefAt (w2.setCell ⟨a, 1, none⟩ wv') base a (.slice A r.held.length c) wv' (r.put i s)) := by
    refine ⟨by rw [blk_put haa]; rfl, ?_, ?_, H.out.lo, ⟨H.out.ok.hlen, ?_, H.out.ok.size, ?_, H.out.ok.steps, H.out.ok.left⟩⟩
    · exact (H.out.row.kept hk2 (fun k e e' => H.out.hw k e e')).kept (Kept.set1 w2 a 1 _) (fun k e e' => H.out.ha (by rw [e, e']))
    · refine own_kept ?_ (Kept.set1 w2 a 1 _) (fun k e e' => hnA (by rw [e, e']))
      simp only [RefM.put, List.length_append, List.length_singleton, wrCells_snoc]
      exact HV.out.1
    · intro e he
      simp only [RefM.put, List.mem_append, List.mem_singleton] at he
      rcases he with he | rfl
      · exact H.out.ok.wlen e he
      · exact ⟨HL.out, hi⟩
    · have := HW.out; simp only [RefM.put, List.length_append, List.length_singleton]; omega
  have HK : Hid (Kept (FootR a (.slice A r.held.length c) wv) w (w2.setCell ⟨a, 1, none⟩ wv')) := (hk2.mono (fun k _ e => .inr (.inr e))).trans ((Kept.set1 w2 a 1 _).mono (fun k _ e => .inl e))
  have HAT := Lib.hid hat
  have c12 : w2.cell? ⟨a, 1, none⟩ = some wv := by rw [cell_of_row _ _ _ _ _ _ haa]; rfl
  have f12 : w2.frozen? ⟨a, 1, none⟩ = false := frozen_of_row _ _ _ _ _ haa
  have hsl : ∃ p n c, wv' = .slice p n c := by
    rcases HV.out.1.2 with ⟨e, _⟩ | ⟨g, cap, cur, e, _⟩
    · exact ⟨_, _, _, e⟩
    · exact ⟨_, _, _, e⟩
  obtain ⟨p9, n9, c9, rfl⟩ := hsl
  have HSt2 := Lib.hid (stepR_calls HD.out HSt.out)
  clear hk2 hat haa hnA hC1 hB1 hD1 hsz c0 c1 c3 HV
  go_wp2_with (go_at_call 26; refine HSt2.out.mono ?_; rintro e w5 ⟨rfl, hD5, hk5⟩)
  go_ret
  exact ⟨rfl, _, hD5, HK.out.trans (hk5.mono (fun k _ e => .inl e)), HAT.out⟩
end Go.Proofs.Ytehigfpdeoebdaa.Dsk
