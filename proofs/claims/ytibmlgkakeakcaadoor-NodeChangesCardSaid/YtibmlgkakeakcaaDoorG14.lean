/- The walk of the document's Change (printed by wip/gen/changegen.py). -/
import Derived.Test.YtibmlgkakeakcaaDoorG10
import Derived.Test.YtibmlgkakeakcaaDoorG3
import Derived.Test.YtibmlgkakeakcaaDoorG6
set_option linter.unusedSimpArgs false
set_option linter.unusedVariables false
namespace Go.Proofs.YtibmlgkakeakcaaDoor
open Go.RowKit Go.Proofs.YtibmlgkakeakcaaDoor.Crc
theorem run_head {t e : TypeId} (ht : Tryd.prog.underlying t = some (.slice e)) (hs : ∀ w, (Go.sizeOf (Tryd.prog.elem t)).run Tryd.prog w = .ok 1 w) {A : Option Addr} {n c i : Nat} (hi : i ≤ n) (hc : n ≤ c) (hnil : A = none → c = 0) :
    ∃ B, (∀ w, (Instr.slice t (.slice A n c) none (some (.int .i64 (i : Int))) none).run Tryd.prog w = .ok (.slice B i c) w) ∧ (B = none → c = 0) ∧ ∀ w xs, ValsAt w A xs → ValsAt w B (xs.take i) := by
  have hr := fun w => @run_slice_h Tryd.prog w t A n c (by rw [ht, show Tryd.prog.elem t = e from by simp [Program.elem, ht]]) .i64 (i : Int) (by omega) (by omega)
  refine ⟨if c = 0 then A else A.map (·.add (0 * 1)), fun w => ?_, ?_, fun w xs h => ?_⟩
  · rw [hr w, hs w]
    simp [Result.andThen, sliced]
  · by_cases h0 : c = 0
    · exact fun _ => h0
    · rw [if_neg h0]
      intro h
      cases A with
      | none => exact hnil rfl
      | some ad => cases h
  · by_cases h0 : c = 0
    · have : i = 0 := by omega
      subst this; rw [List.take_zero]; exact ValsAt.nil _ _
    · rw [if_neg h0]
      have := (h.dropMap 0).take i
      rw [List.drop_zero] at this
      exact this
/-- Rows that lie in memory, as values. -/
def RowsR (w : World) (us : List Value) (ls : List (List UInt8)) : Prop := ∃ ps : List (Value × List UInt8), us = ps.map (·.1) ∧ ls = ps.map (·.2) ∧ ∀ p ∈ ps, ∃ A c, p.1 = .slice A p.2.length c ∧ SlB w A p.2.length c p.2
theorem RowsR.of {w : World} {A : Option Addr} {ls : List (List UInt8)} (h : RowsB w A ls) : ∃ us, us.length = ls.length ∧ ValsAt w A us ∧ RowsR w us ls := by
  have hx : ∀ i : Fin ls.length, ∃ v : Value, (∃ B c, v = .slice B ls[i].length c ∧ SlB w B ls[i].length c ls[i]) ∧ ∃ ad, A = some ad ∧ w.cell? (ad.add i) = some v := fun i => by
    obtain ⟨ad, Ai, ci, h1, h2, h3⟩ := h i i.2
    exact ⟨_, ⟨Ai, ci, rfl, h3⟩, ad, h1, h2⟩
  refine ⟨List.ofFn fun i => Classical.choose (hx i), by simp, fun k hk => ?_, List.ofFn fun i => (Classical.choose (hx i), ls[i]), by simp [Function.comp_def], by simp [Function.comp_def], fun p hp => ?_⟩
  · have hk' : k < ls.length := by simpa using hk
    obtain ⟨ad, h1, h2⟩ := (Classical.choose_spec (hx ⟨k, hk'⟩)).2
    exact ⟨ad, h1, by simpa using h2⟩
  · obtain ⟨i, rfl⟩ := List.mem_ofFn.1 hp
    exact (Classical.choose_spec (hx i)).1
theorem RowsR.append {w : World} {us us' : List Value} {ls ls' : List (List UInt8)} (h : RowsR w us ls) (h' : RowsR w us' ls') : RowsR w (us ++ us') (ls ++ ls') := by
  obtain ⟨ps, rfl, rfl, h2⟩ := h
  obtain ⟨qs, rfl, rfl, h3⟩ := h'
  refine ⟨ps ++ qs, by simp, by simp, fun p hp => ?_⟩
  rcases List.mem_append.1 hp with hp | hp
  · exact h2 p hp
  · exact h3 p hp
theorem RowsR.take {w : World} {us : List Value} {ls : List (List UInt8)} (h : RowsR w us ls) (i : Nat) : RowsR w (us.take i) (ls.take i) := by
  obtain ⟨ps, rfl, rfl, h2⟩ := h
  exact ⟨ps.take i, by rw [List.map_take], by rw [List.map_take], fun p hp => h2 p (List.mem_of_mem_take hp)⟩
theorem RowsR.drop {w : World} {us : List Value} {ls : List (List UInt8)} (h : RowsR w us ls) (i : Nat) : RowsR w (us.drop i) (ls.drop i) := by
  obtain ⟨ps, rfl, rfl, h2⟩ := h
  exact ⟨ps.drop i, by rw [List.map_drop], by rw [List.map_drop], fun p hp => h2 p (List.mem_of_mem_drop hp)⟩
theorem RowsR.below {w w' : World} {us : List Value} {ls : List (List UInt8)} (h : RowsR w us ls) (hb : Below w.heap.size w w') : RowsR w' us ls := by
  obtain ⟨ps, h0, h1, h2⟩ := h
  refine ⟨ps, h0, h1, fun p hp => ?_⟩
  obtain ⟨A, c, h3, h4⟩ := h2 p hp
  exact ⟨A, c, h3, h4.below hb⟩
theorem RowsR.one {w : World} {us : List Value} {ls : List (List UInt8)} (h : RowsR w us ls) : ∀ u ∈ us, u.oneCell' = true := by
  obtain ⟨ps, rfl, rfl, h2⟩ := h
  intro u hu
  obtain ⟨p, hp, rfl⟩ := List.mem_map.1 hu
  obtain ⟨A, c, h3, _⟩ := h2 p hp
  rw [h3]; rfl
theorem RowsR.len {w : World} {us : List Value} {ls : List (List UInt8)} (h : RowsR w us ls) : us.length = ls.length := by
  obtain ⟨ps, rfl, rfl, _⟩ := h; simp
theorem RowsR.rows {w : World} {A : Option Addr} {us : List Value} {ls : List (List UInt8)} (h : RowsR w us ls) (hv : ValsAt w A us) : RowsB w A ls := by
  obtain ⟨ps, rfl, rfl, h2⟩ := h
  intro i hi
  have hi' : i < ps.length := by simpa using hi
  obtain ⟨ad, hA, hc⟩ := hv i (by simpa using hi')
  obtain ⟨B, c, h3, h4⟩ := h2 ps[i] (List.getElem_mem hi')
  rw [List.getElem_map] at hc
  rw [List.getElem_map]
  exact ⟨ad, B, c, hA, by rw [hc, h3], h4⟩
/-- A node in memory whose row of values is typed. -/
def NodeT (w : World) (n : NodeM) (kA : Option Addr) (kc : Nat) (vA : Option Addr) (vc : Nat) (iA : Option Addr) (ic : Nat) : Prop := NodeAt w n kA kc vA vc iA ic ∧ (0 < n.vals.length → ∃ ad cs fz, vA = some ad ∧ w.heap[ad.block]? = some (.cells cs 30 fz))
theorem NodeT.below {w w' : World} {n : NodeM} {kA : Option Addr} {kc : Nat} {vA : Option Addr} {vc : Nat} {iA : Option Addr} {ic : Nat} (h : NodeT w n kA kc vA vc iA ic) (hb : Below w.heap.size w w') : NodeT w' n kA kc vA vc iA ic :=
  ⟨h.1.below hb, fun h0 => by obtain ⟨ad, cs, fz, e, hc⟩ := h.2 h0; exact ⟨ad, cs, fz, e, (hb.block _ (Array.getElem?_eq_some_iff.1 hc).1).trans hc⟩⟩
theorem row4_odd {w : World} {q : Nat} {b : Bool} {A1 A2 A3 : Option Addr} {n1 n2 n3 c1 c2 c3 : Nat} {T : TypeId} (h : w.heap[q]? = some (.cells #[.bool b, .slice A1 n1 c1, .slice A2 n2 c2, .slice A3 n3 c3] T (0, 0))) {ad : Addr} {v : Value} (hc : w.cell? ad = some v) (hb : ad.block = q) : (∃ x, v = .bool x) ∨ ∃ A n c, v = .slice A n c := by
  unfold World.cell? at hc
  rw [hb, h] at hc
  obtain ⟨bl, o, sp⟩ := ad
  simp only at hc
  by_cases hs : sp.isSome
  · rw [if_pos hs] at hc; cases hc
  · rw [if_neg hs] at hc
    match o, hc with
    | 0, hc => simp at hc; exact .inl ⟨_, hc.symm⟩
    | 1, hc => simp at hc; exact .inr ⟨_, _, _, hc.symm⟩
    | 2, hc => simp at hc; exact .inr ⟨_, _, _, hc.symm⟩
    | 3, hc => simp at hc; exact .inr ⟨_, _, _, hc.symm⟩
    | o + 4, hc => simp at hc
theorem NodeT.keptN {w w' : World} {n : NodeM} {kA : Option Addr} {kc : Nat} {vA : Option Addr} {vc : Nat} {iA : Option Addr} {ic : Nat} (h : NodeT w n kA kc vA vc iA ic) {q : Nat} {b : Bool} {A1 A2 A3 : Option Addr} {n1 n2 n3 c1 c2 c3 : Nat} {T : TypeId} (hk : Kept (· = q) w w') (hq : w.heap[q]? = some (.cells #[.bool b, .slice A1 n1 c1, .slice A2 n2 c2, .slice A3 n3 c3] T (0, 0))) (hT : T ≠ 30) : NodeT w' n kA kc vA vc iA ic := by
  refine ⟨⟨fun i hi => ?_, fun i hi => ?_, fun i hi => ?_, h.1.kn, h.1.vn, h.1.inn⟩, fun h0 => ?_⟩
  · obtain ⟨ad, hA, hc⟩ := h.1.k i hi
    refine ⟨ad, hA, hk.cell hc (fun e => ?_)⟩
    rw [strs_get] at hc
    rcases row4_odd hq hc e with ⟨x, e2⟩ | ⟨A, n, c, e2⟩ <;> exact absurd e2 (by unfold strV; simp)
  · obtain ⟨ad, Ai, ci, hA, hc, hs⟩ := h.1.v i hi
    obtain ⟨ad2, cs, fz, e, hty⟩ := h.2 (by omega)
    rw [hA] at e
    injection e with e
    subst e
    have hne : ∀ x, (ad.add x).block = q → False := fun x e => by
      have e' : ad.block = q := by rw [← e]; unfold Addr.add; split <;> rfl
      rw [e', hq] at hty; injection hty with hty; injection hty with _ h4; exact hT h4
    refine ⟨ad, Ai, ci, hA, hk.cell hc (fun e => hne _ e), hs.1, fun j hj => ?_, hs.2.2⟩
    obtain ⟨ad3, hA3, hc3⟩ := hs.2.1 j hj
    refine ⟨ad3, hA3, hk.cell hc3 (fun e => ?_)⟩
    rcases row4_odd hq hc3 e with ⟨x, e2⟩ | ⟨A, n, c, e2⟩ <;> cases e2
  · obtain ⟨ad, hA, hc⟩ := h.1.i i hi
    refine ⟨ad, hA, hk.cell hc (fun e => ?_)⟩
    rw [ints_get] at hc
    rcases row4_odd hq hc e with ⟨x, e2⟩ | ⟨A, n, c, e2⟩ <;> exact absurd e2 (by unfold intV; simp)
  · obtain ⟨ad, cs, fz, e, hty⟩ := h.2 h0
    refine ⟨ad, cs, fz, e, (hk.block _ (Array.getElem?_eq_some_iff.1 hty).1 (fun e' => ?_)).trans hty⟩
    have e'' : ad.block = q := e'
    rw [e'', hq] at hty; injection hty with hty; injection hty with _ h4; exact hT h4
theorem OwnVs.typed {w : World} {B : Nat} {t : TypeId} {A : Option Addr} {n c : Nat} {us : List Value} (h : OwnVs w B t (.slice A n c) us) (hne : 0 < us.length) : ∃ ad cs fz, A = some ad ∧ w.heap[ad.block]? = some (.cells cs t fz) := by
  rcases h.form with ⟨e, e2⟩ | ⟨g, c2, e, _⟩
  · rw [e2] at hne; exact absurd hne (by simp)
  · simp only [Value.slice.injEq] at e
    obtain ⟨rfl, _⟩ := e
    obtain ⟨cur, hcur⟩ := ownsRow_block h (show (Value.slice (some ⟨g, 0, none⟩) n c).ownBlock = some g from rfl)
    exact ⟨_, _, _, rfl, hcur⟩
/-- Change. -/
def changeM (n : NodeM) (i o : Nat) (m : NodeM) : NodeM := ⟨n.leaf, n.keys.take i ++ m.keys ++ n.keys.drop (i + o), if n.leaf then n.vals.take i ++ m.vals ++ n.vals.drop (i + o) else [], if n.leaf then [] else n.kids.take i ++ m.kids ++ n.kids.drop (i + o)⟩
set_option maxRecDepth 10000 in
set_option maxHeartbeats 8000000 in
theorem Change_leaf {w : World} {ks vs ls us' : List (List UInt8)} {is js : List Int} {lm : Bool} {kA : Option Addr} {kc : Nat} {vA : Option Addr} {vc : Nat} {iA : Option Addr} {ic : Nat} {kX : Option Addr} {kx : Nat} {vX : Option Addr} {vx : Nat} {iX : Option Addr} {ix : Nat} (h : NodeAt w ⟨true, ks, vs, is⟩ kA kc vA vc iA ic) (h' : NodeAt w ⟨lm, ls, us', js⟩ kX kx vX vx iX ix) (i o : Nat) (hk : i + o ≤ ks.length) (hv : i + o ≤ vs.length) (hs : ks.length ≤ 2000 ∧ vs.length ≤ 2000 ∧ is.length ≤ 2000 ∧ ls.length ≤ 2000 ∧ us'.length ≤ 2000 ∧ js.length ≤ 2000) :
    Calls Tryd.prog 60 #[.agg #[.bool true, .slice kA ks.length kc, .slice vA vs.length vc, .slice iA is.length ic], .int .i64 (i : Int), .int .i64 (o : Int), .agg #[.bool lm, .slice kX ls.length kx, .slice vX us'.length vx, .slice iX js.length ix]] w fun e w' => ∃ kB kd vB vd iB id, e = .returned (.agg #[.bool true, .slice kB (changeM ⟨true, ks, vs, is⟩ i o ⟨lm, ls, us', js⟩).keys.length kd, .slice vB (changeM ⟨true, ks, vs, is⟩ i o ⟨lm, ls, us', js⟩).vals.length vd, .slice iB (changeM ⟨true, ks, vs, is⟩ i o ⟨lm, ls, us', js⟩).kids.length id]) ∧ Hid (NodeT w' (changeM ⟨true, ks, vs, is⟩ i o ⟨lm, ls, us', js⟩) kB kd vB vd iB id ∧ Below w.heap.size w w') := by
  obtain ⟨xs2, hx2l, hx2, hx2r⟩ := RowsR.of h.v
  obtain ⟨ys2, hy2l, hy2, hy2r⟩ := RowsR.of h'.v
  simp only at hx2l hy2l hx2r hy2r
  have hs1 : ∀ w, (Go.sizeOf (Tryd.prog.elem 22)).run Tryd.prog w = .ok 1 w := fun w => by kernel_rfl
  have hs2 : ∀ w, (Go.sizeOf (Tryd.prog.elem 23)).run Tryd.prog w = .ok 1 w := fun w => by kernel_rfl
  obtain ⟨B1, r1, b1, v1⟩ := run_head (n := ks.length) Tryd.underlying22 hs1 (A := kA) (c := kc) (i := i) (by omega) h.kn.2.1 h.kn.1
  obtain ⟨B2, r2, b2, v2⟩ := run_suf (n := ks.length) Tryd.underlying22 hs1 (A := kA) (c := kc) (i := i + o) hk h.kn.2.1 h.kn.1
  obtain ⟨B3, r3, b3, v3⟩ := run_head (n := vs.length) Tryd.underlying23 hs2 (A := vA) (c := vc) (i := i) (by omega) h.vn.2.1 h.vn.1
  obtain ⟨B4, r4, b4, v4⟩ := run_suf (n := vs.length) Tryd.underlying23 hs2 (A := vA) (c := vc) (i := i + o) hv h.vn.2.1 h.vn.1
  obtain ⟨p, hp⟩ : ∃ p, i + o = p := ⟨_, rfl⟩
  rw [hp] at hk hv r2 b2 v2 r4 b4 v4
  have hpw : IntKind.i64.wrap ((i : Int) + (o : Int)) = (p : Int) := by rw [IntWalk.i64_in _ (by omega)]; omega
  have hip : i ≤ p := by omega
  have HP := Lib.hid hp
  obtain ⟨nk, hnk⟩ : ∃ k, ks.length = k := ⟨_, rfl⟩
  obtain ⟨nv, hnv⟩ : ∃ k, vs.length = k := ⟨_, rfl⟩
  obtain ⟨ni, hni⟩ : ∃ k, is.length = k := ⟨_, rfl⟩
  obtain ⟨mk, hmk⟩ : ∃ k, ls.length = k := ⟨_, rfl⟩
  obtain ⟨mv, hmv⟩ : ∃ k, us'.length = k := ⟨_, rfl⟩
  obtain ⟨mi, hmi⟩ : ∃ k, js.length = k := ⟨_, rfl⟩
  have HL : Hid (ks.length = nk ∧ vs.length = nv ∧ is.length = ni ∧ ls.length = mk ∧ us'.length = mv ∧ js.length = mi) := ⟨hnk, hnv, hni, hmk, hmv, hmi⟩
  have HX2 : Hid (xs2.length = nv ∧ ys2.length = mv ∧ RowsR w xs2 vs ∧ RowsR w ys2 us') := ⟨by rw [hx2l, hnv], by rw [hy2l, hmv], hx2r, hy2r⟩
  have HB1 : Hid ((B1 = none → kc = 0) ∧ (B2 = none → kc - p = 0) ∧ (B3 = none → vc = 0) ∧ (B4 = none → vc - p = 0)) := ⟨b1, b2, b3, b4⟩
  have HV1 := Lib.hid v1
  have HV2 := Lib.hid v2
  have HV3 := Lib.hid v3
  have HV4 := Lib.hid v4
  rw [hnk, hnv, hni, hmk, hmv, hmi] at hs ⊢
  rw [hnk] at r1 r2 hk HV2
  rw [hnv] at r3 r4 hv HV4
  have HNs := Lib.hid hs
  have HVx := Lib.hid hx2
  have HVy := Lib.hid hy2
  clear hs1 hs2 b1 b2 b3 b4 v1 v2 v3 v4 hp hx2l hy2l hx2 hx2r hy2 hy2r hnk hnv hni hmk hmv hmi
  obtain ⟨np, hnp⟩ : ∃ k, nk - p = k := ⟨_, rfl⟩
  obtain ⟨cp, hcp⟩ : ∃ k, kc - p = k := ⟨_, rfl⟩
  obtain ⟨xp, hxp⟩ : ∃ k, nv - p = k := ⟨_, rfl⟩
  obtain ⟨yp, hyp⟩ : ∃ k, vc - p = k := ⟨_, rfl⟩
  rw [hnp, hcp] at r2
  rw [hxp, hyp] at r4
  have HNp : Hid (nk - p = np ∧ nv - p = xp ∧ p ≤ nk ∧ p ≤ nv) := ⟨hnp, hxp, hk, hv⟩
  rw [hcp, hyp] at HB1
  clear hnp hcp hxp hyp hs hk hv
  obtain ⟨h1, hr2, hr3⟩ := node2_boxT w (.bool true) (.slice kA nk kc) (.slice vA nv vc) (.slice iA ni ic) (.bool lm) (.slice kX mk kx) (.slice vX mv vx) (.slice iX mi ix) 26
  obtain ⟨W0, hW0⟩ : ∃ x, (w.alloc (.cells #[.bool true, .slice kA nk kc, .slice vA nv vc, .slice iA ni ic] 26)).alloc (.cells #[.bool lm, .slice kX mk kx, .slice vX mv vx, .slice iX mi ix] 26) = x := ⟨_, rfl⟩
  rw [hW0] at h1 hr2 hr3
  have hs0 : W0.heap.size = w.heap.size + 2 := by rw [← hW0]; simp
  have hb2 : Below W0.heap.size W0 (W0.alloc (.cells #[.bool false, .slice none 0 0, .slice none 0 0, .slice none 0 0] 26)) := (Below.refl _ _).alloc (Nat.le_refl _) _
  have hr4 := heap_alloc_new W0 (.cells #[.bool false, .slice none 0 0, .slice none 0 0, .slice none 0 0] 26)
  have hx1 := (hb2.block _ (by omega)).trans hr2
  have hy1 := (hb2.block _ (by omega)).trans hr3
  obtain ⟨W1, hW1⟩ : ∃ x, W0.alloc (.cells #[.bool false, .slice none 0 0, .slice none 0 0, .slice none 0 0] 26) = x := ⟨_, rfl⟩
  rw [hW1] at hb2 hr4 hx1 hy1
  rw [hs0] at hr4
  have hs1 : W1.heap.size = w.heap.size + 3 := by rw [← hW1]; simp [hs0]
  have hW1' : ((w.alloc (.cells #[.bool true, .slice kA nk kc, .slice vA nv vc, .slice iA ni ic] 26)).alloc (.cells #[.bool lm, .slice kX mk kx, .slice vX mv vx, .slice iX mi ix] 26)).alloc (.cells #[.bool false, .slice none 0 0, .slice none 0 0, .slice none 0 0] 26) = W1 := by rw [hW0]; exact hW1
  have hbw : Below w.heap.size w W1 := h1.trans (hb2.mono (by omega))
  obtain ⟨r, hr0⟩ : ∃ r, w.heap.size = r := ⟨_, rfl⟩
  rw [hr0] at hr4 hx1 hy1 hbw hs1
  have hb3 : Below W1.heap.size W1 (W1.alloc (.cells #[.bool true, .slice none 0 0, .slice none 0 0, .slice none 0 0] 26)) := (Below.refl _ _).alloc (Nat.le_refl _) _
  have hr5 := heap_alloc_new W1 (.cells #[.bool true, .slice none 0 0, .slice none 0 0, .slice none 0 0] 26)
  have hx1' := (hb3.block r (by omega)).trans hx1
  have hy1' := (hb3.block (r + 1) (by omega)).trans hy1
  have hr4' := (hb3.block (r + 1 + 1) (by omega)).trans hr4
  have hbw' := hbw.trans (hb3.mono (by omega))
  obtain ⟨x0, x1, x2, x3⟩ := row4_cells hx1
  have HW1 := Lib.hid hW1'
  obtain ⟨W2, hW2⟩ : ∃ x, W1.alloc (.cells #[.bool true, .slice none 0 0, .slice none 0 0, .slice none 0 0] 26) = x := ⟨_, rfl⟩
  rw [hW2] at hr5 hx1' hy1' hr4' hbw'
  rw [hs1] at hr5
  have HS2 : Hid (W2.heap.size = r + 4) := by show _ = _; rw [← hW2]; simp [hs1]
  have HS1 := Lib.hid hs1
  have HX := Lib.hid hx1'
  have HY := Lib.hid hy1'
  have HZ := Lib.hid hr4'
  have HO := Lib.hid hr5
  have HB := Lib.hid hbw'
  have HR0 := Lib.hid hr0
  have HW2 := Lib.hid hW2
  have HW0' : Hid (Below w.heap.size w W2) := by show Below _ _ _; rw [hr0]; exact hbw'
  have HNA := Lib.hid h
  have HMA := Lib.hid h'
  clear h h' h1 hr2 hr3 hW0 hs0 hb2 hr4 hx1 hy1 hW1 hs1 hW1' hbw hb3 hr5 hx1' hy1' hr4' hbw' hr0 hW2
  go_enter Tryd.func60, Tryd.ntmps60
  go_wp2_with fail
  simp only [HW1.out, HR0.out]
  go_wp2_with fail
  simp only [HS1.out, HW2.out]
  clear x0 x1 x2 x3
  have hS0 : Hid (Below W2.heap.size W2 W2.drew) := Lib.hid (Below.refl _ _).drew
  have HXc := Lib.hid (box_cells HX.out)
  have HYc := Lib.hid (box_cells HY.out)
  refine wp_region_M (fun w' => Hid (Below W2.heap.size W2 w')) 17 (by as_aux_lemma => kernel_rfl) ?_
  refine mAnyTake (i := 1) (v := Value.pointer (some ⟨r, 1, none⟩)) (some 14) [1, 2, 4, 5, 8, 15, 17] (by as_aux_lemma => kernel_rfl) rfl rfl (by decide) (by as_aux_lemma => kernel_rfl) rfl rfl (by as_aux_lemma => kernel_rfl) (by as_aux_lemma => kernel_rfl) (by as_aux_lemma => kernel_rfl) (fun _ _ _ h => h) (Or.inl ⟨by rfl, fun w => by go_simp⟩) hS0 ?_
  try simp only [Act.put, List.setIfInBounds_toArray, List.set_cons_zero, List.set_cons_succ]
  refine mTake (i := 2) (v := Value.slice kA nk kc) (some 15) [2, 4, 5, 8, 15, 17] (by as_aux_lemma => kernel_rfl) rfl rfl (by decide) (by as_aux_lemma => kernel_rfl) rfl rfl (by as_aux_lemma => kernel_rfl) (by as_aux_lemma => kernel_rfl) (by as_aux_lemma => kernel_rfl) (fun _ _ _ h => h) (Or.inl ⟨by rfl, fun w h => by ((obtain ⟨z0, z1, z2, z3⟩ := HXc.out _ h.out); go_simp)⟩) hS0 ?_
  try simp only [Act.put, List.setIfInBounds_toArray, List.set_cons_zero, List.set_cons_succ]
  refine mAnyTake (i := 3) (v := Value.int IntKind.i64 (i : Int)) (some 16) [3, 4, 5, 8, 15, 17] (by as_aux_lemma => kernel_rfl) rfl rfl (by decide) (by as_aux_lemma => kernel_rfl) rfl rfl (by as_aux_lemma => kernel_rfl) (by as_aux_lemma => kernel_rfl) (by as_aux_lemma => kernel_rfl) (fun _ _ _ h => h) (Or.inl ⟨by rfl, fun w => by go_simp⟩) hS0 ?_
  try simp only [Act.put, List.setIfInBounds_toArray, List.set_cons_zero, List.set_cons_succ]
  refine mAnyTake (i := 4) (v := Value.slice B1 i kc) (some 17) [4, 5, 8, 15, 17] (by as_aux_lemma => kernel_rfl) rfl rfl (by decide) (by as_aux_lemma => kernel_rfl) rfl rfl (by as_aux_lemma => kernel_rfl) (by as_aux_lemma => kernel_rfl) (by as_aux_lemma => kernel_rfl) (fun _ _ _ h => h) (Or.inl ⟨by rfl, fun w => by go_simp⟩) hS0 ?_
  try simp only [Act.put, List.setIfInBounds_toArray, List.set_cons_zero, List.set_cons_succ]
  refine mAnyTake (i := 6) (v := Value.pointer (some ⟨r + 1, 1, none⟩)) (some 19) [6, 7, 8, 15, 17] (by as_aux_lemma => kernel_rfl) rfl rfl (by decide) (by as_aux_lemma => kernel_rfl) rfl rfl (by as_aux_lemma => kernel_rfl) (by as_aux_lemma => kernel_rfl) (by as_aux_lemma => kernel_rfl) (fun _ _ _ h => h) (Or.inl ⟨by rfl, fun w => by go_simp⟩) hS0 ?_
  try simp only [Act.put, List.setIfInBounds_toArray, List.set_cons_zero, List.set_cons_succ]
  refine mTake (i := 7) (v := Value.slice kX mk kx) (some 20) [7, 8, 15, 17] (by as_aux_lemma => kernel_rfl) rfl rfl (by decide) (by as_aux_lemma => kernel_rfl) rfl rfl (by as_aux_lemma => kernel_rfl) (by as_aux_lemma => kernel_rfl) (by as_aux_lemma => kernel_rfl) (fun _ _ _ h => h) (Or.inl ⟨by rfl, fun w h => by ((obtain ⟨z0, z1, z2, z3⟩ := HYc.out _ h.out); go_simp)⟩) hS0 ?_
  try simp only [Act.put, List.setIfInBounds_toArray, List.set_cons_zero, List.set_cons_succ]
  refine mAnyTake (i := 9) (v := Value.pointer (some ⟨r, 1, none⟩)) (some 22) [9, 10, 14, 15, 17] (by as_aux_lemma => kernel_rfl) rfl rfl (by decide) (by as_aux_lemma => kernel_rfl) rfl rfl (by as_aux_lemma => kernel_rfl) (by as_aux_lemma => kernel_rfl) (by as_aux_lemma => kernel_rfl) (fun _ _ _ h => h) (Or.inl ⟨by rfl, fun w => by go_simp⟩) hS0 ?_
  try simp only [Act.put, List.setIfInBounds_toArray, List.set_cons_zero, List.set_cons_succ]
  refine mTake (i := 10) (v := Value.slice kA nk kc) (some 23) [10, 14, 15, 17] (by as_aux_lemma => kernel_rfl) rfl rfl (by decide) (by as_aux_lemma => kernel_rfl) rfl rfl (by as_aux_lemma => kernel_rfl) (by as_aux_lemma => kernel_rfl) (by as_aux_lemma => kernel_rfl) (fun _ _ _ h => h) (Or.inl ⟨by rfl, fun w h => by ((obtain ⟨z0, z1, z2, z3⟩ := HXc.out _ h.out); go_simp)⟩) hS0 ?_
  try simp only [Act.put, List.setIfInBounds_toArray, List.set_cons_zero, List.set_cons_succ]
  refine mAnyTake (i := 11) (v := Value.int IntKind.i64 (i : Int)) (some 24) [11, 13, 14, 15, 17] (by as_aux_lemma => kernel_rfl) rfl rfl (by decide) (by as_aux_lemma => kernel_rfl) rfl rfl (by as_aux_lemma => kernel_rfl) (by as_aux_lemma => kernel_rfl) (by as_aux_lemma => kernel_rfl) (fun _ _ _ h => h) (Or.inl ⟨by rfl, fun w => by go_simp⟩) hS0 ?_
  try simp only [Act.put, List.setIfInBounds_toArray, List.set_cons_zero, List.set_cons_succ]
  refine mAnyTake (i := 12) (v := Value.int IntKind.i64 (o : Int)) (some 25) [12, 13, 14, 15, 17] (by as_aux_lemma => kernel_rfl) rfl rfl (by decide) (by as_aux_lemma => kernel_rfl) rfl rfl (by as_aux_lemma => kernel_rfl) (by as_aux_lemma => kernel_rfl) (by as_aux_lemma => kernel_rfl) (fun _ _ _ h => h) (Or.inl ⟨by rfl, fun w => by go_simp⟩) hS0 ?_
  try simp only [Act.put, List.setIfInBounds_toArray, List.set_cons_zero, List.set_cons_succ]
  refine mAnyTake (i := 13) (v := Value.int IntKind.i64 (p : Int)) (some 26) [13, 14, 15, 17] (by as_aux_lemma => kernel_rfl) rfl rfl (by decide) (by as_aux_lemma => kernel_rfl) rfl rfl (by as_aux_lemma => kernel_rfl) (by as_aux_lemma => kernel_rfl) (by as_aux_lemma => kernel_rfl) (fun _ _ _ h => h) (Or.inl ⟨by rfl, fun w => by go_simp⟩) hS0 ?_
  try simp only [Act.put, List.setIfInBounds_toArray, List.set_cons_zero, List.set_cons_succ]
  refine mAnyTake (i := 14) (v := Value.slice B2 np cp) (some 27) [14, 15, 17] (by as_aux_lemma => kernel_rfl) rfl rfl (by decide) (by as_aux_lemma => kernel_rfl) rfl rfl (by as_aux_lemma => kernel_rfl) (by as_aux_lemma => kernel_rfl) (by as_aux_lemma => kernel_rfl) (fun _ _ _ h => h) (Or.inl ⟨by rfl, fun w => by go_simp⟩) hS0 ?_
  try simp only [Act.put, List.setIfInBounds_toArray, List.set_cons_zero, List.set_cons_succ]
  refine mOne (i := 0) (by as_aux_lemma => kernel_rfl) rfl (fun K hK => ?_)
  have HK := Lib.hid hK
  clear hK
  rw [if_pos (by rfl)]
  have hba : Below W2.drew.heap.size W2.drew (W2.drew.alloc (.cells #[] 9)) := (Below.refl _ _).alloc (Nat.le_refl _) _
  have hS1 : Hid (Below W2.heap.size W2 (W2.drew.alloc (.cells #[] 9))) := Lib.hid (hS0.out.trans (hba.mono hS0.out.size))
  have hO1 : Hid (OwnVs (W2.drew.alloc (.cells #[] 9)) W2.heap.size 9 (.slice (some ⟨W2.heap.size, 0, none⟩) 0 0) []) := Lib.hid (OwnVs.lit W2.drew W2.heap.size (Nat.le_refl _) [] (by decide))
  go_wp2_with fail
  refine HK.out _ _ (.inr hS1) ?_
  clear HK
  try simp only [Act.put, List.setIfInBounds_toArray, List.set_cons_zero, List.set_cons_succ]
  have hV1 : Hid (ValsAt (W2.drew.alloc (.cells #[] 9)) B1 (strs (ks.take i))) := Lib.hid (by have := HV1.out w (strs ks) HNA.out.k; rw [strs_take] at this; exact this.below (HW0'.out.trans ((hS1.out).mono HW0'.out.size)))
  clear hba
  refine mOne (i := 5) (by as_aux_lemma => kernel_rfl) rfl (fun K hK => ?_)
  have HK := Lib.hid hK
  clear hK
  rw [if_pos (by rfl)]
  have hbs9 : W2.heap.size ≤ _ := hS1.out.size
  refine wp_append_vals elStr _ _ (by rfl) W2.heap.size (.slice (some ⟨W2.heap.size, 0, none⟩) 0 0) ([]) (by rfl) hO1.out B1 i kc (strs (ks.take i)) (by rfl) (by rw [strs_length, List.length_take]; have := HL.out; have := HNp.out; omega) (HB1.out.1) hV1.out (strs_one _) (by have := HNs.out; have := HL.out; have := HX2.out; have := HNp.out; simp only [List.length_append, List.length_take, List.length_drop, List.length_nil, strs_length, ints_length]; omega) hbs9 ?_
  intro v9 w9 H9
  have hS9 : Hid (Below W2.heap.size W2 w9) := Lib.hid (hS1.out.grown H9.out.2 hbs9 (fun k hk => (hO1.out.lt k hk).1))
  have hO9 := Lib.hid H9.out.1
  obtain ⟨A9, c9, hv9, _⟩ := hO9.out.sl
  obtain ⟨L9, hL9⟩ : ∃ L, ([] ++ strs (ks.take i)).length = L := ⟨_, rfl⟩
  have HL9 := Lib.hid hL9
  rw [hL9] at hv9
  subst hv9
  clear hL9 H9
  refine HK.out _ _ (.inr hS9) ?_
  clear HK
  try simp only [Act.put, List.setIfInBounds_toArray, List.set_cons_zero, List.set_cons_succ]
  have hV2 : Hid (ValsAt w9 kX (strs ls)) := Lib.hid (HMA.out.k.below (HW0'.out.trans ((hS9.out).mono HW0'.out.size)))
  refine mOne (i := 8) (by as_aux_lemma => kernel_rfl) rfl (fun K hK => ?_)
  have HK := Lib.hid hK
  clear hK
  rw [if_pos (by rfl)]
  have hbs10 : W2.heap.size ≤ _ := hS9.out.size
  refine wp_append_vals elStr _ _ (by rfl) W2.heap.size (.slice A9 L9 c9) ([] ++ strs (ks.take i)) (by rfl) hO9.out kX mk kx (strs ls) (by rfl) (by rw [strs_length]; exact HL.out.2.2.2.1.symm) (HMA.out.kn.1) hV2.out (strs_one _) (by have := HNs.out; have := HL.out; have := HX2.out; have := HNp.out; simp only [List.length_append, List.length_take, List.length_drop, List.length_nil, strs_length, ints_length]; omega) hbs10 ?_
  intro v10 w10 H10
  have hS10 : Hid (Below W2.heap.size W2 w10) := Lib.hid (hS9.out.grown H10.out.2 hbs10 (fun k hk => (hO9.out.lt k hk).1))
  have hO10 := Lib.hid H10.out.1
  obtain ⟨A10, c10, hv10, _⟩ := hO10.out.sl
  obtain ⟨L10, hL10⟩ : ∃ L, ([] ++ strs (ks.take i) ++ strs ls).length = L := ⟨_, rfl⟩
  have HL10 := Lib.hid hL10
  rw [hL10] at hv10
  subst hv10
  clear hL10 H10
  refine HK.out _ _ (.inr hS10) ?_
  clear HK
  try simp only [Act.put, List.setIfInBounds_toArray, List.set_cons_zero, List.set_cons_succ]
  have hV3 : Hid (ValsAt w10 B2 (strs (ks.drop p))) := Lib.hid (by have := HV2.out w (strs ks) (by rw [strs_length]; exact HL.out.1) HNA.out.k; rw [strs_drop] at this; exact this.below (HW0'.out.trans ((hS10.out).mono HW0'.out.size)))
  refine mOne (i := 15) (by as_aux_lemma => kernel_rfl) rfl (fun K hK => ?_)
  have HK := Lib.hid hK
  clear hK
  rw [if_pos (by rfl)]
  have hbs11 : W2.heap.size ≤ _ := hS10.out.size
  refine wp_append_vals elStr _ _ (by rfl) W2.heap.size (.slice A10 L10 c10) ([] ++ strs (ks.take i) ++ strs ls) (by rfl) hO10.out B2 np cp (strs (ks.drop p)) (by rfl) (by rw [strs_length, List.length_drop]; have := HL.out; have := HNp.out; omega) (HB1.out.2.1) hV3.out (strs_one _) (by have := HNs.out; have := HL.out; have := HX2.out; have := HNp.out; simp only [List.length_append, List.length_take, List.length_drop, List.length_nil, strs_length, ints_length]; omega) hbs11 ?_
  intro v11 w11 H11
  have hS11 : Hid (Below W2.heap.size W2 w11) := Lib.hid (hS10.out.grown H11.out.2 hbs11 (fun k hk => (hO10.out.lt k hk).1))
  have hO11 := Lib.hid H11.out.1
  obtain ⟨A11, c11, hv11, _⟩ := hO11.out.sl
  obtain ⟨L11, hL11⟩ : ∃ L, ([] ++ strs (ks.take i) ++ strs ls ++ strs (ks.drop p)).length = L := ⟨_, rfl⟩
  have HL11 := Lib.hid hL11
  rw [hL11] at hv11
  subst hv11
  clear hL11 H11
  refine HK.out _ _ (.inr hS11) ?_
  clear HK
  try simp only [Act.put, List.setIfInBounds_toArray, List.set_cons_zero, List.set_cons_succ]
  refine mOne (i := 16) (by as_aux_lemma => kernel_rfl) rfl (fun K hK => ?_)
  have HK := Lib.hid hK
  clear hK
  rw [if_pos (by rfl)]
  go_wp2_with fail
  refine HK.out _ _ (.inr hS11) ?_
  clear HK
  try simp only [Act.put, List.setIfInBounds_toArray, List.set_cons_zero, List.set_cons_succ]
  have ho11 := (hS11.out.block (r + 1 + 1 + 1) (by have := HS2.out; omega)).trans HO.out
  obtain ⟨f0, f1, f2, f3⟩ := row4_frozen ho11
  obtain ⟨x0, x1, x2, x3⟩ := row4_cells ho11
  refine mOne (i := 17) (by as_aux_lemma => kernel_rfl) rfl (fun K hK => ?_)
  have HK := Lib.hid hK
  clear hK
  rw [if_pos (by rfl)]
  go_wp2_with fail
  refine HK.out _ _ (by simp) ?_
  clear HK
  try simp only [Act.put, List.setIfInBounds_toArray, List.set_cons_zero, List.set_cons_succ]
  refine mDone (by as_aux_lemma => kernel_rfl) ?_ _
  clear x0 x1 x2 x3 f0 f1 f2 f3
  have k12 : Kept (· = r + 1 + 1 + 1) w11 (w11.setCell ⟨r + 1 + 1 + 1, 1, none⟩ (.slice A11 L11 c11)) := Kept.set1 w11 (r + 1 + 1 + 1) 1 _
  have ho12 := row4_set1 ho11 (.slice A11 L11 c11)
  have hty : ∀ k cs t fz, k = r + 1 + 1 + 1 → w11.heap[k]? = some (.cells cs t fz) → t = 26 := fun k cs t fz e hc => by
    rw [e, ho11] at hc; injection hc with hc; injection hc with _ h4 _; exact h4.symm
  have hK12 := (hO11.out.base' (show r ≤ W2.heap.size by rw [HS2.out]; omega)).keptT k12 (fun k cs hS hc => absurd (hty _ _ _ _ hS hc) (by decide))
  have hb12 : Below (r + 3) W2 (w11.setCell ⟨r + 1 + 1 + 1, 1, none⟩ (.slice A11 L11 c11)) := (hS11.out.mono (by rw [HS2.out]; omega)).trans (k12.below (by have := hS11.out.size; rw [HS2.out] at this; omega) (fun k hk e => by have e' : k = r + 1 + 1 + 1 := e; omega))
  have hs12 : r + 4 ≤ (w11.setCell ⟨r + 1 + 1 + 1, 1, none⟩ (.slice A11 L11 c11)).heap.size := Nat.le_trans (by rw [← HS2.out]; exact hS11.out.size) k12.size
  obtain ⟨Wm, hwm⟩ : ∃ x, w11.setCell ⟨r + 1 + 1 + 1, 1, none⟩ (.slice A11 L11 c11) = x := ⟨_, rfl⟩
  rw [hwm] at ho12 hK12 hb12 hs12 ⊢
  have HKa : Hid (OwnVs Wm r 9 (.slice A11 L11 c11) (strs (ks.take i ++ ls ++ ks.drop p))) := Lib.hid (by
    rw [show ([] : List Value) ++ strs (ks.take i) ++ strs ls ++ strs (ks.drop p) = strs (ks.take i ++ ls ++ ks.drop p) from by simp [strs_app]] at hK12
    exact hK12)
  have hX9 := (hb12.block r (by omega)).trans HX.out
  have hY9 := (hb12.block (r + 1) (by omega)).trans HY.out
  have hZ9 := (hb12.block (r + 1 + 1) (by omega)).trans HZ.out
  have HS9 := Lib.hid hs12
  have hB9 : Below r w Wm := HB.out.trans (hb12.mono (by omega))
  have HW9' : Hid (Below w.heap.size w Wm) := Lib.hid (by rw [HR0.out]; exact hB9)
  have HLa : Hid ((strs (ks.take i ++ ls ++ ks.drop p)).length = L11) := Lib.hid (by rw [← HL11.out]; simp [strs_app])
  clear HX HY HZ HO HXc HYc hS0 hS1 hS9 hS10 hS11 hO1 hO9 hO10 hO11 hV1 hV2 hV3 HL9 HL10 HL11 hwm k12 hty hK12 hb12 ho11 HB HW0' HS2 hbs9 hbs10 hbs11 hs12 HV1 HV2
  have HX := Lib.hid hX9
  have HY := Lib.hid hY9
  have HZ := Lib.hid hZ9
  have HO := Lib.hid ho12
  have HB := Lib.hid hB9
  obtain ⟨AK, hAK⟩ : ∃ x, x = A11 := ⟨_, rfl⟩
  obtain ⟨LK, hLK⟩ : ∃ x, x = L11 := ⟨_, rfl⟩
  obtain ⟨cK, hcK⟩ : ∃ x, x = c11 := ⟨_, rfl⟩
  subst hAK hLK hcK
  obtain ⟨x0, x1, x2, x3⟩ := row4_cells hX9
  clear hX9 hY9 hZ9 ho12 hB9
  go_wp2_with fail
  clear x0 x1 x2 x3
  have hS0 : Hid (Below Wm.heap.size Wm Wm.drew) := Lib.hid (Below.refl _ _).drew
  have HXc := Lib.hid (box_cells HX.out)
  have HYc := Lib.hid (box_cells HY.out)
  refine wp_region_M (fun w' => Hid (Below Wm.heap.size Wm w')) 17 (by as_aux_lemma => kernel_rfl) ?_
  refine mAnyTake (i := 1) (v := Value.pointer (some ⟨r, 2, none⟩)) (some 33) [1, 2, 4, 5, 8, 15, 17] (by as_aux_lemma => kernel_rfl) rfl rfl (by decide) (by as_aux_lemma => kernel_rfl) rfl rfl (by as_aux_lemma => kernel_rfl) (by as_aux_lemma => kernel_rfl) (by as_aux_lemma => kernel_rfl) (fun _ _ _ h => h) (Or.inl ⟨by rfl, fun w => by go_simp⟩) hS0 ?_
  try simp only [Act.put, List.setIfInBounds_toArray, List.set_cons_zero, List.set_cons_succ]
  refine mTake (i := 2) (v := Value.slice vA nv vc) (some 34) [2, 4, 5, 8, 15, 17] (by as_aux_lemma => kernel_rfl) rfl rfl (by decide) (by as_aux_lemma => kernel_rfl) rfl rfl (by as_aux_lemma => kernel_rfl) (by as_aux_lemma => kernel_rfl) (by as_aux_lemma => kernel_rfl) (fun _ _ _ h => h) (Or.inl ⟨by rfl, fun w h => by ((obtain ⟨z0, z1, z2, z3⟩ := HXc.out _ h.out); go_simp)⟩) hS0 ?_
  try simp only [Act.put, List.setIfInBounds_toArray, List.set_cons_zero, List.set_cons_succ]
  refine mAnyTake (i := 3) (v := Value.int IntKind.i64 (i : Int)) (some 35) [3, 4, 5, 8, 15, 17] (by as_aux_lemma => kernel_rfl) rfl rfl (by decide) (by as_aux_lemma => kernel_rfl) rfl rfl (by as_aux_lemma => kernel_rfl) (by as_aux_lemma => kernel_rfl) (by as_aux_lemma => kernel_rfl) (fun _ _ _ h => h) (Or.inl ⟨by rfl, fun w => by go_simp⟩) hS0 ?_
  try simp only [Act.put, List.setIfInBounds_toArray, List.set_cons_zero, List.set_cons_succ]
  refine mAnyTake (i := 4) (v := Value.slice B3 i vc) (some 36) [4, 5, 8, 15, 17] (by as_aux_lemma => kernel_rfl) rfl rfl (by decide) (by as_aux_lemma => kernel_rfl) rfl rfl (by as_aux_lemma => kernel_rfl) (by as_aux_lemma => kernel_rfl) (by as_aux_lemma => kernel_rfl) (fun _ _ _ h => h) (Or.inl ⟨by rfl, fun w => by go_simp⟩) hS0 ?_
  try simp only [Act.put, List.setIfInBounds_toArray, List.set_cons_zero, List.set_cons_succ]
  refine mAnyTake (i := 6) (v := Value.pointer (some ⟨r + 1, 2, none⟩)) (some 38) [6, 7, 8, 15, 17] (by as_aux_lemma => kernel_rfl) rfl rfl (by decide) (by as_aux_lemma => kernel_rfl) rfl rfl (by as_aux_lemma => kernel_rfl) (by as_aux_lemma => kernel_rfl) (by as_aux_lemma => kernel_rfl) (fun _ _ _ h => h) (Or.inl ⟨by rfl, fun w => by go_simp⟩) hS0 ?_
  try simp only [Act.put, List.setIfInBounds_toArray, List.set_cons_zero, List.set_cons_succ]
  refine mTake (i := 7) (v := Value.slice vX mv vx) (some 39) [7, 8, 15, 17] (by as_aux_lemma => kernel_rfl) rfl rfl (by decide) (by as_aux_lemma => kernel_rfl) rfl rfl (by as_aux_lemma => kernel_rfl) (by as_aux_lemma => kernel_rfl) (by as_aux_lemma => kernel_rfl) (fun _ _ _ h => h) (Or.inl ⟨by rfl, fun w h => by ((obtain ⟨z0, z1, z2, z3⟩ := HYc.out _ h.out); go_simp)⟩) hS0 ?_
  try simp only [Act.put, List.setIfInBounds_toArray, List.set_cons_zero, List.set_cons_succ]
  refine mAnyTake (i := 9) (v := Value.pointer (some ⟨r, 2, none⟩)) (some 41) [9, 10, 14, 15, 17] (by as_aux_lemma => kernel_rfl) rfl rfl (by decide) (by as_aux_lemma => kernel_rfl) rfl rfl (by as_aux_lemma => kernel_rfl) (by as_aux_lemma => kernel_rfl) (by as_aux_lemma => kernel_rfl) (fun _ _ _ h => h) (Or.inl ⟨by rfl, fun w => by go_simp⟩) hS0 ?_
  try simp only [Act.put, List.setIfInBounds_toArray, List.set_cons_zero, List.set_cons_succ]
  refine mTake (i := 10) (v := Value.slice vA nv vc) (some 42) [10, 14, 15, 17] (by as_aux_lemma => kernel_rfl) rfl rfl (by decide) (by as_aux_lemma => kernel_rfl) rfl rfl (by as_aux_lemma => kernel_rfl) (by as_aux_lemma => kernel_rfl) (by as_aux_lemma => kernel_rfl) (fun _ _ _ h => h) (Or.inl ⟨by rfl, fun w h => by ((obtain ⟨z0, z1, z2, z3⟩ := HXc.out _ h.out); go_simp)⟩) hS0 ?_
  try simp only [Act.put, List.setIfInBounds_toArray, List.set_cons_zero, List.set_cons_succ]
  refine mAnyTake (i := 11) (v := Value.int IntKind.i64 (i : Int)) (some 43) [11, 13, 14, 15, 17] (by as_aux_lemma => kernel_rfl) rfl rfl (by decide) (by as_aux_lemma => kernel_rfl) rfl rfl (by as_aux_lemma => kernel_rfl) (by as_aux_lemma => kernel_rfl) (by as_aux_lemma => kernel_rfl) (fun _ _ _ h => h) (Or.inl ⟨by rfl, fun w => by go_simp⟩) hS0 ?_
  try simp only [Act.put, List.setIfInBounds_toArray, List.set_cons_zero, List.set_cons_succ]
  refine mAnyTake (i := 12) (v := Value.int IntKind.i64 (o : Int)) (some 44) [12, 13, 14, 15, 17] (by as_aux_lemma => kernel_rfl) rfl rfl (by decide) (by as_aux_lemma => kernel_rfl) rfl rfl (by as_aux_lemma => kernel_rfl) (by as_aux_lemma => kernel_rfl) (by as_aux_lemma => kernel_rfl) (fun _ _ _ h => h) (Or.inl ⟨by rfl, fun w => by go_simp⟩) hS0 ?_
  try simp only [Act.put, List.setIfInBounds_toArray, List.set_cons_zero, List.set_cons_succ]
  refine mAnyTake (i := 13) (v := Value.int IntKind.i64 (p : Int)) (some 45) [13, 14, 15, 17] (by as_aux_lemma => kernel_rfl) rfl rfl (by decide) (by as_aux_lemma => kernel_rfl) rfl rfl (by as_aux_lemma => kernel_rfl) (by as_aux_lemma => kernel_rfl) (by as_aux_lemma => kernel_rfl) (fun _ _ _ h => h) (Or.inl ⟨by rfl, fun w => by go_simp⟩) hS0 ?_
  try simp only [Act.put, List.setIfInBounds_toArray, List.set_cons_zero, List.set_cons_succ]
  refine mAnyTake (i := 14) (v := Value.slice B4 xp yp) (some 46) [14, 15, 17] (by as_aux_lemma => kernel_rfl) rfl rfl (by decide) (by as_aux_lemma => kernel_rfl) rfl rfl (by as_aux_lemma => kernel_rfl) (by as_aux_lemma => kernel_rfl) (by as_aux_lemma => kernel_rfl) (fun _ _ _ h => h) (Or.inl ⟨by rfl, fun w => by go_simp⟩) hS0 ?_
  try simp only [Act.put, List.setIfInBounds_toArray, List.set_cons_zero, List.set_cons_succ]
  refine mOne (i := 0) (by as_aux_lemma => kernel_rfl) rfl (fun K hK => ?_)
  have HK := Lib.hid hK
  clear hK
  rw [if_pos (by rfl)]
  have hba : Below Wm.drew.heap.size Wm.drew (Wm.drew.alloc (.cells #[] 30)) := (Below.refl _ _).alloc (Nat.le_refl _) _
  have hS1 : Hid (Below Wm.heap.size Wm (Wm.drew.alloc (.cells #[] 30))) := Lib.hid (hS0.out.trans (hba.mono hS0.out.size))
  have hO1 : Hid (OwnVs (Wm.drew.alloc (.cells #[] 30)) Wm.heap.size 30 (.slice (some ⟨Wm.heap.size, 0, none⟩) 0 0) []) := Lib.hid (OwnVs.lit Wm.drew Wm.heap.size (Nat.le_refl _) [] (by decide))
  go_wp2_with fail
  refine HK.out _ _ (.inr hS1) ?_
  clear HK
  try simp only [Act.put, List.setIfInBounds_toArray, List.set_cons_zero, List.set_cons_succ]
  have hV1 : Hid (ValsAt (Wm.drew.alloc (.cells #[] 30)) B3 (xs2.take i)) := Lib.hid ((HV3.out w xs2 HVx.out).below (HW9'.out.trans ((hS1.out).mono HW9'.out.size)))
  clear hba
  refine mOne (i := 5) (by as_aux_lemma => kernel_rfl) rfl (fun K hK => ?_)
  have HK := Lib.hid hK
  clear hK
  rw [if_pos (by rfl)]
  have hbs9 : Wm.heap.size ≤ _ := hS1.out.size
  refine wp_append_vals elRow _ _ (by rfl) Wm.heap.size (.slice (some ⟨Wm.heap.size, 0, none⟩) 0 0) ([]) (by rfl) hO1.out B3 i vc (xs2.take i) (by rfl) (by rw [List.length_take, HX2.out.1]; have := HNp.out; omega) (HB1.out.2.2.1) hV1.out (fun u hu => by first | exact HX2.out.2.2.1.one u (List.mem_of_mem_take hu) | exact HX2.out.2.2.1.one u (List.mem_of_mem_drop hu) | exact HX2.out.2.2.2.one u hu) (by have := HNs.out; have := HL.out; have := HX2.out; have := HNp.out; simp only [List.length_append, List.length_take, List.length_drop, List.length_nil, strs_length, ints_length]; omega) hbs9 ?_
  intro v9 w9 H9
  have hS9 : Hid (Below Wm.heap.size Wm w9) := Lib.hid (hS1.out.grown H9.out.2 hbs9 (fun k hk => (hO1.out.lt k hk).1))
  have hO9 := Lib.hid H9.out.1
  obtain ⟨A9, c9, hv9, _⟩ := hO9.out.sl
  obtain ⟨L9, hL9⟩ : ∃ L, ([] ++ xs2.take i).length = L := ⟨_, rfl⟩
  have HL9 := Lib.hid hL9
  rw [hL9] at hv9
  subst hv9
  clear hL9 H9
  refine HK.out _ _ (.inr hS9) ?_
  clear HK
  try simp only [Act.put, List.setIfInBounds_toArray, List.set_cons_zero, List.set_cons_succ]
  have hV2 : Hid (ValsAt w9 vX (ys2)) := Lib.hid (HVy.out.below (HW9'.out.trans ((hS9.out).mono HW9'.out.size)))
  refine mOne (i := 8) (by as_aux_lemma => kernel_rfl) rfl (fun K hK => ?_)
  have HK := Lib.hid hK
  clear hK
  rw [if_pos (by rfl)]
  have hbs10 : Wm.heap.size ≤ _ := hS9.out.size
  refine wp_append_vals elRow _ _ (by rfl) Wm.heap.size (.slice A9 L9 c9) ([] ++ xs2.take i) (by rfl) hO9.out vX mv vx (ys2) (by rfl) (HX2.out.2.1.symm) (HMA.out.vn.1) hV2.out (fun u hu => by first | exact HX2.out.2.2.1.one u (List.mem_of_mem_take hu) | exact HX2.out.2.2.1.one u (List.mem_of_mem_drop hu) | exact HX2.out.2.2.2.one u hu) (by have := HNs.out; have := HL.out; have := HX2.out; have := HNp.out; simp only [List.length_append, List.length_take, List.length_drop, List.length_nil, strs_length, ints_length]; omega) hbs10 ?_
  intro v10 w10 H10
  have hS10 : Hid (Below Wm.heap.size Wm w10) := Lib.hid (hS9.out.grown H10.out.2 hbs10 (fun k hk => (hO9.out.lt k hk).1))
  have hO10 := Lib.hid H10.out.1
  obtain ⟨A10, c10, hv10, _⟩ := hO10.out.sl
  obtain ⟨L10, hL10⟩ : ∃ L, ([] ++ xs2.take i ++ ys2).length = L := ⟨_, rfl⟩
  have HL10 := Lib.hid hL10
  rw [hL10] at hv10
  subst hv10
  clear hL10 H10
  refine HK.out _ _ (.inr hS10) ?_
  clear HK
  try simp only [Act.put, List.setIfInBounds_toArray, List.set_cons_zero, List.set_cons_succ]
  have hV3 : Hid (ValsAt w10 B4 (xs2.drop p)) := Lib.hid ((HV4.out w xs2 HX2.out.1 HVx.out).below (HW9'.out.trans ((hS10.out).mono HW9'.out.size)))
  refine mOne (i := 15) (by as_aux_lemma => kernel_rfl) rfl (fun K hK => ?_)
  have HK := Lib.hid hK
  clear hK
  rw [if_pos (by rfl)]
  have hbs11 : Wm.heap.size ≤ _ := hS10.out.size
  refine wp_append_vals elRow _ _ (by rfl) Wm.heap.size (.slice A10 L10 c10) ([] ++ xs2.take i ++ ys2) (by rfl) hO10.out B4 xp yp (xs2.drop p) (by rfl) (by rw [List.length_drop, HX2.out.1]; exact HNp.out.1.symm |> fun _ => HNp.out.2.1.symm) (HB1.out.2.2.2) hV3.out (fun u hu => by first | exact HX2.out.2.2.1.one u (List.mem_of_mem_take hu) | exact HX2.out.2.2.1.one u (List.mem_of_mem_drop hu) | exact HX2.out.2.2.2.one u hu) (by have := HNs.out; have := HL.out; have := HX2.out; have := HNp.out; simp only [List.length_append, List.length_take, List.length_drop, List.length_nil, strs_length, ints_length]; omega) hbs11 ?_
  intro v11 w11 H11
  have hS11 : Hid (Below Wm.heap.size Wm w11) := Lib.hid (hS10.out.grown H11.out.2 hbs11 (fun k hk => (hO10.out.lt k hk).1))
  have hO11 := Lib.hid H11.out.1
  obtain ⟨A11, c11, hv11, _⟩ := hO11.out.sl
  obtain ⟨L11, hL11⟩ : ∃ L, ([] ++ xs2.take i ++ ys2 ++ xs2.drop p).length = L := ⟨_, rfl⟩
  have HL11 := Lib.hid hL11
  rw [hL11] at hv11
  subst hv11
  clear hL11 H11
  refine HK.out _ _ (.inr hS11) ?_
  clear HK
  try simp only [Act.put, List.setIfInBounds_toArray, List.set_cons_zero, List.set_cons_succ]
  refine mOne (i := 16) (by as_aux_lemma => kernel_rfl) rfl (fun K hK => ?_)
  have HK := Lib.hid hK
  clear hK
  rw [if_pos (by rfl)]
  go_wp2_with fail
  refine HK.out _ _ (.inr hS11) ?_
  clear HK
  try simp only [Act.put, List.setIfInBounds_toArray, List.set_cons_zero, List.set_cons_succ]
  have ho11 := (hS11.out.block (r + 1 + 1 + 1) (by have := HS9.out; omega)).trans HO.out
  obtain ⟨f0, f1, f2, f3⟩ := row4_frozen ho11
  obtain ⟨x0, x1, x2, x3⟩ := row4_cells ho11
  refine mOne (i := 17) (by as_aux_lemma => kernel_rfl) rfl (fun K hK => ?_)
  have HK := Lib.hid hK
  clear hK
  rw [if_pos (by rfl)]
  go_wp2_with fail
  refine HK.out _ _ (by simp) ?_
  clear HK
  try simp only [Act.put, List.setIfInBounds_toArray, List.set_cons_zero, List.set_cons_succ]
  refine mDone (by as_aux_lemma => kernel_rfl) ?_ _
  clear x0 x1 x2 x3 f0 f1 f2 f3
  have k12 : Kept (· = r + 1 + 1 + 1) w11 (w11.setCell ⟨r + 1 + 1 + 1, 2, none⟩ (.slice A11 L11 c11)) := Kept.set1 w11 (r + 1 + 1 + 1) 2 _
  have ho12 := row4_set2 ho11 (.slice A11 L11 c11)
  have hty : ∀ k cs t fz, k = r + 1 + 1 + 1 → w11.heap[k]? = some (.cells cs t fz) → t = 26 := fun k cs t fz e hc => by
    rw [e, ho11] at hc; injection hc with hc; injection hc with _ h4 _; exact h4.symm
  have hK12 := hO11.out.keptT k12 (fun k cs hS hc => absurd (hty _ _ _ _ hS hc) (by decide))
  have hKa12 := (HKa.out.below hS11.out).keptT k12 (fun k cs hS hc => absurd (hty _ _ _ _ hS hc) (by decide))
  have hb12 : Below (r + 3) Wm (w11.setCell ⟨r + 1 + 1 + 1, 2, none⟩ (.slice A11 L11 c11)) := (hS11.out.mono (by have := HS9.out; omega)).trans (k12.below (by have := hS11.out.size; have := HS9.out; omega) (fun k hk e => by have e' : k = r + 1 + 1 + 1 := e; omega))
  obtain ⟨w13, hw13⟩ : ∃ x, w11.setCell ⟨r + 1 + 1 + 1, 2, none⟩ (.slice A11 L11 c11) = x := ⟨_, rfl⟩
  rw [hw13] at ho12 hK12 hKa12 hb12 ⊢
  have hZ13 := (hb12.block (r + 1 + 1) (by have := HS9.out; omega)).trans HZ.out
  have HZ13 := Lib.hid hZ13
  have HKb := Lib.hid hK12
  have HKc := Lib.hid hKa12
  have HB13 : Hid (Below r w w13) := HB.out.trans (hb12.mono (by omega))
  have HLb := Lib.hid HL11.out
  obtain ⟨x0, x1, x2, x3⟩ := row4_cells ho12
  obtain ⟨y0, y1, y2, y3⟩ := row4_cells hZ13
  obtain ⟨f0, f1, f2, f3⟩ := row4_frozen hZ13
  clear HX HY HO HXc HYc hS0 hS1 hS9 hS10 hS11 hO1 hO9 hO10 hO11 hV1 hV2 hV3 HL9 HL10 HL11 hw13 k12 hty hK12 hKa12 hb12 ho11 HB hbs9 hbs10 hbs11 HV3 HV4 ho12 hZ13
  go_wp2_with fail
  obtain ⟨g1, g2⟩ := row4_put HZ13.out (.bool true) (.slice AK LK cK) (.slice A11 L11 c11) (.slice none 0 0)
  refine bodyPost_ret_by (results_cell1 rfl _ rfl (run_retNodeR g1)) rfl ?_
  have htz : ∀ k cs t fz, k = r + 1 + 1 → w13.heap[k]? = some (.cells cs t fz) → t = 26 := fun k cs t fz e hc => by
    rw [e, HZ13.out] at hc; injection hc with hc; injection hc with _ h4 _; exact h4.symm
  have hKc := HKc.out.keptT g2 (fun k cs hS hc => absurd (htz _ _ _ _ hS hc) (by decide))
  have hKb := HKb.out.keptT g2 (fun k cs hS hc => absurd (htz _ _ _ _ hS hc) (by decide))
  have hBf := HB13.out.trans (g2.below (by have := (Array.getElem?_eq_some_iff.1 HZ13.out).1; omega) (fun k hk e => by have e' : k = r + 1 + 1 := e; omega))
  have hBw := (show ∀ x, Below r w x → Below w.heap.size w x from fun x hx => by rw [HR0.out]; exact hx) _ hBf
  obtain ⟨e1, u1, n1, l1, m1⟩ := hKc.at'
  obtain ⟨e2, u2, n2, l2, m2⟩ := hKb.at'
  have hM : changeM ⟨true, ks, vs, is⟩ i o ⟨lm, ls, us', js⟩ = ⟨true, ks.take i ++ ls ++ ks.drop p, vs.take i ++ us' ++ vs.drop p, []⟩ := by unfold changeM; rw [HP.out]; rfl
  rw [hM]
  have hrr : RowsR w (xs2.take i ++ ys2 ++ xs2.drop p) (vs.take i ++ us' ++ vs.drop p) := ((HX2.out.2.2.1.take i).append HX2.out.2.2.2).append (HX2.out.2.2.1.drop p)
  rw [List.nil_append] at e2 u2
  have hll := hrr.len
  refine ⟨AK, cK, A11, c11, none, 0, ?_, ⟨⟨u1, (hrr.below hBw).rows u2, ValsAt.nil _ _, ⟨n1, ?_, m1⟩, ⟨n2, ?_, m2⟩, ⟨fun _ => rfl, Nat.le_refl _, by omega⟩⟩, fun h0 => hKb.typed (by rw [List.nil_append, hll]; exact h0)⟩, hBw⟩
  · simp only [List.length_nil]
    rw [← hll, ← e2, show (ks.take i ++ ls ++ ks.drop p).length = LK from by rw [← HLa.out, strs_length]]
  · show (ks.take i ++ ls ++ ks.drop p).length ≤ cK
    rw [show (ks.take i ++ ls ++ ks.drop p).length = LK from by rw [← HLa.out, strs_length]]; exact l1
  · show (vs.take i ++ us' ++ vs.drop p).length ≤ c11
    rw [← hll, ← e2]; exact l2
set_option maxRecDepth 10000 in
set_option maxHeartbeats 8000000 in
theorem Change_inner {w : World} {ks vs ls us' : List (List UInt8)} {is js : List Int} {lm : Bool} {kA : Option Addr} {kc : Nat} {vA : Option Addr} {vc : Nat} {iA : Option Addr} {ic : Nat} {kX : Option Addr} {kx : Nat} {vX : Option Addr} {vx : Nat} {iX : Option Addr} {ix : Nat} (h : NodeAt w ⟨false, ks, vs, is⟩ kA kc vA vc iA ic) (h' : NodeAt w ⟨lm, ls, us', js⟩ kX kx vX vx iX ix) (i o : Nat) (hk : i + o ≤ ks.length) (hv : i + o ≤ is.length) (hs : ks.length ≤ 2000 ∧ vs.length ≤ 2000 ∧ is.length ≤ 2000 ∧ ls.length ≤ 2000 ∧ us'.length ≤ 2000 ∧ js.length ≤ 2000) :
    Calls Tryd.prog 60 #[.agg #[.bool false, .slice kA ks.length kc, .slice vA vs.length vc, .slice iA is.length ic], .int .i64 (i : Int), .int .i64 (o : Int), .agg #[.bool lm, .slice kX ls.length kx, .slice vX us'.length vx, .slice iX js.length ix]] w fun e w' => ∃ kB kd vB vd iB id, e = .returned (.agg #[.bool false, .slice kB (changeM ⟨false, ks, vs, is⟩ i o ⟨lm, ls, us', js⟩).keys.length kd, .slice vB (changeM ⟨false, ks, vs, is⟩ i o ⟨lm, ls, us', js⟩).vals.length vd, .slice iB (changeM ⟨false, ks, vs, is⟩ i o ⟨lm, ls, us', js⟩).kids.length id]) ∧ Hid (NodeT w' (changeM ⟨false, ks, vs, is⟩ i o ⟨lm, ls, us', js⟩) kB kd vB vd iB id ∧ Below w.heap.size w w') := by
  obtain ⟨xs2, hx2l, hx2, hx2r⟩ := RowsR.of h.v
  obtain ⟨ys2, hy2l, hy2, hy2r⟩ := RowsR.of h'.v
  simp only at hx2l hy2l hx2r hy2r
  have hs1 : ∀ w, (Go.sizeOf (Tryd.prog.elem 22)).run Tryd.prog w = .ok 1 w := fun w => by kernel_rfl
  have hs2 : ∀ w, (Go.sizeOf (Tryd.prog.elem 24)).run Tryd.prog w = .ok 1 w := fun w => by kernel_rfl
  obtain ⟨B1, r1, b1, v1⟩ := run_head (n := ks.length) Tryd.underlying22 hs1 (A := kA) (c := kc) (i := i) (by omega) h.kn.2.1 h.kn.1
  obtain ⟨B2, r2, b2, v2⟩ := run_suf (n := ks.length) Tryd.underlying22 hs1 (A := kA) (c := kc) (i := i + o) hk h.kn.2.1 h.kn.1
  obtain ⟨B3, r3, b3, v3⟩ := run_head (n := is.length) Tryd.underlying24 hs2 (A := iA) (c := ic) (i := i) (by omega) h.inn.2.1 h.inn.1
  obtain ⟨B4, r4, b4, v4⟩ := run_suf (n := is.length) Tryd.underlying24 hs2 (A := iA) (c := ic) (i := i + o) hv h.inn.2.1 h.inn.1
  obtain ⟨p, hp⟩ : ∃ p, i + o = p := ⟨_, rfl⟩
  rw [hp] at hk hv r2 b2 v2 r4 b4 v4
  have hpw : IntKind.i64.wrap ((i : Int) + (o : Int)) = (p : Int) := by rw [IntWalk.i64_in _ (by omega)]; omega
  have hip : i ≤ p := by omega
  have HP := Lib.hid hp
  obtain ⟨nk, hnk⟩ : ∃ k, ks.length = k := ⟨_, rfl⟩
  obtain ⟨nv, hnv⟩ : ∃ k, vs.length = k := ⟨_, rfl⟩
  obtain ⟨ni, hni⟩ : ∃ k, is.length = k := ⟨_, rfl⟩
  obtain ⟨mk, hmk⟩ : ∃ k, ls.length = k := ⟨_, rfl⟩
  obtain ⟨mv, hmv⟩ : ∃ k, us'.length = k := ⟨_, rfl⟩
  obtain ⟨mi, hmi⟩ : ∃ k, js.length = k := ⟨_, rfl⟩
  have HL : Hid (ks.length = nk ∧ vs.length = nv ∧ is.length = ni ∧ ls.length = mk ∧ us'.length = mv ∧ js.length = mi) := ⟨hnk, hnv, hni, hmk, hmv, hmi⟩
  have HX2 : Hid (xs2.length = nv ∧ ys2.length = mv ∧ RowsR w xs2 vs ∧ RowsR w ys2 us') := ⟨by rw [hx2l, hnv], by rw [hy2l, hmv], hx2r, hy2r⟩
  have HB1 : Hid ((B1 = none → kc = 0) ∧ (B2 = none → kc - p = 0) ∧ (B3 = none → ic = 0) ∧ (B4 = none → ic - p = 0)) := ⟨b1, b2, b3, b4⟩
  have HV1 := Lib.hid v1
  have HV2 := Lib.hid v2
  have HV3 := Lib.hid v3
  have HV4 := Lib.hid v4
  rw [hnk, hnv, hni, hmk, hmv, hmi] at hs ⊢
  rw [hnk] at r1 r2 hk HV2
  rw [hni] at r3 r4 hv HV4
  have HNs := Lib.hid hs
  have HVx := Lib.hid hx2
  have HVy := Lib.hid hy2
  clear hs1 hs2 b1 b2 b3 b4 v1 v2 v3 v4 hp hx2l hy2l hx2 hx2r hy2 hy2r hnk hnv hni hmk hmv hmi
  obtain ⟨np, hnp⟩ : ∃ k, nk - p = k := ⟨_, rfl⟩
  obtain ⟨cp, hcp⟩ : ∃ k, kc - p = k := ⟨_, rfl⟩
  obtain ⟨xp, hxp⟩ : ∃ k, ni - p = k := ⟨_, rfl⟩
  obtain ⟨yp, hyp⟩ : ∃ k, ic - p = k := ⟨_, rfl⟩
  rw [hnp, hcp] at r2
  rw [hxp, hyp] at r4
  have HNp : Hid (nk - p = np ∧ ni - p = xp ∧ p ≤ nk ∧ p ≤ ni) := ⟨hnp, hxp, hk, hv⟩
  rw [hcp, hyp] at HB1
  clear hnp hcp hxp hyp hs hk hv
  obtain ⟨h1, hr2, hr3⟩ := node2_boxT w (.bool false) (.slice kA nk kc) (.slice vA nv vc) (.slice iA ni ic) (.bool lm) (.slice kX mk kx) (.slice vX mv vx) (.slice iX mi ix) 26
  obtain ⟨W0, hW0⟩ : ∃ x, (w.alloc (.cells #[.bool false, .slice kA nk kc, .slice vA nv vc, .slice iA ni ic] 26)).alloc (.cells #[.bool lm, .slice kX mk kx, .slice vX mv vx, .slice iX mi ix] 26) = x := ⟨_, rfl⟩
  rw [hW0] at h1 hr2 hr3
  have hs0 : W0.heap.size = w.heap.size + 2 := by rw [← hW0]; simp
  have hb2 : Below W0.heap.size W0 (W0.alloc (.cells #[.bool false, .slice none 0 0, .slice none 0 0, .slice none 0 0] 26)) := (Below.refl _ _).alloc (Nat.le_refl _) _
  have hr4 := heap_alloc_new W0 (.cells #[.bool false, .slice none 0 0, .slice none 0 0, .slice none 0 0] 26)
  have hx1 := (hb2.block _ (by omega)).trans hr2
  have hy1 := (hb2.block _ (by omega)).trans hr3
  obtain ⟨W1, hW1⟩ : ∃ x, W0.alloc (.cells #[.bool false, .slice none 0 0, .slice none 0 0, .slice none 0 0] 26) = x := ⟨_, rfl⟩
  rw [hW1] at hb2 hr4 hx1 hy1
  rw [hs0] at hr4
  have hs1 : W1.heap.size = w.heap.size + 3 := by rw [← hW1]; simp [hs0]
  have hW1' : ((w.alloc (.cells #[.bool false, .slice kA nk kc, .slice vA nv vc, .slice iA ni ic] 26)).alloc (.cells #[.bool lm, .slice kX mk kx, .slice vX mv vx, .slice iX mi ix] 26)).alloc (.cells #[.bool false, .slice none 0 0, .slice none 0 0, .slice none 0 0] 26) = W1 := by rw [hW0]; exact hW1
  have hbw : Below w.heap.size w W1 := h1.trans (hb2.mono (by omega))
  obtain ⟨r, hr0⟩ : ∃ r, w.heap.size = r := ⟨_, rfl⟩
  rw [hr0] at hr4 hx1 hy1 hbw hs1
  have hb3 : Below W1.heap.size W1 (W1.alloc (.cells #[.bool false, .slice none 0 0, .slice none 0 0, .slice none 0 0] 26)) := (Below.refl _ _).alloc (Nat.le_refl _) _
  have hr5 := heap_alloc_new W1 (.cells #[.bool false, .slice none 0 0, .slice none 0 0, .slice none 0 0] 26)
  have hx1' := (hb3.block r (by omega)).trans hx1
  have hy1' := (hb3.block (r + 1) (by omega)).trans hy1
  have hr4' := (hb3.block (r + 1 + 1) (by omega)).trans hr4
  have hbw' := hbw.trans (hb3.mono (by omega))
  obtain ⟨x0, x1, x2, x3⟩ := row4_cells hx1
  have HW1 := Lib.hid hW1'
  obtain ⟨W2, hW2⟩ : ∃ x, W1.alloc (.cells #[.bool false, .slice none 0 0, .slice none 0 0, .slice none 0 0] 26) = x := ⟨_, rfl⟩
  rw [hW2] at hr5 hx1' hy1' hr4' hbw'
  rw [hs1] at hr5
  have HS2 : Hid (W2.heap.size = r + 4) := by show _ = _; rw [← hW2]; simp [hs1]
  have HS1 := Lib.hid hs1
  have HX := Lib.hid hx1'
  have HY := Lib.hid hy1'
  have HZ := Lib.hid hr4'
  have HO := Lib.hid hr5
  have HB := Lib.hid hbw'
  have HR0 := Lib.hid hr0
  have HW2 := Lib.hid hW2
  have HW0' : Hid (Below w.heap.size w W2) := by show Below _ _ _; rw [hr0]; exact hbw'
  have HNA := Lib.hid h
  have HMA := Lib.hid h'
  clear h h' h1 hr2 hr3 hW0 hs0 hb2 hr4 hx1 hy1 hW1 hs1 hW1' hbw hb3 hr5 hx1' hy1' hr4' hbw' hr0 hW2
  go_enter Tryd.func60, Tryd.ntmps60
  go_wp2_with fail
  simp only [HW1.out, HR0.out]
  go_wp2_with fail
  simp only [HS1.out, HW2.out]
  clear x0 x1 x2 x3
  have hS0 : Hid (Below W2.heap.size W2 W2.drew) := Lib.hid (Below.refl _ _).drew
  have HXc := Lib.hid (box_cells HX.out)
  have HYc := Lib.hid (box_cells HY.out)
  refine wp_region_M (fun w' => Hid (Below W2.heap.size W2 w')) 17 (by as_aux_lemma => kernel_rfl) ?_
  refine mAnyTake (i := 1) (v := Value.pointer (some ⟨r, 1, none⟩)) (some 14) [1, 2, 4, 5, 8, 15, 17] (by as_aux_lemma => kernel_rfl) rfl rfl (by decide) (by as_aux_lemma => kernel_rfl) rfl rfl (by as_aux_lemma => kernel_rfl) (by as_aux_lemma => kernel_rfl) (by as_aux_lemma => kernel_rfl) (fun _ _ _ h => h) (Or.inl ⟨by rfl, fun w => by go_simp⟩) hS0 ?_
  try simp only [Act.put, List.setIfInBounds_toArray, List.set_cons_zero, List.set_cons_succ]
  refine mTake (i := 2) (v := Value.slice kA nk kc) (some 15) [2, 4, 5, 8, 15, 17] (by as_aux_lemma => kernel_rfl) rfl rfl (by decide) (by as_aux_lemma => kernel_rfl) rfl rfl (by as_aux_lemma => kernel_rfl) (by as_aux_lemma => kernel_rfl) (by as_aux_lemma => kernel_rfl) (fun _ _ _ h => h) (Or.inl ⟨by rfl, fun w h => by ((obtain ⟨z0, z1, z2, z3⟩ := HXc.out _ h.out); go_simp)⟩) hS0 ?_
  try simp only [Act.put, List.setIfInBounds_toArray, List.set_cons_zero, List.set_cons_succ]
  refine mAnyTake (i := 3) (v := Value.int IntKind.i64 (i : Int)) (some 16) [3, 4, 5, 8, 15, 17] (by as_aux_lemma => kernel_rfl) rfl rfl (by decide) (by as_aux_lemma => kernel_rfl) rfl rfl (by as_aux_lemma => kernel_rfl) (by as_aux_lemma => kernel_rfl) (by as_aux_lemma => kernel_rfl) (fun _ _ _ h => h) (Or.inl ⟨by rfl, fun w => by go_simp⟩) hS0 ?_
  try simp only [Act.put, List.setIfInBounds_toArray, List.set_cons_zero, List.set_cons_succ]
  refine mAnyTake (i := 4) (v := Value.slice B1 i kc) (some 17) [4, 5, 8, 15, 17] (by as_aux_lemma => kernel_rfl) rfl rfl (by decide) (by as_aux_lemma => kernel_rfl) rfl rfl (by as_aux_lemma => kernel_rfl) (by as_aux_lemma => kernel_rfl) (by as_aux_lemma => kernel_rfl) (fun _ _ _ h => h) (Or.inl ⟨by rfl, fun w => by go_simp⟩) hS0 ?_
  try simp only [Act.put, List.setIfInBounds_toArray, List.set_cons_zero, List.set_cons_succ]
  refine mAnyTake (i := 6) (v := Value.pointer (some ⟨r + 1, 1, none⟩)) (some 19) [6, 7, 8, 15, 17] (by as_aux_lemma => kernel_rfl) rfl rfl (by decide) (by as_aux_lemma => kernel_rfl) rfl rfl (by as_aux_lemma => kernel_rfl) (by as_aux_lemma => kernel_rfl) (by as_aux_lemma => kernel_rfl) (fun _ _ _ h => h) (Or.inl ⟨by rfl, fun w => by go_simp⟩) hS0 ?_
  try simp only [Act.put, List.setIfInBounds_toArray, List.set_cons_zero, List.set_cons_succ]
  refine mTake (i := 7) (v := Value.slice kX mk kx) (some 20) [7, 8, 15, 17] (by as_aux_lemma => kernel_rfl) rfl rfl (by decide) (by as_aux_lemma => kernel_rfl) rfl rfl (by as_aux_lemma => kernel_rfl) (by as_aux_lemma => kernel_rfl) (by as_aux_lemma => kernel_rfl) (fun _ _ _ h => h) (Or.inl ⟨by rfl, fun w h => by ((obtain ⟨z0, z1, z2, z3⟩ := HYc.out _ h.out); go_simp)⟩) hS0 ?_
  try simp only [Act.put, List.setIfInBounds_toArray, List.set_cons_zero, List.set_cons_succ]
  refine mAnyTake (i := 9) (v := Value.pointer (some ⟨r, 1, none⟩)) (some 22) [9, 10, 14, 15, 17] (by as_aux_lemma => kernel_rfl) rfl rfl (by decide) (by as_aux_lemma => kernel_rfl) rfl rfl (by as_aux_lemma => kernel_rfl) (by as_aux_lemma => kernel_rfl) (by as_aux_lemma => kernel_rfl) (fun _ _ _ h => h) (Or.inl ⟨by rfl, fun w => by go_simp⟩) hS0 ?_
  try simp only [Act.put, List.setIfInBounds_toArray, List.set_cons_zero, List.set_cons_succ]
  refine mTake (i := 10) (v := Value.slice kA nk kc) (some 23) [10, 14, 15, 17] (by as_aux_lemma => kernel_rfl) rfl rfl (by decide) (by as_aux_lemma => kernel_rfl) rfl rfl (by as_aux_lemma => kernel_rfl) (by as_aux_lemma => kernel_rfl) (by as_aux_lemma => kernel_rfl) (fun _ _ _ h => h) (Or.inl ⟨by rfl, fun w h => by ((obtain ⟨z0, z1, z2, z3⟩ := HXc.out _ h.out); go_simp)⟩) hS0 ?_
  try simp only [Act.put, List.setIfInBounds_toArray, List.set_cons_zero, List.set_cons_succ]
  refine mAnyTake (i := 11) (v := Value.int IntKind.i64 (i : Int)) (some 24) [11, 13, 14, 15, 17] (by as_aux_lemma => kernel_rfl) rfl rfl (by decide) (by as_aux_lemma => kernel_rfl) rfl rfl (by as_aux_lemma => kernel_rfl) (by as_aux_lemma => kernel_rfl) (by as_aux_lemma => kernel_rfl) (fun _ _ _ h => h) (Or.inl ⟨by rfl, fun w => by go_simp⟩) hS0 ?_
  try simp only [Act.put, List.setIfInBounds_toArray, List.set_cons_zero, List.set_cons_succ]
  refine mAnyTake (i := 12) (v := Value.int IntKind.i64 (o : Int)) (some 25) [12, 13, 14, 15, 17] (by as_aux_lemma => kernel_rfl) rfl rfl (by decide) (by as_aux_lemma => kernel_rfl) rfl rfl (by as_aux_lemma => kernel_rfl) (by as_aux_lemma => kernel_rfl) (by as_aux_lemma => kernel_rfl) (fun _ _ _ h => h) (Or.inl ⟨by rfl, fun w => by go_simp⟩) hS0 ?_
  try simp only [Act.put, List.setIfInBounds_toArray, List.set_cons_zero, List.set_cons_succ]
  refine mAnyTake (i := 13) (v := Value.int IntKind.i64 (p : Int)) (some 26) [13, 14, 15, 17] (by as_aux_lemma => kernel_rfl) rfl rfl (by decide) (by as_aux_lemma => kernel_rfl) rfl rfl (by as_aux_lemma => kernel_rfl) (by as_aux_lemma => kernel_rfl) (by as_aux_lemma => kernel_rfl) (fun _ _ _ h => h) (Or.inl ⟨by rfl, fun w => by go_simp⟩) hS0 ?_
  try simp only [Act.put, List.setIfInBounds_toArray, List.set_cons_zero, List.set_cons_succ]
  refine mAnyTake (i := 14) (v := Value.slice B2 np cp) (some 27) [14, 15, 17] (by as_aux_lemma => kernel_rfl) rfl rfl (by decide) (by as_aux_lemma => kernel_rfl) rfl rfl (by as_aux_lemma => kernel_rfl) (by as_aux_lemma => kernel_rfl) (by as_aux_lemma => kernel_rfl) (fun _ _ _ h => h) (Or.inl ⟨by rfl, fun w => by go_simp⟩) hS0 ?_
  try simp only [Act.put, List.setIfInBounds_toArray, List.set_cons_zero, List.set_cons_succ]
  refine mOne (i := 0) (by as_aux_lemma => kernel_rfl) rfl (fun K hK => ?_)
  have HK := Lib.hid hK
  clear hK
  rw [if_pos (by rfl)]
  have hba : Below W2.drew.heap.size W2.drew (W2.drew.alloc (.cells #[] 9)) := (Below.refl _ _).alloc (Nat.le_refl _) _
  have hS1 : Hid (Below W2.heap.size W2 (W2.drew.alloc (.cells #[] 9))) := Lib.hid (hS0.out.trans (hba.mono hS0.out.size))
  have hO1 : Hid (OwnVs (W2.drew.alloc (.cells #[] 9)) W2.heap.size 9 (.slice (some ⟨W2.heap.size, 0, none⟩) 0 0) []) := Lib.hid (OwnVs.lit W2.drew W2.heap.size (Nat.le_refl _) [] (by decide))
  go_wp2_with fail
  refine HK.out _ _ (.inr hS1) ?_
  clear HK
  try simp only [Act.put, List.setIfInBounds_toArray, List.set_cons_zero, List.set_cons_succ]
  have hV1 : Hid (ValsAt (W2.drew.alloc (.cells #[] 9)) B1 (strs (ks.take i))) := Lib.hid (by have := HV1.out w (strs ks) HNA.out.k; rw [strs_take] at this; exact this.below (HW0'.out.trans ((hS1.out).mono HW0'.out.size)))
  clear hba
  refine mOne (i := 5) (by as_aux_lemma => kernel_rfl) rfl (fun K hK => ?_)
  have HK := Lib.hid hK
  clear hK
  rw [if_pos (by rfl)]
  have hbs9 : W2.heap.size ≤ _ := hS1.out.size
  refine wp_append_vals elStr _ _ (by rfl) W2.heap.size (.slice (some ⟨W2.heap.size, 0, none⟩) 0 0) ([]) (by rfl) hO1.out B1 i kc (strs (ks.take i)) (by rfl) (by rw [strs_length, List.length_take]; have := HL.out; have := HNp.out; omega) (HB1.out.1) hV1.out (strs_one _) (by have := HNs.out; have := HL.out; have := HX2.out; have := HNp.out; simp only [List.length_append, List.length_take, List.length_drop, List.length_nil, strs_length, ints_length]; omega) hbs9 ?_
  intro v9 w9 H9
  have hS9 : Hid (Below W2.heap.size W2 w9) := Lib.hid (hS1.out.grown H9.out.2 hbs9 (fun k hk => (hO1.out.lt k hk).1))
  have hO9 := Lib.hid H9.out.1
  obtain ⟨A9, c9, hv9, _⟩ := hO9.out.sl
  obtain ⟨L9, hL9⟩ : ∃ L, ([] ++ strs (ks.take i)).length = L := ⟨_, rfl⟩
  have HL9 := Lib.hid hL9
  rw [hL9] at hv9
  subst hv9
  clear hL9 H9
  refine HK.out _ _ (.inr hS9) ?_
  clear HK
  try simp only [Act.put, List.setIfInBounds_toArray, List.set_cons_zero, List.set_cons_succ]
  have hV2 : Hid (ValsAt w9 kX (strs ls)) := Lib.hid (HMA.out.k.below (HW0'.out.trans ((hS9.out).mono HW0'.out.size)))
  refine mOne (i := 8) (by as_aux_lemma => kernel_rfl) rfl (fun K hK => ?_)
  have HK := Lib.hid hK
  clear hK
  rw [if_pos (by rfl)]
  have hbs10 : W2.heap.size ≤ _ := hS9.out.size
  refine wp_append_vals elStr _ _ (by rfl) W2.heap.size (.slice A9 L9 c9) ([] ++ strs (ks.take i)) (by rfl) hO9.out kX mk kx (strs ls) (by rfl) (by rw [strs_length]; exact HL.out.2.2.2.1.symm) (HMA.out.kn.1) hV2.out (strs_one _) (by have := HNs.out; have := HL.out; have := HX2.out; have := HNp.out; simp only [List.length_append, List.length_take, List.length_drop, List.length_nil, strs_length, ints_length]; omega) hbs10 ?_
  intro v10 w10 H10
  have hS10 : Hid (Below W2.heap.size W2 w10) := Lib.hid (hS9.out.grown H10.out.2 hbs10 (fun k hk => (hO9.out.lt k hk).1))
  have hO10 := Lib.hid H10.out.1
  obtain ⟨A10, c10, hv10, _⟩ := hO10.out.sl
  obtain ⟨L10, hL10⟩ : ∃ L, ([] ++ strs (ks.take i) ++ strs ls).length = L := ⟨_, rfl⟩
  have HL10 := Lib.hid hL10
  rw [hL10] at hv10
  subst hv10
  clear hL10 H10
  refine HK.out _ _ (.inr hS10) ?_
  clear HK
  try simp only [Act.put, List.setIfInBounds_toArray, List.set_cons_zero, List.set_cons_succ]
  have hV3 : Hid (ValsAt w10 B2 (strs (ks.drop p))) := Lib.hid (by have := HV2.out w (strs ks) (by rw [strs_length]; exact HL.out.1) HNA.out.k; rw [strs_drop] at this; exact this.below (HW0'.out.trans ((hS10.out).mono HW0'.out.size)))
  refine mOne (i := 15) (by as_aux_lemma => kernel_rfl) rfl (fun K hK => ?_)
  have HK := Lib.hid hK
  clear hK
  rw [if_pos (by rfl)]
  have hbs11 : W2.heap.size ≤ _ := hS10.out.size
  refine wp_append_vals elStr _ _ (by rfl) W2.heap.size (.slice A10 L10 c10) ([] ++ strs (ks.take i) ++ strs ls) (by rfl) hO10.out B2 np cp (strs (ks.drop p)) (by rfl) (by rw [strs_length, List.length_drop]; have := HL.out; have := HNp.out; omega) (HB1.out.2.1) hV3.out (strs_one _) (by have := HNs.out; have := HL.out; have := HX2.out; have := HNp.out; simp only [List.length_append, List.length_take, List.length_drop, List.length_nil, strs_length, ints_length]; omega) hbs11 ?_
  intro v11 w11 H11
  have hS11 : Hid (Below W2.heap.size W2 w11) := Lib.hid (hS10.out.grown H11.out.2 hbs11 (fun k hk => (hO10.out.lt k hk).1))
  have hO11 := Lib.hid H11.out.1
  obtain ⟨A11, c11, hv11, _⟩ := hO11.out.sl
  obtain ⟨L11, hL11⟩ : ∃ L, ([] ++ strs (ks.take i) ++ strs ls ++ strs (ks.drop p)).length = L := ⟨_, rfl⟩
  have HL11 := Lib.hid hL11
  rw [hL11] at hv11
  subst hv11
  clear hL11 H11
  refine HK.out _ _ (.inr hS11) ?_
  clear HK
  try simp only [Act.put, List.setIfInBounds_toArray, List.set_cons_zero, List.set_cons_succ]
  refine mOne (i := 16) (by as_aux_lemma => kernel_rfl) rfl (fun K hK => ?_)
  have HK := Lib.hid hK
  clear hK
  rw [if_pos (by rfl)]
  go_wp2_with fail
  refine HK.out _ _ (.inr hS11) ?_
  clear HK
  try simp only [Act.put, List.setIfInBounds_toArray, List.set_cons_zero, List.set_cons_succ]
  have ho11 := (hS11.out.block (r + 1 + 1 + 1) (by have := HS2.out; omega)).trans HO.out
  obtain ⟨f0, f1, f2, f3⟩ := row4_frozen ho11
  obtain ⟨x0, x1, x2, x3⟩ := row4_cells ho11
  refine mOne (i := 17) (by as_aux_lemma => kernel_rfl) rfl (fun K hK => ?_)
  have HK := Lib.hid hK
  clear hK
  rw [if_pos (by rfl)]
  go_wp2_with fail
  refine HK.out _ _ (by simp) ?_
  clear HK
  try simp only [Act.put, List.setIfInBounds_toArray, List.set_cons_zero, List.set_cons_succ]
  refine mDone (by as_aux_lemma => kernel_rfl) ?_ _
  clear x0 x1 x2 x3 f0 f1 f2 f3
  have k12 : Kept (· = r + 1 + 1 + 1) w11 (w11.setCell ⟨r + 1 + 1 + 1, 1, none⟩ (.slice A11 L11 c11)) := Kept.set1 w11 (r + 1 + 1 + 1) 1 _
  have ho12 := row4_set1 ho11 (.slice A11 L11 c11)
  have hty : ∀ k cs t fz, k = r + 1 + 1 + 1 → w11.heap[k]? = some (.cells cs t fz) → t = 26 := fun k cs t fz e hc => by
    rw [e, ho11] at hc; injection hc with hc; injection hc with _ h4 _; exact h4.symm
  have hK12 := (hO11.out.base' (show r ≤ W2.heap.size by rw [HS2.out]; omega)).keptT k12 (fun k cs hS hc => absurd (hty _ _ _ _ hS hc) (by decide))
  have hb12 : Below (r + 3) W2 (w11.setCell ⟨r + 1 + 1 + 1, 1, none⟩ (.slice A11 L11 c11)) := (hS11.out.mono (by rw [HS2.out]; omega)).trans (k12.below (by have := hS11.out.size; rw [HS2.out] at this; omega) (fun k hk e => by have e' : k = r + 1 + 1 + 1 := e; omega))
  have hs12 : r + 4 ≤ (w11.setCell ⟨r + 1 + 1 + 1, 1, none⟩ (.slice A11 L11 c11)).heap.size := Nat.le_trans (by rw [← HS2.out]; exact hS11.out.size) k12.size
  obtain ⟨Wm, hwm⟩ : ∃ x, w11.setCell ⟨r + 1 + 1 + 1, 1, none⟩ (.slice A11 L11 c11) = x := ⟨_, rfl⟩
  rw [hwm] at ho12 hK12 hb12 hs12 ⊢
  have HKa : Hid (OwnVs Wm r 9 (.slice A11 L11 c11) (strs (ks.take i ++ ls ++ ks.drop p))) := Lib.hid (by
    rw [show ([] : List Value) ++ strs (ks.take i) ++ strs ls ++ strs (ks.drop p) = strs (ks.take i ++ ls ++ ks.drop p) from by simp [strs_app]] at hK12
    exact hK12)
  have hX9 := (hb12.block r (by omega)).trans HX.out
  have hY9 := (hb12.block (r + 1) (by omega)).trans HY.out
  have hZ9 := (hb12.block (r + 1 + 1) (by omega)).trans HZ.out
  have HS9 := Lib.hid hs12
  have hB9 : Below r w Wm := HB.out.trans (hb12.mono (by omega))
  have HW9' : Hid (Below w.heap.size w Wm) := Lib.hid (by rw [HR0.out]; exact hB9)
  have HLa : Hid ((strs (ks.take i ++ ls ++ ks.drop p)).length = L11) := Lib.hid (by rw [← HL11.out]; simp [strs_app])
  clear HX HY HZ HO HXc HYc hS0 hS1 hS9 hS10 hS11 hO1 hO9 hO10 hO11 hV1 hV2 hV3 HL9 HL10 HL11 hwm k12 hty hK12 hb12 ho11 HB HW0' HS2 hbs9 hbs10 hbs11 hs12 HV1 HV2
  have HX := Lib.hid hX9
  have HY := Lib.hid hY9
  have HZ := Lib.hid hZ9
  have HO := Lib.hid ho12
  have HB := Lib.hid hB9
  obtain ⟨AK, hAK⟩ : ∃ x, x = A11 := ⟨_, rfl⟩
  obtain ⟨LK, hLK⟩ : ∃ x, x = L11 := ⟨_, rfl⟩
  obtain ⟨cK, hcK⟩ : ∃ x, x = c11 := ⟨_, rfl⟩
  subst hAK hLK hcK
  obtain ⟨x0, x1, x2, x3⟩ := row4_cells hX9
  clear hX9 hY9 hZ9 ho12 hB9
  go_wp2_with fail
  clear x0 x1 x2 x3
  have hS0 : Hid (Below Wm.heap.size Wm Wm.drew) := Lib.hid (Below.refl _ _).drew
  have HXc := Lib.hid (box_cells HX.out)
  have HYc := Lib.hid (box_cells HY.out)
  refine wp_region_M (fun w' => Hid (Below Wm.heap.size Wm w')) 17 (by as_aux_lemma => kernel_rfl) ?_
  refine mAnyTake (i := 1) (v := Value.pointer (some ⟨r, 3, none⟩)) (some 50) [1, 2, 4, 5, 8, 15, 17] (by as_aux_lemma => kernel_rfl) rfl rfl (by decide) (by as_aux_lemma => kernel_rfl) rfl rfl (by as_aux_lemma => kernel_rfl) (by as_aux_lemma => kernel_rfl) (by as_aux_lemma => kernel_rfl) (fun _ _ _ h => h) (Or.inl ⟨by rfl, fun w => by go_simp⟩) hS0 ?_
  try simp only [Act.put, List.setIfInBounds_toArray, List.set_cons_zero, List.set_cons_succ]
  refine mTake (i := 2) (v := Value.slice iA ni ic) (some 51) [2, 4, 5, 8, 15, 17] (by as_aux_lemma => kernel_rfl) rfl rfl (by decide) (by as_aux_lemma => kernel_rfl) rfl rfl (by as_aux_lemma => kernel_rfl) (by as_aux_lemma => kernel_rfl) (by as_aux_lemma => kernel_rfl) (fun _ _ _ h => h) (Or.inl ⟨by rfl, fun w h => by ((obtain ⟨z0, z1, z2, z3⟩ := HXc.out _ h.out); go_simp)⟩) hS0 ?_
  try simp only [Act.put, List.setIfInBounds_toArray, List.set_cons_zero, List.set_cons_succ]
  refine mAnyTake (i := 3) (v := Value.int IntKind.i64 (i : Int)) (some 52) [3, 4, 5, 8, 15, 17] (by as_aux_lemma => kernel_rfl) rfl rfl (by decide) (by as_aux_lemma => kernel_rfl) rfl rfl (by as_aux_lemma => kernel_rfl) (by as_aux_lemma => kernel_rfl) (by as_aux_lemma => kernel_rfl) (fun _ _ _ h => h) (Or.inl ⟨by rfl, fun w => by go_simp⟩) hS0 ?_
  try simp only [Act.put, List.setIfInBounds_toArray, List.set_cons_zero, List.set_cons_succ]
  refine mAnyTake (i := 4) (v := Value.slice B3 i ic) (some 53) [4, 5, 8, 15, 17] (by as_aux_lemma => kernel_rfl) rfl rfl (by decide) (by as_aux_lemma => kernel_rfl) rfl rfl (by as_aux_lemma => kernel_rfl) (by as_aux_lemma => kernel_rfl) (by as_aux_lemma => kernel_rfl) (fun _ _ _ h => h) (Or.inl ⟨by rfl, fun w => by go_simp⟩) hS0 ?_
  try simp only [Act.put, List.setIfInBounds_toArray, List.set_cons_zero, List.set_cons_succ]
  refine mAnyTake (i := 6) (v := Value.pointer (some ⟨r + 1, 3, none⟩)) (some 55) [6, 7, 8, 15, 17] (by as_aux_lemma => kernel_rfl) rfl rfl (by decide) (by as_aux_lemma => kernel_rfl) rfl rfl (by as_aux_lemma => kernel_rfl) (by as_aux_lemma => kernel_rfl) (by as_aux_lemma => kernel_rfl) (fun _ _ _ h => h) (Or.inl ⟨by rfl, fun w => by go_simp⟩) hS0 ?_
  try simp only [Act.put, List.setIfInBounds_toArray, List.set_cons_zero, List.set_cons_succ]
  refine mTake (i := 7) (v := Value.slice iX mi ix) (some 56) [7, 8, 15, 17] (by as_aux_lemma => kernel_rfl) rfl rfl (by decide) (by as_aux_lemma => kernel_rfl) rfl rfl (by as_aux_lemma => kernel_rfl) (by as_aux_lemma => kernel_rfl) (by as_aux_lemma => kernel_rfl) (fun _ _ _ h => h) (Or.inl ⟨by rfl, fun w h => by ((obtain ⟨z0, z1, z2, z3⟩ := HYc.out _ h.out); go_simp)⟩) hS0 ?_
  try simp only [Act.put, List.setIfInBounds_toArray, List.set_cons_zero, List.set_cons_succ]
  refine mAnyTake (i := 9) (v := Value.pointer (some ⟨r, 3, none⟩)) (some 58) [9, 10, 14, 15, 17] (by as_aux_lemma => kernel_rfl) rfl rfl (by decide) (by as_aux_lemma => kernel_rfl) rfl rfl (by as_aux_lemma => kernel_rfl) (by as_aux_lemma => kernel_rfl) (by as_aux_lemma => kernel_rfl) (fun _ _ _ h => h) (Or.inl ⟨by rfl, fun w => by go_simp⟩) hS0 ?_
  try simp only [Act.put, List.setIfInBounds_toArray, List.set_cons_zero, List.set_cons_succ]
  refine mTake (i := 10) (v := Value.slice iA ni ic) (some 59) [10, 14, 15, 17] (by as_aux_lemma => kernel_rfl) rfl rfl (by decide) (by as_aux_lemma => kernel_rfl) rfl rfl (by as_aux_lemma => kernel_rfl) (by as_aux_lemma => kernel_rfl) (by as_aux_lemma => kernel_rfl) (fun _ _ _ h => h) (Or.inl ⟨by rfl, fun w h => by ((obtain ⟨z0, z1, z2, z3⟩ := HXc.out _ h.out); go_simp)⟩) hS0 ?_
  try simp only [Act.put, List.setIfInBounds_toArray, List.set_cons_zero, List.set_cons_succ]
  refine mAnyTake (i := 11) (v := Value.int IntKind.i64 (i : Int)) (some 60) [11, 13, 14, 15, 17] (by as_aux_lemma => kernel_rfl) rfl rfl (by decide) (by as_aux_lemma => kernel_rfl) rfl rfl (by as_aux_lemma => kernel_rfl) (by as_aux_lemma => kernel_rfl) (by as_aux_lemma => kernel_rfl) (fun _ _ _ h => h) (Or.inl ⟨by rfl, fun w => by go_simp⟩) hS0 ?_
  try simp only [Act.put, List.setIfInBounds_toArray, List.set_cons_zero, List.set_cons_succ]
  refine mAnyTake (i := 12) (v := Value.int IntKind.i64 (o : Int)) (some 61) [12, 13, 14, 15, 17] (by as_aux_lemma => kernel_rfl) rfl rfl (by decide) (by as_aux_lemma => kernel_rfl) rfl rfl (by as_aux_lemma => kernel_rfl) (by as_aux_lemma => kernel_rfl) (by as_aux_lemma => kernel_rfl) (fun _ _ _ h => h) (Or.inl ⟨by rfl, fun w => by go_simp⟩) hS0 ?_
  try simp only [Act.put, List.setIfInBounds_toArray, List.set_cons_zero, List.set_cons_succ]
  refine mAnyTake (i := 13) (v := Value.int IntKind.i64 (p : Int)) (some 62) [13, 14, 15, 17] (by as_aux_lemma => kernel_rfl) rfl rfl (by decide) (by as_aux_lemma => kernel_rfl) rfl rfl (by as_aux_lemma => kernel_rfl) (by as_aux_lemma => kernel_rfl) (by as_aux_lemma => kernel_rfl) (fun _ _ _ h => h) (Or.inl ⟨by rfl, fun w => by go_simp⟩) hS0 ?_
  try simp only [Act.put, List.setIfInBounds_toArray, List.set_cons_zero, List.set_cons_succ]
  refine mAnyTake (i := 14) (v := Value.slice B4 xp yp) (some 63) [14, 15, 17] (by as_aux_lemma => kernel_rfl) rfl rfl (by decide) (by as_aux_lemma => kernel_rfl) rfl rfl (by as_aux_lemma => kernel_rfl) (by as_aux_lemma => kernel_rfl) (by as_aux_lemma => kernel_rfl) (fun _ _ _ h => h) (Or.inl ⟨by rfl, fun w => by go_simp⟩) hS0 ?_
  try simp only [Act.put, List.setIfInBounds_toArray, List.set_cons_zero, List.set_cons_succ]
  refine mOne (i := 0) (by as_aux_lemma => kernel_rfl) rfl (fun K hK => ?_)
  have HK := Lib.hid hK
  clear hK
  rw [if_pos (by rfl)]
  have hba : Below Wm.drew.heap.size Wm.drew (Wm.drew.alloc (.cells #[] 3)) := (Below.refl _ _).alloc (Nat.le_refl _) _
  have hS1 : Hid (Below Wm.heap.size Wm (Wm.drew.alloc (.cells #[] 3))) := Lib.hid (hS0.out.trans (hba.mono hS0.out.size))
  have hO1 : Hid (OwnVs (Wm.drew.alloc (.cells #[] 3)) Wm.heap.size 3 (.slice (some ⟨Wm.heap.size, 0, none⟩) 0 0) []) := Lib.hid (OwnVs.lit Wm.drew Wm.heap.size (Nat.le_refl _) [] (by decide))
  go_wp2_with fail
  refine HK.out _ _ (.inr hS1) ?_
  clear HK
  try simp only [Act.put, List.setIfInBounds_toArray, List.set_cons_zero, List.set_cons_succ]
  have hV1 : Hid (ValsAt (Wm.drew.alloc (.cells #[] 3)) B3 (ints (is.take i))) := Lib.hid (by have := HV3.out w (ints is) HNA.out.i; rw [ints_take] at this; exact this.below (HW9'.out.trans ((hS1.out).mono HW9'.out.size)))
  clear hba
  refine mOne (i := 5) (by as_aux_lemma => kernel_rfl) rfl (fun K hK => ?_)
  have HK := Lib.hid hK
  clear hK
  rw [if_pos (by rfl)]
  have hbs9 : Wm.heap.size ≤ _ := hS1.out.size
  refine wp_append_vals elInt _ _ (by rfl) Wm.heap.size (.slice (some ⟨Wm.heap.size, 0, none⟩) 0 0) ([]) (by rfl) hO1.out B3 i ic (ints (is.take i)) (by rfl) (by rw [ints_length, List.length_take]; have := HL.out; have := HNp.out; omega) (HB1.out.2.2.1) hV1.out (ints_one _) (by have := HNs.out; have := HL.out; have := HX2.out; have := HNp.out; simp only [List.length_append, List.length_take, List.length_drop, List.length_nil, strs_length, ints_length]; omega) hbs9 ?_
  intro v9 w9 H9
  have hS9 : Hid (Below Wm.heap.size Wm w9) := Lib.hid (hS1.out.grown H9.out.2 hbs9 (fun k hk => (hO1.out.lt k hk).1))
  have hO9 := Lib.hid H9.out.1
  obtain ⟨A9, c9, hv9, _⟩ := hO9.out.sl
  obtain ⟨L9, hL9⟩ : ∃ L, ([] ++ ints (is.take i)).length = L := ⟨_, rfl⟩
  have HL9 := Lib.hid hL9
  rw [hL9] at hv9
  subst hv9
  clear hL9 H9
  refine HK.out _ _ (.inr hS9) ?_
  clear HK
  try simp only [Act.put, List.setIfInBounds_toArray, List.set_cons_zero, List.set_cons_succ]
  have hV2 : Hid (ValsAt w9 iX (ints js)) := Lib.hid (HMA.out.i.below (HW9'.out.trans ((hS9.out).mono HW9'.out.size)))
  refine mOne (i := 8) (by as_aux_lemma => kernel_rfl) rfl (fun K hK => ?_)
  have HK := Lib.hid hK
  clear hK
  rw [if_pos (by rfl)]
  have hbs10 : Wm.heap.size ≤ _ := hS9.out.size
  refine wp_append_vals elInt _ _ (by rfl) Wm.heap.size (.slice A9 L9 c9) ([] ++ ints (is.take i)) (by rfl) hO9.out iX mi ix (ints js) (by rfl) (by rw [ints_length]; exact HL.out.2.2.2.2.2.symm) (HMA.out.inn.1) hV2.out (ints_one _) (by have := HNs.out; have := HL.out; have := HX2.out; have := HNp.out; simp only [List.length_append, List.length_take, List.length_drop, List.length_nil, strs_length, ints_length]; omega) hbs10 ?_
  intro v10 w10 H10
  have hS10 : Hid (Below Wm.heap.size Wm w10) := Lib.hid (hS9.out.grown H10.out.2 hbs10 (fun k hk => (hO9.out.lt k hk).1))
  have hO10 := Lib.hid H10.out.1
  obtain ⟨A10, c10, hv10, _⟩ := hO10.out.sl
  obtain ⟨L10, hL10⟩ : ∃ L, ([] ++ ints (is.take i) ++ ints js).length = L := ⟨_, rfl⟩
  have HL10 := Lib.hid hL10
  rw [hL10] at hv10
  subst hv10
  clear hL10 H10
  refine HK.out _ _ (.inr hS10) ?_
  clear HK
  try simp only [Act.put, List.setIfInBounds_toArray, List.set_cons_zero, List.set_cons_succ]
  have hV3 : Hid (ValsAt w10 B4 (ints (is.drop p))) := Lib.hid (by have := HV4.out w (ints is) (by rw [ints_length]; exact HL.out.2.2.1) HNA.out.i; rw [ints_drop] at this; exact this.below (HW9'.out.trans ((hS10.out).mono HW9'.out.size)))
  refine mOne (i := 15) (by as_aux_lemma => kernel_rfl) rfl (fun K hK => ?_)
  have HK := Lib.hid hK
  clear hK
  rw [if_pos (by rfl)]
  have hbs11 : Wm.heap.size ≤ _ := hS10.out.size
  refine wp_append_vals elInt _ _ (by rfl) Wm.heap.size (.slice A10 L10 c10) ([] ++ ints (is.take i) ++ ints js) (by rfl) hO10.out B4 xp yp (ints (is.drop p)) (by rfl) (by rw [ints_length, List.length_drop]; have := HL.out; have := HNp.out; omega) (HB1.out.2.2.2) hV3.out (ints_one _) (by have := HNs.out; have := HL.out; have := HX2.out; have := HNp.out; simp only [List.length_append, List.length_take, List.length_drop, List.length_nil, strs_length, ints_length]; omega) hbs11 ?_
  intro v11 w11 H11
  have hS11 : Hid (Below Wm.heap.size Wm w11) := Lib.hid (hS10.out.grown H11.out.2 hbs11 (fun k hk => (hO10.out.lt k hk).1))
  have hO11 := Lib.hid H11.out.1
  obtain ⟨A11, c11, hv11, _⟩ := hO11.out.sl
  obtain ⟨L11, hL11⟩ : ∃ L, ([] ++ ints (is.take i) ++ ints js ++ ints (is.drop p)).length = L := ⟨_, rfl⟩
  have HL11 := Lib.hid hL11
  rw [hL11] at hv11
  subst hv11
  clear hL11 H11
  refine HK.out _ _ (.inr hS11) ?_
  clear HK
  try simp only [Act.put, List.setIfInBounds_toArray, List.set_cons_zero, List.set_cons_succ]
  refine mOne (i := 16) (by as_aux_lemma => kernel_rfl) rfl (fun K hK => ?_)
  have HK := Lib.hid hK
  clear hK
  rw [if_pos (by rfl)]
  go_wp2_with fail
  refine HK.out _ _ (.inr hS11) ?_
  clear HK
  try simp only [Act.put, List.setIfInBounds_toArray, List.set_cons_zero, List.set_cons_succ]
  have ho11 := (hS11.out.block (r + 1 + 1 + 1) (by have := HS9.out; omega)).trans HO.out
  obtain ⟨f0, f1, f2, f3⟩ := row4_frozen ho11
  obtain ⟨x0, x1, x2, x3⟩ := row4_cells ho11
  refine mOne (i := 17) (by as_aux_lemma => kernel_rfl) rfl (fun K hK => ?_)
  have HK := Lib.hid hK
  clear hK
  rw [if_pos (by rfl)]
  go_wp2_with fail
  refine HK.out _ _ (by simp) ?_
  clear HK
  try simp only [Act.put, List.setIfInBounds_toArray, List.set_cons_zero, List.set_cons_succ]
  refine mDone (by as_aux_lemma => kernel_rfl) ?_ _
  clear x0 x1 x2 x3 f0 f1 f2 f3
  have k12 : Kept (· = r + 1 + 1 + 1) w11 (w11.setCell ⟨r + 1 + 1 + 1, 3, none⟩ (.slice A11 L11 c11)) := Kept.set1 w11 (r + 1 + 1 + 1) 3 _
  have ho12 := row4_set3 ho11 (.slice A11 L11 c11)
  have hty : ∀ k cs t fz, k = r + 1 + 1 + 1 → w11.heap[k]? = some (.cells cs t fz) → t = 26 := fun k cs t fz e hc => by
    rw [e, ho11] at hc; injection hc with hc; injection hc with _ h4 _; exact h4.symm
  have hK12 := hO11.out.keptT k12 (fun k cs hS hc => absurd (hty _ _ _ _ hS hc) (by decide))
  have hKa12 := (HKa.out.below hS11.out).keptT k12 (fun k cs hS hc => absurd (hty _ _ _ _ hS hc) (by decide))
  have hb12 : Below (r + 3) Wm (w11.setCell ⟨r + 1 + 1 + 1, 3, none⟩ (.slice A11 L11 c11)) := (hS11.out.mono (by have := HS9.out; omega)).trans (k12.below (by have := hS11.out.size; have := HS9.out; omega) (fun k hk e => by have e' : k = r + 1 + 1 + 1 := e; omega))
  obtain ⟨w13, hw13⟩ : ∃ x, w11.setCell ⟨r + 1 + 1 + 1, 3, none⟩ (.slice A11 L11 c11) = x := ⟨_, rfl⟩
  rw [hw13] at ho12 hK12 hKa12 hb12 ⊢
  have hZ13 := (hb12.block (r + 1 + 1) (by have := HS9.out; omega)).trans HZ.out
  have HZ13 := Lib.hid hZ13
  have HKb := Lib.hid hK12
  have HKc := Lib.hid hKa12
  have HB13 : Hid (Below r w w13) := HB.out.trans (hb12.mono (by omega))
  have HLb := Lib.hid HL11.out
  obtain ⟨x0, x1, x2, x3⟩ := row4_cells ho12
  obtain ⟨y0, y1, y2, y3⟩ := row4_cells hZ13
  obtain ⟨f0, f1, f2, f3⟩ := row4_frozen hZ13
  clear HX HY HO HXc HYc hS0 hS1 hS9 hS10 hS11 hO1 hO9 hO10 hO11 hV1 hV2 hV3 HL9 HL10 HL11 hw13 k12 hty hK12 hKa12 hb12 ho11 HB hbs9 hbs10 hbs11 HV3 HV4 ho12 hZ13
  go_wp2_with fail
  obtain ⟨g1, g2⟩ := row4_put HZ13.out (.bool false) (.slice AK LK cK) (.slice none 0 0) (.slice A11 L11 c11)
  refine bodyPost_ret_by (results_cell1 rfl _ rfl (run_retNodeR g1)) rfl ?_
  have htz : ∀ k cs t fz, k = r + 1 + 1 → w13.heap[k]? = some (.cells cs t fz) → t = 26 := fun k cs t fz e hc => by
    rw [e, HZ13.out] at hc; injection hc with hc; injection hc with _ h4 _; exact h4.symm
  have hKc := HKc.out.keptT g2 (fun k cs hS hc => absurd (htz _ _ _ _ hS hc) (by decide))
  have hKb := HKb.out.keptT g2 (fun k cs hS hc => absurd (htz _ _ _ _ hS hc) (by decide))
  have hBf := HB13.out.trans (g2.below (by have := (Array.getElem?_eq_some_iff.1 HZ13.out).1; omega) (fun k hk e => by have e' : k = r + 1 + 1 := e; omega))
  have hBw := (show ∀ x, Below r w x → Below w.heap.size w x from fun x hx => by rw [HR0.out]; exact hx) _ hBf
  obtain ⟨e1, u1, n1, l1, m1⟩ := hKc.at'
  obtain ⟨e2, u2, n2, l2, m2⟩ := hKb.at'
  have hM : changeM ⟨false, ks, vs, is⟩ i o ⟨lm, ls, us', js⟩ = ⟨false, ks.take i ++ ls ++ ks.drop p, [], is.take i ++ js ++ is.drop p⟩ := by unfold changeM; rw [HP.out]; rfl
  rw [hM]
  have hie : ([] : List Value) ++ ints (is.take i) ++ ints js ++ ints (is.drop p) = ints (is.take i ++ js ++ is.drop p) := by simp [ints_app]
  rw [hie] at e2 u2
  rw [ints_length] at e2
  refine ⟨AK, cK, none, 0, A11, c11, ?_, ⟨⟨u1, fun i hi => absurd hi (by simp), u2, ⟨n1, ?_, m1⟩, ⟨fun _ => rfl, Nat.le_refl _, by omega⟩, ⟨n2, ?_, m2⟩⟩, fun h0 => absurd h0 (by simp)⟩, hBw⟩
  · simp only [List.length_nil]
    rw [← e2, show (ks.take i ++ ls ++ ks.drop p).length = LK from by rw [← HLa.out, strs_length]]
  · show (ks.take i ++ ls ++ ks.drop p).length ≤ cK
    rw [show (ks.take i ++ ls ++ ks.drop p).length = LK from by rw [← HLa.out, strs_length]]; exact l1
  · show (is.take i ++ js ++ is.drop p).length ≤ c11
    rw [← e2]; exact l2
theorem Change_calls {w : World} {n m : NodeM} {kA : Option Addr} {kc : Nat} {vA : Option Addr} {vc : Nat} {iA : Option Addr} {ic : Nat} {kX : Option Addr} {kx : Nat} {vX : Option Addr} {vx : Nat} {iX : Option Addr} {ix : Nat} (h : NodeAt w n kA kc vA vc iA ic) (h' : NodeAt w m kX kx vX vx iX ix) (i o : Nat) (hk : i + o ≤ n.keys.length) (hv : n.leaf = true → i + o ≤ n.vals.length) (hi : n.leaf = false → i + o ≤ n.kids.length) (hs : n.keys.length ≤ 2000 ∧ n.vals.length ≤ 2000 ∧ n.kids.length ≤ 2000 ∧ m.keys.length ≤ 2000 ∧ m.vals.length ≤ 2000 ∧ m.kids.length ≤ 2000) :
    Calls Tryd.prog 60 #[.agg #[.bool n.leaf, .slice kA n.keys.length kc, .slice vA n.vals.length vc, .slice iA n.kids.length ic], .int .i64 (i : Int), .int .i64 (o : Int), .agg #[.bool m.leaf, .slice kX m.keys.length kx, .slice vX m.vals.length vx, .slice iX m.kids.length ix]] w fun e w' => ∃ kB kd vB vd iB id, e = .returned (.agg #[.bool n.leaf, .slice kB (changeM n i o m).keys.length kd, .slice vB (changeM n i o m).vals.length vd, .slice iB (changeM n i o m).kids.length id]) ∧ Hid (NodeT w' (changeM n i o m) kB kd vB vd iB id ∧ Below w.heap.size w w') := by
  obtain ⟨lf, ks, vs, is⟩ := n
  obtain ⟨lm, ls, us', js⟩ := m
  cases lf
  · exact Change_inner h h' i o hk (hi rfl) hs
  · exact Change_leaf h h' i o hk (hv rfl) hs
end Go.Proofs.YtibmlgkakeakcaaDoor
/- The walks of the document's first, told, Insert, Remove and Join (printed by wip/gen/refchgen.py). -/
set_option linter.unusedSimpArgs false
set_option linter.unusedVariables false
namespace Go.Proofs.YtibmlgkakeakcaaDoor
open Go.RowKit Go.Proofs.YtibmlgkakeakcaaDoor.Crc
set_option maxRecDepth 10000 in
set_option maxHeartbeats 1000000 in
theorem told_good {w : World} {n : NodeM} {kA : Option Addr} {kc : Nat} {vA : Option Addr} {vc : Nat} {iA : Option Addr} {ic : Nat} (h : NodeAt w n kA kc vA vc iA ic) (hr : RightM n) :
    Calls Tryd.prog 59 #[.agg #[.bool n.leaf, .slice kA n.keys.length kc, .slice vA n.vals.length vc, .slice iA n.kids.length ic]] w fun e w' => e = .returned (.tuple #[.agg #[.bool n.leaf, .slice kA n.keys.length kc, .slice vA n.vals.length vc, .slice iA n.kids.length ic], .int .i64 0]) ∧ Hid (Below w.heap.size w w') := by
  obtain ⟨h1, h2, h3⟩ := node2_boxT w (.bool n.leaf) (.slice kA n.keys.length kc) (.slice vA n.vals.length vc) (.slice iA n.kids.length ic) (.bool false) (.slice none 0 0) (.slice none 0 0) (.slice none 0 0) 26
  have HRt := Lib.hid (refRight_calls (h.below h1))
  rw [rightB_true hr] at HRt
  obtain ⟨nk, hnk⟩ : ∃ k, n.keys.length = k := ⟨_, rfl⟩
  obtain ⟨nv, hnv⟩ : ∃ k, n.vals.length = k := ⟨_, rfl⟩
  obtain ⟨ni, hni⟩ : ∃ k, n.kids.length = k := ⟨_, rfl⟩
  obtain ⟨lf, hlf⟩ : ∃ k, n.leaf = k := ⟨_, rfl⟩
  rw [hnk, hnv, hni, hlf] at h1 h2 h3 HRt ⊢
  obtain ⟨W1, hW1⟩ : ∃ x, (w.alloc (.cells #[.bool lf, .slice kA nk kc, .slice vA nv vc, .slice iA ni ic] 26)).alloc (.cells #[.bool false, .slice none 0 0, .slice none 0 0, .slice none 0 0] 26) = x := ⟨_, rfl⟩
  rw [hW1] at h1 h2 h3
  have HB := Lib.hid h1
  have HX := Lib.hid h2
  have HY := Lib.hid h3
  have HW1 := Lib.hid hW1
  obtain ⟨r, hr0⟩ : ∃ r, w.heap.size = r := ⟨_, rfl⟩
  have HR0 := Lib.hid hr0
  rw [hr0] at HX HY
  clear h1 h2 h3 hW1 h hr hnk hnv hni hlf hr0
  go_enter Tryd.func59, Tryd.ntmps59
  go_wp2_with (go_at_call 15; (with_reducible refine HRt.out.mono ?_); rintro e w2 ⟨rfl, hb2⟩; refine park ?_; intro q hq)
  rw [HW1.out] at hb2
  have hx2 := (hb2.block r (Array.getElem?_eq_some_iff.1 HX.out).1).trans HX.out
  have hy2 := (hb2.block (r + 1) (Array.getElem?_eq_some_iff.1 HY.out).1).trans HY.out
  have HB2 : Hid (Below r w w2) := by rw [← HR0.out]; exact HB.out.trans (hb2.mono HB.out.size)
  obtain ⟨x0, x1, x2, x3⟩ := row4_cells hx2
  obtain ⟨y0, y1, y2, y3⟩ := row4_cells hy2
  obtain ⟨f0, f1, f2, f3⟩ := row4_frozen hy2
  have HY2 := Lib.hid hy2
  clear hx2 hy2 hb2 HRt
  refine hq.out ?_
  clear hq
  simp only [HR0.out]
  go_wp2_with fail
  obtain ⟨g1, g2⟩ := row4_put HY2.out (.bool lf) (.slice kA nk kc) (.slice vA nv vc) (.slice iA ni ic)
  refine bodyPost_ret_by (results_cellTmp rfl _ rfl rfl (run_retNodeR g1)) rfl ?_
  refine ⟨rfl, ?_⟩
  have hfin := HB2.out.trans (g2.below (by have := (Array.getElem?_eq_some_iff.1 HY2.out).1; omega) (fun k hk e => by have e' : k = r + 1 := e; omega))
  exact (show Below w.heap.size w _ from by rw [HR0.out]; exact hfin)
set_option maxRecDepth 10000 in
set_option maxHeartbeats 1000000 in
theorem told_bad {w : World} {n : NodeM} {kA : Option Addr} {kc : Nat} {vA : Option Addr} {vc : Nat} {iA : Option Addr} {ic : Nat} (h : NodeAt w n kA kc vA vc iA ic) (hr : ¬ RightM n) :
    Calls Tryd.prog 59 #[.agg #[.bool n.leaf, .slice kA n.keys.length kc, .slice vA n.vals.length vc, .slice iA n.kids.length ic]] w fun e w' => e = .returned (.tuple #[.agg #[.bool false, .slice none 0 0, .slice none 0 0, .slice none 0 0], .int .i64 22]) ∧ Hid (Below w.heap.size w w') := by
  obtain ⟨h1, h2, h3⟩ := node2_boxT w (.bool n.leaf) (.slice kA n.keys.length kc) (.slice vA n.vals.length vc) (.slice iA n.kids.length ic) (.bool false) (.slice none 0 0) (.slice none 0 0) (.slice none 0 0) 26
  have HRt := Lib.hid (refRight_calls (h.below h1))
  rw [rightB_false hr] at HRt
  obtain ⟨nk, hnk⟩ : ∃ k, n.keys.length = k := ⟨_, rfl⟩
  obtain ⟨nv, hnv⟩ : ∃ k, n.vals.length = k := ⟨_, rfl⟩
  obtain ⟨ni, hni⟩ : ∃ k, n.kids.length = k := ⟨_, rfl⟩
  obtain ⟨lf, hlf⟩ : ∃ k, n.leaf = k := ⟨_, rfl⟩
  rw [hnk, hnv, hni, hlf] at h1 h2 h3 HRt ⊢
  obtain ⟨W1, hW1⟩ : ∃ x, (w.alloc (.cells #[.bool lf, .slice kA nk kc, .slice vA nv vc, .slice iA ni ic] 26)).alloc (.cells #[.bool false, .slice none 0 0, .slice none 0 0, .slice none 0 0] 26) = x := ⟨_, rfl⟩
  rw [hW1] at h1 h2 h3
  have HB := Lib.hid h1
  have HX := Lib.hid h2
  have HY := Lib.hid h3
  have HW1 := Lib.hid hW1
  obtain ⟨r, hr0⟩ : ∃ r, w.heap.size = r := ⟨_, rfl⟩
  have HR0 := Lib.hid hr0
  rw [hr0] at HX HY
  clear h1 h2 h3 hW1 h hr hnk hnv hni hlf hr0
  go_enter Tryd.func59, Tryd.ntmps59
  go_wp2_with (go_at_call 15; (with_reducible refine HRt.out.mono ?_); rintro e w2 ⟨rfl, hb2⟩; refine park ?_; intro q hq)
  rw [HW1.out] at hb2
  have hx2 := (hb2.block r (Array.getElem?_eq_some_iff.1 HX.out).1).trans HX.out
  have hy2 := (hb2.block (r + 1) (Array.getElem?_eq_some_iff.1 HY.out).1).trans HY.out
  have HB2 : Hid (Below r w w2) := by rw [← HR0.out]; exact HB.out.trans (hb2.mono HB.out.size)
  obtain ⟨x0, x1, x2, x3⟩ := row4_cells hx2
  obtain ⟨y0, y1, y2, y3⟩ := row4_cells hy2
  obtain ⟨f0, f1, f2, f3⟩ := row4_frozen hy2
  have HY2 := Lib.hid hy2
  clear hx2 hy2 hb2 HRt
  refine hq.out ?_
  clear hq
  simp only [HR0.out]
  go_wp2_with fail
  obtain ⟨g1, g2⟩ := row4_put HY2.out (.bool false) (.slice none 0 0) (.slice none 0 0) (.slice none 0 0)
  refine bodyPost_ret_by (results_cellTmp rfl _ rfl rfl (run_retNodeR g1)) rfl ?_
  refine ⟨rfl, ?_⟩
  have hfin := HB2.out.trans (g2.below (by have := (Array.getElem?_eq_some_iff.1 HY2.out).1; omega) (fun k hk e => by have e' : k = r + 1 := e; omega))
  exact (show Below w.heap.size w _ from by rw [HR0.out]; exact hfin)
theorem NodeAt.zero (w : World) : NodeAt w zeroM none 0 none 0 none 0 := (NodeOwn.zero w 0).at'
theorem told_calls {w : World} {n : NodeM} {kA : Option Addr} {kc : Nat} {vA : Option Addr} {vc : Nat} {iA : Option Addr} {ic : Nat} (h : NodeT w n kA kc vA vc iA ic) :
    Calls Tryd.prog 59 #[.agg #[.bool n.leaf, .slice kA n.keys.length kc, .slice vA n.vals.length vc, .slice iA n.kids.length ic]] w fun e w' => ∃ kB kd vB vd iB id, e = .returned (.tuple #[.agg #[.bool (outM n).leaf, .slice kB (outM n).keys.length kd, .slice vB (outM n).vals.length vd, .slice iB (outM n).kids.length id], .int .i64 (codeN n)]) ∧ Hid (NodeT w' (outM n) kB kd vB vd iB id ∧ Below w.heap.size w w') := by
  by_cases hr : RightM n
  · refine (told_good h.1 hr).mono ?_
    rintro e w' ⟨rfl, hb⟩
    rw [outM_right hr, codeN_right hr]
    exact ⟨_, _, _, _, _, _, rfl, h.below hb.out, hb.out⟩
  · refine (told_bad h.1 hr).mono ?_
    rintro e w' ⟨rfl, hb⟩
    rw [outM_bad hr, codeN_bad hr]
    exact ⟨none, 0, none, 0, none, 0, rfl, ⟨NodeAt.zero _, fun h0 => absurd h0 (by simp [zeroM])⟩, hb.out⟩
theorem row_ty {w : World} {g : Nat} {cs0 : Array Value} {T : TypeId} {fz0 : Nat × Nat} (hc : w.heap[g]? = some (.cells cs0 T fz0)) : ∀ k cs t fz, k = g → w.heap[k]? = some (.cells cs t fz) → t = T := fun k cs t fz e hc' => by
  rw [e, hc] at hc'; injection hc' with hc'; injection hc' with _ h4 _; exact h4.symm
theorem set0_cons {ks : List (List UInt8)} (x : List UInt8) (h : 0 < ks.length) : ks.set 0 x = [x] ++ ks.drop 1 := by
  cases ks with
  | nil => simp at h
  | cons a b => simp
set_option maxRecDepth 10000 in
set_option maxHeartbeats 4000000 in
theorem refFirst_calls {w : World} {n : NodeM} {kA : Option Addr} {kc : Nat} {vA : Option Addr} {vc : Nat} {iA : Option Addr} {ic : Nat} (h : NodeT w n kA kc vA vc iA ic) (hs : n.keys.length ≤ 2000) :
    Calls Tryd.prog 61 #[.agg #[.bool n.leaf, .slice kA n.keys.length kc, .slice vA n.vals.length vc, .slice iA n.kids.length ic]] w fun e w' => ∃ kB kd, e = .returned (.agg #[.bool n.leaf, .slice kB (firstM n).keys.length kd, .slice vA n.vals.length vc, .slice iA n.kids.length ic]) ∧ Hid (NodeT w' (firstM n) kB kd vA vc iA ic ∧ Below w.heap.size w w') := by
  obtain ⟨lf, ks, vs, is⟩ := n
  obtain ⟨h1, h2, h3⟩ := node2_boxT w (.bool lf) (.slice kA ks.length kc) (.slice vA vs.length vc) (.slice iA is.length ic) (.bool false) (.slice none 0 0) (.slice none 0 0) (.slice none 0 0) 26
  obtain ⟨nk, hnk⟩ : ∃ k, ks.length = k := ⟨_, rfl⟩
  obtain ⟨nv, hnv⟩ : ∃ k, vs.length = k := ⟨_, rfl⟩
  obtain ⟨ni, hni⟩ : ∃ k, is.length = k := ⟨_, rfl⟩
  have HL : Hid (ks.length = nk ∧ vs.length = nv ∧ is.length = ni) := ⟨hnk, hnv, hni⟩
  have H0 := Lib.hid h.1
  have HT0 := Lib.hid h
  simp only at hs ⊢
  rw [hnk, hnv, hni] at h1 h2 h3
  rw [hnv, hni]
  have e0 : Value.slice kA ks.length kc = .slice kA nk kc := by rw [hnk]
  rw [hnk] at hs
  have hkn := h.1.kn
  simp only [hnk] at hkn
  rw [show (#[Value.agg #[Value.bool lf, Value.slice kA ks.length kc, Value.slice vA nv vc, Value.slice iA ni ic]] : Array Value) = #[Value.agg #[Value.bool lf, Value.slice kA nk kc, Value.slice vA nv vc, Value.slice iA ni ic]] from by rw [e0]]
  obtain ⟨W1, hW1⟩ : ∃ x, (w.alloc (.cells #[.bool lf, .slice kA nk kc, .slice vA nv vc, .slice iA ni ic] 26)).alloc (.cells #[.bool false, .slice none 0 0, .slice none 0 0, .slice none 0 0] 26) = x := ⟨_, rfl⟩
  rw [hW1] at h1 h2 h3
  have hsz := Below.size h1
  have hz1 : W1.heap.size = w.heap.size + 2 := by rw [← hW1]; simp
  obtain ⟨r, hr0⟩ : ∃ r, w.heap.size = r := ⟨_, rfl⟩
  have HB := Lib.hid h1
  rw [hr0] at h2 h3 hz1 hsz
  have HX := Lib.hid h2
  have HY := Lib.hid h3
  have HR0 := Lib.hid hr0
  have HW1 := Lib.hid hW1
  have HZ1 := Lib.hid hz1
  obtain ⟨x0, x1, x2, x3⟩ := row4_cells h2
  obtain ⟨y0, y1, y2, y3⟩ := row4_cells h3
  obtain ⟨f0, f1, f2, f3⟩ := row4_frozen h3
  obtain ⟨f4, f5, f6, f7⟩ := row4_frozen h2
  clear h1 h2 h3 hW1 hnk hnv hni hr0 h e0 hsz hz1
  have hdone : Hid (lf = true ∨ nk = 0 → firstM ⟨lf, ks, vs, is⟩ = ⟨lf, ks, vs, is⟩) := fun hc => by
    unfold firstM; rw [if_pos]; rcases hc with hc | hc
    · exact .inl hc
    · exact .inr (List.length_eq_zero_iff.1 (by rw [HL.out.1]; exact hc))
  have HQ := Lib.hid (node2_boxT w (.bool lf) (.slice kA nk kc) (.slice vA nv vc) (.slice iA ni ic) (.bool lf) (.slice kA nk kc) (.slice vA nv vc) (.slice iA ni ic) 26)
  go_enter Tryd.func61, Tryd.ntmps61
  cases lf
  · by_cases h0 : nk = 0
    · have HF := Lib.hid (hdone.out (.inr h0))
      have hn0 : nk = 0 := h0
      have HN0 := Lib.hid hn0
      clear x0 x1 x2 x3 y0 y1 y2 y3 f0 f1 f2 f3 f4 f5 f6 f7 hdone h0
      subst hn0
      go_wp2_with fail
      refine bodyPost_ret_by (results_cell1 rfl _ rfl (run_retNodeR HQ.out.2.2)) rfl ?_
      exact ⟨kA, kc, by rw [HF.out]; simp only; rw [HL.out.1], by rw [HF.out]; exact HT0.out.below HQ.out.1, HQ.out.1⟩
    · have hpos : 0 < nk := by omega
      have hs1 : ∀ w, (Go.sizeOf (Tryd.prog.elem 22)).run Tryd.prog w = .ok 1 w := fun w => by kernel_rfl
      obtain ⟨B2, r2, b2, v2⟩ := run_suf (n := nk) Tryd.underlying22 hs1 (A := kA) (c := kc) (i := 1) hpos hkn.2.1 hkn.1
      rw [show ((1 : Nat) : Int) = 1 from rfl] at r2
      obtain ⟨np, hnp⟩ : ∃ k, nk - 1 = k := ⟨_, rfl⟩
      obtain ⟨cp, hcp⟩ : ∃ k, kc - 1 = k := ⟨_, rfl⟩
      rw [hnp, hcp] at r2
      rw [hcp] at b2
      have hne : ¬ (nk : Int) = 0 := by omega
      have HV := Lib.hid (v2 w (strs ks) (by rw [strs_length]; exact HL.out.1) H0.out.k)
      have HNp := Lib.hid hnp
      clear v2 hs1 hnp hcp hdone hkn HQ
      clear x0 x1 x2 x3 y0 y1 y2 y3 f0 f1 f2 f3 f4 f5 f6 f7
      go_wp2_with (with_reducible refine park_append ?_; intro q hq)
      have hba : Below W1.heap.size W1 (W1.alloc (.cells #[.string { data := #[] }] 9)) := (Below.refl _ _).alloc (Nat.le_refl _) _
      have hO1 : OwnVs (W1.alloc (.cells #[.string { data := #[] }] 9)) (r + 1 + 1) 9 (.slice (some ⟨r + 1 + 1, 0, none⟩) 1 1) [.string { data := #[] }] := by
        have h := OwnVs.lit W1 W1.heap.size (Nat.le_refl _) [.string { data := #[] }] (t := 9) (by decide)
        rw [HZ1.out] at h
        exact h
      have hV1 := (HV.out.below (HB.out.trans (hba.mono HB.out.size)))
      refine hq.out ?_
      clear hq
      simp only [HW1.out, HR0.out]
      refine wpList_append_vals elStr rfl _ _ rfl (r + 1 + 1) (.slice (some ⟨r + 1 + 1, 0, none⟩) 1 1) [.string { data := #[] }] rfl hO1 B2 np cp (strs (ks.drop 1)) rfl (by rw [strs_length, List.length_drop]; have := HL.out; have := HNp.out; omega) b2 (by have h := hV1; rw [strs_drop] at h; exact h) (strs_one _) (by rw [strs_length, List.length_drop]; have := HL.out; simp; omega) (by have := hba.size; have := HZ1.out; omega) ?_
      intro v3 w3 H3
      have hb3 : Below W1.heap.size W1 w3 := hba.grown H3.out.2 hba.size (fun k hk => by have := (hO1.lt k hk).1; have := HZ1.out; omega)
      obtain ⟨A3, c3, hv3, _⟩ := H3.out.1.sl
      obtain ⟨L3, hL3⟩ : ∃ L, ([Value.string { data := #[] }] ++ strs (ks.drop 1)).length = L := ⟨_, rfl⟩
      rw [hL3] at hv3
      subst hv3
      have hx3 := (hb3.block r (by have := HZ1.out; omega)).trans HX.out
      have hy3 := (hb3.block (r + 1) (by have := HZ1.out; omega)).trans HY.out
      have hx4 := row4_set1 hx3 (.slice A3 L3 c3)
      have k4 : Kept (· = r) w3 (w3.setCell ⟨r, 1, none⟩ (.slice A3 L3 c3)) := Kept.set1 w3 r 1 _
      have hy4 := (k4.block (r + 1) (by have := hb3.size; have := HZ1.out; omega) (by show ¬ r + 1 = r; omega)).trans hy3
      obtain ⟨f4, f5, f6, f7⟩ := row4_frozen hx3
      obtain ⟨u0, u1, u2, u3⟩ := row4_cells hx3
      obtain ⟨f0, f1, f2, f3⟩ := row4_frozen hy3
      obtain ⟨y0, y1, y2, y3⟩ := row4_cells hy3
      have HY4 := Lib.hid hy4
      have HK4 := Lib.hid k4
      have HO3 := Lib.hid H3.out.1
      have HB3 := Lib.hid hb3
      have HX3 := Lib.hid hx3
      have HL3 := Lib.hid hL3
      clear hba hO1 hV1 H3 hb3 hx3 hy3 hx4 k4 hy4 hL3 b2
      go_wp2_with fail
      obtain ⟨g1, g2⟩ := row4_put HY4.out (.bool false) (.slice A3 L3 c3) (.slice vA nv vc) (.slice iA ni ic)
      refine bodyPost_ret_by (results_cell1 rfl _ rfl (run_retNodeR g1)) rfl ?_
      have hF : firstM ⟨false, ks, vs, is⟩ = ⟨false, [[]] ++ ks.drop 1, vs, is⟩ := by rw [firstM_inner, set0_cons [] (by rw [HL.out.1]; exact hpos)]
      have hty := row_ty HX3.out
      have htz := row_ty HY4.out
      have hK := (HO3.out.keptT HK4.out (fun k cs hS hc => absurd (hty _ _ _ _ hS hc) (by decide))).keptT g2 (fun k cs hS hc => absurd (htz _ _ _ _ hS hc) (by decide))
      have hrs : r + 2 ≤ w3.heap.size := by rw [← HZ1.out]; exact HB3.out.size
      have hB3 : Below r w w3 := by rw [← HR0.out]; exact HB.out.trans (HB3.out.mono HB.out.size)
      have hBf := (hB3.trans (HK4.out.below (by omega) (fun k hk e => by have e' : k = r := e; omega))).trans (g2.below (by have := HK4.out.size; omega) (fun k hk e => by have e' : k = r + 1 := e; omega))
      have hBw := (show ∀ x, Below r w x → Below w.heap.size w x from fun x hx => by rw [HR0.out]; exact hx) _ hBf
      rw [hF]
      rw [show ([Value.string { data := #[] }] ++ strs (ks.drop 1)) = strs ([[]] ++ ks.drop 1) from by rw [strs_app]; rfl] at hK
      obtain ⟨e1, u1', n1, l1, m1⟩ := hK.at'
      rw [strs_length] at e1
      exact ⟨A3, c3, by simp only; rw [← e1], ⟨⟨u1', H0.out.v.below hBw, H0.out.i.below hBw, ⟨n1, by show ([[]] ++ ks.drop 1).length ≤ c3; rw [← e1]; exact l1, m1⟩, H0.out.vn, H0.out.inn⟩, (HT0.out.below hBw).2⟩, hBw⟩
  · have HF := Lib.hid (hdone.out (.inl rfl))
    clear x0 x1 x2 x3 y0 y1 y2 y3 f0 f1 f2 f3 f4 f5 f6 f7 hdone
    go_wp2_with fail
    refine bodyPost_ret_by (results_cell1 rfl _ rfl (run_retNodeR HQ.out.2.2)) rfl ?_
    exact ⟨kA, kc, by rw [HF.out]; simp only; rw [HL.out.1], by rw [HF.out]; exact HT0.out.below HQ.out.1, HQ.out.1⟩
set_option maxRecDepth 10000 in
set_option maxHeartbeats 8000000 in
theorem refRemove_calls {w : World} {n : NodeM} {kA : Option Addr} {kc : Nat} {vA : Option Addr} {vc : Nat} {iA : Option Addr} {ic : Nat} (h : NodeAt w n kA kc vA vc iA ic) (hr : RightM n) (hs : n.keys.length ≤ 1000) (i : Nat) (hi : i < n.keys.length) :
    Calls Tryd.prog 28 #[.agg #[.bool n.leaf, .slice kA n.keys.length kc, .slice vA n.vals.length vc, .slice iA n.kids.length ic], .int .i64 (i : Int)] w fun e w' => ∃ kB kd vB vd iB id, e = .returned (.tuple #[.agg #[.bool (outM (firstM (delM n i))).leaf, .slice kB (outM (firstM (delM n i))).keys.length kd, .slice vB (outM (firstM (delM n i))).vals.length vd, .slice iB (outM (firstM (delM n i))).kids.length id], .int .i64 (codeN (firstM (delM n i)))]) ∧ Hid (NodeT w' (outM (firstM (delM n i))) kB kd vB vd iB id ∧ Below w.heap.size w w') := by
  obtain ⟨hv1, hv2, hv3⟩ := hr.lens
  have hr2 := hr.two
  obtain ⟨h1, h2, h3⟩ := node2_boxT w (.bool n.leaf) (.slice kA n.keys.length kc) (.slice vA n.vals.length vc) (.slice iA n.kids.length ic) (.bool false) (.slice none 0 0) (.slice none 0 0) (.slice none 0 0) 26
  have HRt := Lib.hid (refRight_calls (h.below h1))
  rw [rightB_true hr] at HRt
  have hM : changeM n i 1 zeroM = delM n i := by
    obtain ⟨lf, ks, vs, is⟩ := n
    cases lf
    · obtain ⟨_, _, _, h4, _⟩ := right_inner.1 hr
      unfold changeM delM zeroM; simp [h4]
    · obtain ⟨_, _, h3, _⟩ := right_leaf.1 hr
      unfold changeM delM zeroM; simp [h3]
  have HCh : Hid (∀ w', NodeAt w' n kA kc vA vc iA ic → Calls Tryd.prog 60 #[.agg #[.bool n.leaf, .slice kA n.keys.length kc, .slice vA n.vals.length vc, .slice iA n.kids.length ic], .int .i64 (i : Int), .int .i64 1, .agg #[.bool false, .slice none 0 0, .slice none 0 0, .slice none 0 0]] w' fun e w'' => ∃ kB kd vB vd iB id, e = .returned (.agg #[.bool n.leaf, .slice kB (delM n i).keys.length kd, .slice vB (delM n i).vals.length vd, .slice iB (delM n i).kids.length id]) ∧ Hid (NodeT w'' (delM n i) kB kd vB vd iB id ∧ Below w'.heap.size w' w'')) := fun w' h => by
    have hh := Change_calls h (NodeAt.zero w') i 1 (by omega) (fun hl => by rw [hr2.1 hl]; omega) (fun hl => by rw [hr2.2 hl]; omega) ⟨by omega, by omega, by omega, by decide, by decide, by decide⟩
    rw [hM] at hh
    exact hh
  have HFi : Hid (∀ w' kB kd vB vd iB id, NodeT w' (delM n i) kB kd vB vd iB id → Calls Tryd.prog 61 #[.agg #[.bool n.leaf, .slice kB (delM n i).keys.length kd, .slice vB (delM n i).vals.length vd, .slice iB (delM n i).kids.length id]] w' fun e w'' => ∃ kB kd, e = .returned (.agg #[.bool n.leaf, .slice kB (firstM (delM n i)).keys.length kd, .slice vB (firstM (delM n i)).vals.length vd, .slice iB (firstM (delM n i)).kids.length id]) ∧ Hid (NodeT w'' (firstM (delM n i)) kB kd vB vd iB id ∧ Below w'.heap.size w' w'')) := fun w' kB kd vB vd iB id h => by
    have hh := refFirst_calls h (by show (n.keys.take i ++ n.keys.drop (i + 1)).length ≤ 2000; rw [List.length_append, List.length_take, List.length_drop]; omega)
    obtain ⟨q1, q2, q3, q4⟩ := firstM_shape (delM n i)
    rw [q3, q4]
    exact hh
  have HTo : Hid (∀ w' kB kd vB vd iB id, NodeT w' (firstM (delM n i)) kB kd vB vd iB id → Calls Tryd.prog 59 #[.agg #[.bool n.leaf, .slice kB (firstM (delM n i)).keys.length kd, .slice vB (firstM (delM n i)).vals.length vd, .slice iB (firstM (delM n i)).kids.length id]] w' fun e w'' => ∃ b kB nkB kd vB nvB vd iB niB id cd, e = .returned (.tuple #[.agg #[.bool b, .slice kB nkB kd, .slice vB nvB vd, .slice iB niB id], .int .i64 cd]) ∧ Hid (b = (outM (firstM (delM n i))).leaf ∧ nkB = (outM (firstM (delM n i))).keys.length ∧ nvB = (outM (firstM (delM n i))).vals.length ∧ niB = (outM (firstM (delM n i))).kids.length ∧ cd = codeN (firstM (delM n i)) ∧ NodeT w'' (outM (firstM (delM n i))) kB kd vB vd iB id ∧ Below w'.heap.size w' w'')) := fun w' kB kd vB vd iB id h => by
    have hh := told_calls h
    rw [show (firstM (delM n i)).leaf = n.leaf from (firstM_shape (delM n i)).1] at hh
    refine hh.mono ?_
    rintro e w'' ⟨kB, kd, vB, vd, iB, id, rfl, h9⟩
    exact ⟨_, _, _, _, _, _, _, _, _, _, _, rfl, rfl, rfl, rfl, rfl, rfl, h9.out.1, h9.out.2⟩
  have H := Lib.hid (h.below h1)
  obtain ⟨nk, hnk⟩ : ∃ k, n.keys.length = k := ⟨_, rfl⟩
  obtain ⟨nv, hnv⟩ : ∃ k, n.vals.length = k := ⟨_, rfl⟩
  obtain ⟨ni, hni⟩ : ∃ k, n.kids.length = k := ⟨_, rfl⟩
  obtain ⟨lf, hlf⟩ : ∃ k, n.leaf = k := ⟨_, rfl⟩
  obtain ⟨dk, hdk⟩ : ∃ k, (delM n i).keys.length = k := ⟨_, rfl⟩
  obtain ⟨dv, hdv⟩ : ∃ k, (delM n i).vals.length = k := ⟨_, rfl⟩
  obtain ⟨di, hdi⟩ : ∃ k, (delM n i).kids.length = k := ⟨_, rfl⟩
  obtain ⟨fk, hfk⟩ : ∃ k, (firstM (delM n i)).keys.length = k := ⟨_, rfl⟩
  obtain ⟨fv, hfv⟩ : ∃ k, (firstM (delM n i)).vals.length = k := ⟨_, rfl⟩
  obtain ⟨fi, hfi⟩ : ∃ k, (firstM (delM n i)).kids.length = k := ⟨_, rfl⟩
  rw [hnk, hnv, hni, hlf] at h1 h2 h3 HRt ⊢
  simp only [hnk, hnv, hni, hlf, hdk, hdv, hdi, hfk, hfv, hfi] at HCh HFi HTo
  rw [hnk] at hi hs
  obtain ⟨W1, hW1⟩ : ∃ x, (w.alloc (.cells #[.bool lf, .slice kA nk kc, .slice vA nv vc, .slice iA ni ic] 26)).alloc (.cells #[.bool false, .slice none 0 0, .slice none 0 0, .slice none 0 0] 26) = x := ⟨_, rfl⟩
  rw [hnk, hnv, hni, hlf, hW1] at H
  rw [hW1] at h1 h2 h3
  have HB := Lib.hid h1
  have HX := Lib.hid h2
  have HY := Lib.hid h3
  have HW1 := Lib.hid hW1
  obtain ⟨r, hr0⟩ : ∃ r, w.heap.size = r := ⟨_, rfl⟩
  have HR0 := Lib.hid hr0
  rw [hr0] at HX HY
  clear h1 h2 h3 hW1 hr hv1 hv2 hv3 hr2 hM hnk hnv hni hlf hdk hdv hdi hfk hfv hfi hr0 h
  have hd2 : decide (nk ≤ i) = false := by simp; omega
  go_enter Tryd.func28, Tryd.ntmps28
  go_wp2_with (go_at_call 15; (with_reducible refine HRt.out.mono ?_); rintro e w2 ⟨rfl, hb2⟩; refine park ?_; intro q hq)
  rw [HW1.out] at hb2
  have hx2 := (hb2.block r (Array.getElem?_eq_some_iff.1 HX.out).1).trans HX.out
  have hy2 := (hb2.block (r + 1) (Array.getElem?_eq_some_iff.1 HY.out).1).trans HY.out
  have HB2 : Hid (Below r w w2) := by rw [← HR0.out]; exact HB.out.trans (hb2.mono HB.out.size)
  have hrr1 : r + 1 < w2.heap.size := (Array.getElem?_eq_some_iff.1 hy2).1
  obtain ⟨x0, x1, x2, x3⟩ := row4_cells hx2
  have HY2 := Lib.hid hy2
  have HC2 := Lib.hid (HCh.out w2 (H.out.below hb2))
  clear hx2 hy2 hb2 HRt HCh H
  refine hq.out ?_
  clear hq
  simp only [HR0.out]
  go_wp2_with (go_at_call 60; (with_reducible refine HC2.out.mono ?_); rintro e w3 ⟨kB, kd, vB, vd, iB, id, rfl, h3⟩; refine park ?_; intro q hq)
  have HB3 : Hid (Below r w w3) := HB2.out.trans (h3.out.2.mono (by omega))
  have hrr3 : r + 1 < w3.heap.size := by have := h3.out.2.size; omega
  have HY3 := Lib.hid ((h3.out.2.block (r + 1) hrr1).trans HY2.out)
  have HF3 := Lib.hid (HFi.out w3 _ _ _ _ _ _ h3.out.1)
  clear x0 x1 x2 x3 HC2 h3 HY2 HB2
  refine hq.out ?_
  clear hq
  go_wp2_with (go_at_call 61; (with_reducible refine HF3.out.mono ?_); rintro e w4 ⟨kD, kg, rfl, h4⟩; refine park ?_; intro q hq)
  have HB4 : Hid (Below r w w4) := HB3.out.trans (h4.out.2.mono (by omega))
  have hrr4 : r + 1 < w4.heap.size := by have := h4.out.2.size; omega
  have HY4 := Lib.hid ((h4.out.2.block (r + 1) hrr3).trans HY3.out)
  have HT3 := Lib.hid (HTo.out w4 _ _ _ _ _ _ h4.out.1)
  clear HF3 h4 HY3 HB3
  refine hq.out ?_
  clear hq
  go_wp2_with (go_at_call 59; (with_reducible refine HT3.out.mono ?_); rintro e w5 ⟨b5, kE, nkE, ke, vE, nvE, ve, iE, niE, ie, cd, rfl, h5⟩; refine park ?_; intro q hq)
  obtain ⟨s1, s2, s3, s4, s5, hO5, hb5⟩ := h5.out
  have hy5 := (hb5.block (r + 1) hrr4).trans HY4.out
  have HSh := Lib.hid (And.intro s1 (And.intro s2 (And.intro s3 (And.intro s4 s5))))
  have HO5 := Lib.hid hO5
  have HB5 : Hid (Below r w w5) := HB4.out.trans (hb5.mono (by omega))
  have HY5 := Lib.hid hy5
  obtain ⟨y0, y1, y2, y3⟩ := row4_cells hy5
  obtain ⟨f0, f1, f2, f3⟩ := row4_frozen hy5
  have hrr5 : r + 1 < w5.heap.size := (Array.getElem?_eq_some_iff.1 hy5).1
  clear h5 hy5 HT3 s1 s2 s3 s4 s5 hO5 hb5
  refine hq.out ?_
  clear hq
  go_wp2_with fail
  obtain ⟨g1, g2⟩ := row4_put HY5.out (.bool b5) (.slice kE nkE ke) (.slice vE nvE ve) (.slice iE niE ie)
  refine bodyPost_ret_by (results_cellTmp rfl _ rfl rfl (run_retNodeR g1)) rfl ?_
  obtain ⟨s1, s2, s3, s4, s5⟩ := HSh.out
  have hbf := HB5.out.trans (g2.below (by omega) (fun k hk e => by have e' : k = r + 1 := e; omega))
  have hbw := (show ∀ x, Below r w x → Below w.heap.size w x from fun x hx => by rw [HR0.out]; exact hx) _ hbf
  refine ⟨kE, ke, vE, ve, iE, ie, by rw [← s1, ← s2, ← s3, ← s4, ← s5]; rfl, ?_, hbw⟩
  exact HO5.out.keptN g2 HY5.out (by decide)
set_option maxRecDepth 10000 in
set_option maxHeartbeats 8000000 in
theorem refInsert_calls {w : World} {n : NodeM} {kA : Option Addr} {kc : Nat} {vA : Option Addr} {vc : Nat} {iA : Option Addr} {ic : Nat} (h : NodeAt w n kA kc vA vc iA ic) (hr : RightM n) (hs : n.keys.length ≤ 1000) (i : Nat) (hi : i ≤ n.keys.length) (key : List UInt8) {dA : Option Addr} {dc : Nat} {ds : List UInt8} (hdb : Bytes w dA ds) (hdn : dA = none → dc = 0) (hdc : ds.length ≤ dc ∧ ds.length ≤ 9223372036854775807) (kid : Int) :
    Calls Tryd.prog 26 #[.agg #[.bool n.leaf, .slice kA n.keys.length kc, .slice vA n.vals.length vc, .slice iA n.kids.length ic], .int .i64 (i : Int), .string (bstr key), .slice dA ds.length dc, .int .i64 kid] w fun e w' => ∃ kB kd vB vd iB id, e = .returned (.tuple #[.agg #[.bool (outM (insM n i key ds kid)).leaf, .slice kB (outM (insM n i key ds kid)).keys.length kd, .slice vB (outM (insM n i key ds kid)).vals.length vd, .slice iB (outM (insM n i key ds kid)).kids.length id], .int .i64 (codeN (insM n i key ds kid))]) ∧ Hid (NodeT w' (outM (insM n i key ds kid)) kB kd vB vd iB id ∧ Below w.heap.size w w') := by
  obtain ⟨hv1, hv2, hv3⟩ := hr.lens
  have hr2 := hr.two
  obtain ⟨dn, hdn0⟩ : ∃ k, ds.length = k := ⟨_, rfl⟩
  obtain ⟨y, hy0⟩ : ∃ y, bstr key = y := ⟨_, rfl⟩
  obtain ⟨h1, h2, h3⟩ := node2_boxT w (.bool n.leaf) (.slice kA n.keys.length kc) (.slice vA n.vals.length vc) (.slice iA n.kids.length ic) (.bool false) (.slice none 0 0) (.slice none 0 0) (.slice none 0 0) 26
  have HRt := Lib.hid (refRight_calls (h.below h1))
  rw [rightB_true hr] at HRt
  have hM : changeM n i 0 ⟨false, [key], [ds], [kid]⟩ = insM n i key ds kid := by
    obtain ⟨lf, ks, vs, is⟩ := n
    cases lf
    · obtain ⟨_, _, _, h4, _⟩ := right_inner.1 hr
      unfold changeM insM; simp [h4]
    · obtain ⟨_, _, h3, _⟩ := right_leaf.1 hr
      unfold changeM insM; simp [h3]
  have HCh : Hid (∀ w', NodeAt w' n kA kc vA vc iA ic → Bytes w' dA ds → Calls Tryd.prog 60 #[.agg #[.bool n.leaf, .slice kA n.keys.length kc, .slice vA n.vals.length vc, .slice iA n.kids.length ic], .int .i64 (i : Int), .int .i64 0, .agg #[.bool false, .slice (some ⟨w'.heap.size, 0, none⟩) 1 1, .slice (some ⟨w'.heap.size + 1, 0, none⟩) 1 1, .slice (some ⟨w'.heap.size + 1 + 1, 0, none⟩) 1 1]] (((w'.alloc (.cells #[.string y] 9)).alloc (.cells #[.slice dA dn dc] 30)).alloc (.cells #[.int .i64 kid] 3)) fun e w'' => ∃ kB kd vB vd iB id, e = .returned (.agg #[.bool n.leaf, .slice kB (insM n i key ds kid).keys.length kd, .slice vB (insM n i key ds kid).vals.length vd, .slice iB (insM n i key ds kid).kids.length id]) ∧ Hid (NodeT w'' (insM n i key ds kid) kB kd vB vd iB id ∧ Below w'.heap.size w' w'')) := fun w' h hd => by
    have b1 : Below w'.heap.size w' (w'.alloc (.cells #[.string y] 9)) := (Below.refl _ _).alloc (Nat.le_refl _) _
    have z1 := heap_alloc_new w' (.cells #[.string y] 9)
    have s1 : (w'.alloc (.cells #[.string y] 9)).heap.size = w'.heap.size + 1 := by simp
    generalize w'.alloc (.cells #[.string y] 9) = wa at b1 z1 s1 ⊢
    have b2 : Below wa.heap.size wa (wa.alloc (.cells #[.slice dA dn dc] 30)) := (Below.refl _ _).alloc (Nat.le_refl _) _
    have z2 := heap_alloc_new wa (.cells #[.slice dA dn dc] 30)
    have s2 : (wa.alloc (.cells #[.slice dA dn dc] 30)).heap.size = wa.heap.size + 1 := by simp
    generalize wa.alloc (.cells #[.slice dA dn dc] 30) = wb at b2 z2 s2 ⊢
    have b3 : Below wb.heap.size wb (wb.alloc (.cells #[.int .i64 kid] 3)) := (Below.refl _ _).alloc (Nat.le_refl _) _
    have z3 := heap_alloc_new wb (.cells #[.int .i64 kid] 3)
    generalize wb.alloc (.cells #[.int .i64 kid] 3) = wc at b3 z3 ⊢
    have b13 : Below w'.heap.size w' wc := b1.trans ((b2.trans (b3.mono (by omega))).mono (by omega))
    have q1 := ((b2.trans (b3.mono (by omega))).block w'.heap.size (by omega)).trans z1
    have q2 := (b3.block wa.heap.size (by omega)).trans z2
    rw [s1] at q2
    rw [s2, s1] at z3
    have hm : NodeAt wc ⟨false, [key], [ds], [kid]⟩ (some ⟨w'.heap.size, 0, none⟩) 1 (some ⟨w'.heap.size + 1, 0, none⟩) 1 (some ⟨w'.heap.size + 1 + 1, 0, none⟩) 1 := by
      refine ⟨?_, ?_, ?_, ⟨fun h => (by cases h), Nat.le_refl _, by omega⟩, ⟨fun h => (by cases h), Nat.le_refl _, by omega⟩, ⟨fun h => (by cases h), Nat.le_refl _, by omega⟩⟩
      · have := ValsAt.one q1
        rw [show ([Value.string y] : List Value) = strs [key] from by rw [← hy0]; rfl] at this
        exact this
      · intro k hk
        obtain rfl : k = 0 := by simpa using hk
        refine ⟨_, dA, dc, rfl, ?_, rfl, hd.below b13, hdc.1, by show ds.length ≤ _; omega, hdn⟩
        rw [Addr.add_lit, cell_of_row _ _ _ _ _ _ q2]
        show some (Value.slice dA dn dc) = some (Value.slice dA ds.length dc)
        rw [hdn0]
      · exact ValsAt.one z3
    have hh := Change_calls (h.below b13) hm i 0 (by omega) (fun hl => by rw [hr2.1 hl]; omega) (fun hl => by rw [hr2.2 hl]; omega) ⟨by omega, by omega, by omega, by show 1 ≤ 2000; omega, by show 1 ≤ 2000; omega, by show 1 ≤ 2000; omega⟩
    rw [hM] at hh
    refine hh.mono ?_
    rintro e w'' ⟨a, b, c, d, x, y, rfl, h9⟩
    exact ⟨a, b, c, d, x, y, rfl, h9.out.1, b13.trans (h9.out.2.mono b13.size)⟩
  have HTo : Hid (∀ w' kB kd vB vd iB id, NodeT w' (insM n i key ds kid) kB kd vB vd iB id → Calls Tryd.prog 59 #[.agg #[.bool n.leaf, .slice kB (insM n i key ds kid).keys.length kd, .slice vB (insM n i key ds kid).vals.length vd, .slice iB (insM n i key ds kid).kids.length id]] w' fun e w'' => ∃ b kB nkB kd vB nvB vd iB niB id cd, e = .returned (.tuple #[.agg #[.bool b, .slice kB nkB kd, .slice vB nvB vd, .slice iB niB id], .int .i64 cd]) ∧ Hid (b = (outM (insM n i key ds kid)).leaf ∧ nkB = (outM (insM n i key ds kid)).keys.length ∧ nvB = (outM (insM n i key ds kid)).vals.length ∧ niB = (outM (insM n i key ds kid)).kids.length ∧ cd = codeN (insM n i key ds kid) ∧ NodeT w'' (outM (insM n i key ds kid)) kB kd vB vd iB id ∧ Below w'.heap.size w' w'')) := fun w' kB kd vB vd iB id h => by
    refine (told_calls h).mono ?_
    rintro e w'' ⟨kB, kd, vB, vd, iB, id, rfl, h9⟩
    exact ⟨_, _, _, _, _, _, _, _, _, _, _, rfl, rfl, rfl, rfl, rfl, rfl, h9.out.1, h9.out.2⟩
  have H := Lib.hid (h.below h1)
  have HD := Lib.hid hdb
  rw [hdn0, hy0]
  obtain ⟨nk, hnk⟩ : ∃ k, n.keys.length = k := ⟨_, rfl⟩
  obtain ⟨nv, hnv⟩ : ∃ k, n.vals.length = k := ⟨_, rfl⟩
  obtain ⟨ni, hni⟩ : ∃ k, n.kids.length = k := ⟨_, rfl⟩
  obtain ⟨lf, hlf⟩ : ∃ k, n.leaf = k := ⟨_, rfl⟩
  obtain ⟨dk, hdk⟩ : ∃ k, (insM n i key ds kid).keys.length = k := ⟨_, rfl⟩
  obtain ⟨dv, hdv⟩ : ∃ k, (insM n i key ds kid).vals.length = k := ⟨_, rfl⟩
  obtain ⟨di, hdi⟩ : ∃ k, (insM n i key ds kid).kids.length = k := ⟨_, rfl⟩
  rw [hnk, hnv, hni, hlf] at h1 h2 h3 HRt ⊢
  simp only [hnk, hnv, hni, hlf, hdk, hdv, hdi] at HCh HTo
  rw [hnk] at hi hs
  obtain ⟨W1, hW1⟩ : ∃ x, (w.alloc (.cells #[.bool lf, .slice kA nk kc, .slice vA nv vc, .slice iA ni ic] 26)).alloc (.cells #[.bool false, .slice none 0 0, .slice none 0 0, .slice none 0 0] 26) = x := ⟨_, rfl⟩
  rw [hnk, hnv, hni, hlf, hW1] at H
  rw [hW1] at h1 h2 h3
  have HB := Lib.hid h1
  have HX := Lib.hid h2
  have HY := Lib.hid h3
  have HW1 := Lib.hid hW1
  obtain ⟨r, hr0⟩ : ∃ r, w.heap.size = r := ⟨_, rfl⟩
  have HR0 := Lib.hid hr0
  rw [hr0] at HX HY
  clear h1 h2 h3 hW1 hr hv1 hv2 hv3 hr2 hM hnk hnv hni hlf hdk hdv hdi hdb hdn hdc hdn0 hy0 hr0 h
  have hd2 : decide (nk < i) = false := by simp; omega
  go_enter Tryd.func26, Tryd.ntmps26
  go_wp2_with (go_at_call 15; (with_reducible refine HRt.out.mono ?_); rintro e w2 ⟨rfl, hb2⟩; refine park ?_; intro q hq)
  rw [HW1.out] at hb2
  have hx2 := (hb2.block r (Array.getElem?_eq_some_iff.1 HX.out).1).trans HX.out
  have hy2 := (hb2.block (r + 1) (Array.getElem?_eq_some_iff.1 HY.out).1).trans HY.out
  have HB2 : Hid (Below r w w2) := by rw [← HR0.out]; exact HB.out.trans (hb2.mono HB.out.size)
  have hrr1 : r + 1 < w2.heap.size := (Array.getElem?_eq_some_iff.1 hy2).1
  obtain ⟨x0, x1, x2, x3⟩ := row4_cells hx2
  have HY2 := Lib.hid hy2
  have HC2 := Lib.hid (HCh.out w2 (H.out.below hb2) (HD.out.below (by rw [HR0.out]; exact HB2.out)))
  clear hx2 hy2 hb2 HRt HCh H
  refine hq.out ?_
  clear hq
  simp only [HR0.out]
  go_wp2_with (go_at_call 60; (with_reducible refine HC2.out.mono ?_); rintro e w3 ⟨kB, kd, vB, vd, iB, id, rfl, h3⟩; refine park ?_; intro q hq)
  have HB3 : Hid (Below r w w3) := HB2.out.trans (h3.out.2.mono (by omega))
  have hrr3 : r + 1 < w3.heap.size := by have := h3.out.2.size; omega
  have HY3 := Lib.hid ((h3.out.2.block (r + 1) hrr1).trans HY2.out)
  have HT3 := Lib.hid (HTo.out w3 _ _ _ _ _ _ h3.out.1)
  clear x0 x1 x2 x3 HC2 h3 HY2 HB2
  refine hq.out ?_
  clear hq
  go_wp2_with (go_at_call 59; (with_reducible refine HT3.out.mono ?_); rintro e w5 ⟨b5, kE, nkE, ke, vE, nvE, ve, iE, niE, ie, cd, rfl, h5⟩; refine park ?_; intro q hq)
  obtain ⟨s1, s2, s3, s4, s5, hO5, hb5⟩ := h5.out
  have hy5 := (hb5.block (r + 1) hrr3).trans HY3.out
  have HSh := Lib.hid (And.intro s1 (And.intro s2 (And.intro s3 (And.intro s4 s5))))
  have HO5 := Lib.hid hO5
  have HB5 : Hid (Below r w w5) := HB3.out.trans (hb5.mono (by omega))
  have HY5 := Lib.hid hy5
  obtain ⟨y0, y1, y2, y3⟩ := row4_cells hy5
  obtain ⟨f0, f1, f2, f3⟩ := row4_frozen hy5
  have hrr5 : r + 1 < w5.heap.size := (Array.getElem?_eq_some_iff.1 hy5).1
  clear h5 hy5 HT3 s1 s2 s3 s4 s5 hO5 hb5
  refine hq.out ?_
  clear hq
  go_wp2_with fail
  obtain ⟨g1, g2⟩ := row4_put HY5.out (.bool b5) (.slice kE nkE ke) (.slice vE nvE ve) (.slice iE niE ie)
  refine bodyPost_ret_by (results_cellTmp rfl _ rfl rfl (run_retNodeR g1)) rfl ?_
  obtain ⟨s1, s2, s3, s4, s5⟩ := HSh.out
  have hbf := HB5.out.trans (g2.below (by omega) (fun k hk e => by have e' : k = r + 1 := e; omega))
  have hbw := (show ∀ x, Below r w x → Below w.heap.size w x from fun x hx => by rw [HR0.out]; exact hx) _ hbf
  refine ⟨kE, ke, vE, ve, iE, ie, by rw [← s1, ← s2, ← s3, ← s4, ← s5]; rfl, ?_, hbw⟩
  exact HO5.out.keptN g2 HY5.out (by decide)
end Go.Proofs.YtibmlgkakeakcaaDoor
/- The walk of the document's Join (printed by wip/gen/refjoingen.py). -/
set_option linter.unusedSimpArgs false
set_option linter.unusedVariables false
namespace Go.Proofs.YtibmlgkakeakcaaDoor
open Go.RowKit Go.Proofs.YtibmlgkakeakcaaDoor.Crc
set_option maxRecDepth 10000 in
set_option maxHeartbeats 8000000 in
theorem refJoin_leaf {w : World} {ks vs ls us : List (List UInt8)} {is js : List Int} {key : List UInt8} {kA : Option Addr} {kc : Nat} {vA : Option Addr} {vc : Nat} {iA : Option Addr} {ic : Nat} {kX : Option Addr} {kx : Nat} {vX : Option Addr} {vx : Nat} {iX : Option Addr} {ix : Nat} (h : NodeAt w ⟨true, ks, vs, is⟩ kA kc vA vc iA ic) (h' : NodeAt w ⟨true, ls, us, js⟩ kX kx vX vx iX ix) (hr : RightM ⟨true, ks, vs, is⟩) (hr' : RightM ⟨true, ls, us, js⟩) (hn : ks.length ≤ 1000) (hn' : ls.length ≤ 1000) :
    Calls Tryd.prog 30 #[.agg #[.bool true, .slice kA ks.length kc, .slice vA vs.length vc, .slice iA is.length ic], .string (bstr key), .agg #[.bool true, .slice kX ls.length kx, .slice vX us.length vx, .slice iX js.length ix]] w fun e w' => ∃ kB kd vB vd iB id, e = .returned (.tuple #[.agg #[.bool (outM (joinM ⟨true, ks, vs, is⟩ key ⟨true, ls, us, js⟩)).leaf, .slice kB (outM (joinM ⟨true, ks, vs, is⟩ key ⟨true, ls, us, js⟩)).keys.length kd, .slice vB (outM (joinM ⟨true, ks, vs, is⟩ key ⟨true, ls, us, js⟩)).vals.length vd, .slice iB (outM (joinM ⟨true, ks, vs, is⟩ key ⟨true, ls, us, js⟩)).kids.length id], .int .i64 (codeN (joinM ⟨true, ks, vs, is⟩ key ⟨true, ls, us, js⟩))]) ∧ Hid (NodeT w' (outM (joinM ⟨true, ks, vs, is⟩ key ⟨true, ls, us, js⟩)) kB kd vB vd iB id ∧ Below w.heap.size w w') := by
  obtain ⟨hv1, hv2, hv3⟩ := hr.lens
  obtain ⟨hu1, hu2, hu3⟩ := hr'.lens
  simp only at hv1 hv2 hu1 hu2
  have hpos : true = false → 0 < ls.length := fun e => by
    first | (cases e; done) | (have h2 := (right_inner.1 hr').2; omega)
  have hM : changeM ⟨true, ks, vs, is⟩ ks.length 0 ⟨true, ls, us, js⟩ = joinM ⟨true, ks, vs, is⟩ key ⟨true, ls, us, js⟩ := by
    obtain ⟨_, _, h3, _⟩ := right_leaf.1 hr
    obtain ⟨_, _, h4, _⟩ := right_leaf.1 hr'
    have e1 := (right_leaf.1 hr).2.1
    subst h3 h4
    unfold changeM joinM
    rw [← e1]
    simp
    rw [e1]; simp
  obtain ⟨y, hy0⟩ : ∃ y, bstr key = y := ⟨_, rfl⟩
  have HYk := Lib.hid hy0
  rw [hy0]
  have HRa0 := Lib.hid (fun w' (h : NodeAt w' ⟨true, ks, vs, is⟩ kA kc vA vc iA ic) => refRight_calls h)
  have HRb0 := Lib.hid (fun w' (h : NodeAt w' ⟨true, ls, us, js⟩ kX kx vX vx iX ix) => refRight_calls h)
  rw [rightB_true hr] at HRa0
  rw [rightB_true hr'] at HRb0
  obtain ⟨nk, hnk⟩ : ∃ k, ks.length = k := ⟨_, rfl⟩
  obtain ⟨nv, hnv⟩ : ∃ k, vs.length = k := ⟨_, rfl⟩
  obtain ⟨ni, hni⟩ : ∃ k, is.length = k := ⟨_, rfl⟩
  obtain ⟨mk, hmk⟩ : ∃ k, ls.length = k := ⟨_, rfl⟩
  obtain ⟨mv, hmv⟩ : ∃ k, us.length = k := ⟨_, rfl⟩
  obtain ⟨mi, hmi⟩ : ∃ k, js.length = k := ⟨_, rfl⟩
  obtain ⟨lk, hlk⟩ : ∃ k, (ls).length = k := ⟨_, rfl⟩
  obtain ⟨jk, hjk⟩ : ∃ k, (joinM ⟨true, ks, vs, is⟩ key ⟨true, ls, us, js⟩).keys.length = k := ⟨_, rfl⟩
  obtain ⟨jv, hjv⟩ : ∃ k, (joinM ⟨true, ks, vs, is⟩ key ⟨true, ls, us, js⟩).vals.length = k := ⟨_, rfl⟩
  obtain ⟨ji, hji⟩ : ∃ k, (joinM ⟨true, ks, vs, is⟩ key ⟨true, ls, us, js⟩).kids.length = k := ⟨_, rfl⟩
  have HCh : Hid (∀ w' kY ky, NodeAt w' ⟨true, ks, vs, is⟩ kA kc vA vc iA ic → NodeAt w' ⟨true, ls, us, js⟩ kY ky vX vx iX ix → Calls Tryd.prog 60 #[.agg #[.bool true, .slice kA nk kc, .slice vA nv vc, .slice iA ni ic], .int .i64 (nk : Int), .int .i64 0, .agg #[.bool true, .slice kY lk ky, .slice vX mv vx, .slice iX mi ix]] w' fun e w'' => ∃ kB kd vB vd iB id, e = .returned (.agg #[.bool true, .slice kB jk kd, .slice vB jv vd, .slice iB ji id]) ∧ Hid (NodeT w'' (joinM ⟨true, ks, vs, is⟩ key ⟨true, ls, us, js⟩) kB kd vB vd iB id ∧ Below w'.heap.size w' w'')) := fun w' kY ky h hb => by
    have hl2 : (ls).length ≤ 2000 := by omega
    have hh := Change_calls h hb ks.length 0 (Nat.le_refl _) (fun hl => by show ks.length + 0 ≤ vs.length; rw [(right_leaf.1 hr).2.1]; omega) (fun hl => by cases hl) ⟨by show ks.length ≤ 2000; omega, by show vs.length ≤ 2000; omega, by show is.length ≤ 2000; omega, hl2, by show us.length ≤ 2000; omega, by show js.length ≤ 2000; omega⟩
    rw [hM, hjk, hjv, hji] at hh
    simp only [hnk, hnv, hni, hlk, hmv, hmi] at hh
    exact hh
  have HTo : Hid (∀ w' kB kd vB vd iB id, NodeT w' (joinM ⟨true, ks, vs, is⟩ key ⟨true, ls, us, js⟩) kB kd vB vd iB id → Calls Tryd.prog 59 #[.agg #[.bool true, .slice kB jk kd, .slice vB jv vd, .slice iB ji id]] w' fun e w'' => ∃ b kB nkB kd vB nvB vd iB niB id cd, e = .returned (.tuple #[.agg #[.bool b, .slice kB nkB kd, .slice vB nvB vd, .slice iB niB id], .int .i64 cd]) ∧ Hid (b = (outM (joinM ⟨true, ks, vs, is⟩ key ⟨true, ls, us, js⟩)).leaf ∧ nkB = (outM (joinM ⟨true, ks, vs, is⟩ key ⟨true, ls, us, js⟩)).keys.length ∧ nvB = (outM (joinM ⟨true, ks, vs, is⟩ key ⟨true, ls, us, js⟩)).vals.length ∧ niB = (outM (joinM ⟨true, ks, vs, is⟩ key ⟨true, ls, us, js⟩)).kids.length ∧ cd = codeN (joinM ⟨true, ks, vs, is⟩ key ⟨true, ls, us, js⟩) ∧ NodeT w'' (outM (joinM ⟨true, ks, vs, is⟩ key ⟨true, ls, us, js⟩)) kB kd vB vd iB id ∧ Below w'.heap.size w' w'')) := fun w' kB kd vB vd iB id h => by
    have hh := told_calls h
    rw [hjk, hjv, hji] at hh
    refine hh.mono ?_
    rintro e w'' ⟨kB, kd, vB, vd, iB, id, rfl, h9⟩
    exact ⟨_, _, _, _, _, _, _, _, _, _, _, rfl, rfl, rfl, rfl, rfl, rfl, h9.out.1, h9.out.2⟩
  simp only [hnk, hnv, hni] at HRa0
  simp only [hmk, hmv, hmi] at HRb0
  have HL : Hid (ks.length = nk ∧ ls.length = mk ∧ (ls).length = lk) := ⟨hnk, hmk, hlk⟩
  rw [hmk] at hpos hn'
  rw [hnk] at hn
  rw [hnk, hnv, hni, hmk, hmv, hmi]
  obtain ⟨h1, hr2, hr3⟩ := node2_boxT w (.bool true) (.slice kA nk kc) (.slice vA nv vc) (.slice iA ni ic) (.bool true) (.slice kX mk kx) (.slice vX mv vx) (.slice iX mi ix) 26
  obtain ⟨W0, hW0⟩ : ∃ x, (w.alloc (.cells #[.bool true, .slice kA nk kc, .slice vA nv vc, .slice iA ni ic] 26)).alloc (.cells #[.bool true, .slice kX mk kx, .slice vX mv vx, .slice iX mi ix] 26) = x := ⟨_, rfl⟩
  rw [hW0] at h1 hr2 hr3
  have hs0 : W0.heap.size = w.heap.size + 2 := by rw [← hW0]; simp
  have hb2 : Below W0.heap.size W0 (W0.alloc (.cells #[.bool false, .slice none 0 0, .slice none 0 0, .slice none 0 0] 26)) := (Below.refl _ _).alloc (Nat.le_refl _) _
  have hr4 := heap_alloc_new W0 (.cells #[.bool false, .slice none 0 0, .slice none 0 0, .slice none 0 0] 26)
  have hx1 := (hb2.block _ (by omega)).trans hr2
  have hy1 := (hb2.block _ (by omega)).trans hr3
  obtain ⟨W1, hW1⟩ : ∃ x, W0.alloc (.cells #[.bool false, .slice none 0 0, .slice none 0 0, .slice none 0 0] 26) = x := ⟨_, rfl⟩
  rw [hW1] at hb2 hr4 hx1 hy1
  rw [hs0] at hr4
  have hs1 : W1.heap.size = w.heap.size + 3 := by rw [← hW1]; simp [hs0]
  have hW1' : ((w.alloc (.cells #[.bool true, .slice kA nk kc, .slice vA nv vc, .slice iA ni ic] 26)).alloc (.cells #[.bool true, .slice kX mk kx, .slice vX mv vx, .slice iX mi ix] 26)).alloc (.cells #[.bool false, .slice none 0 0, .slice none 0 0, .slice none 0 0] 26) = W1 := by rw [hW0]; exact hW1
  have hbw : Below w.heap.size w W1 := h1.trans (hb2.mono (by omega))
  obtain ⟨r, hr0⟩ : ∃ r, w.heap.size = r := ⟨_, rfl⟩
  have HA := Lib.hid h
  have HBn := Lib.hid h'
  have HRa := Lib.hid (HRa0.out W1 (h.below hbw))
  rw [hr0] at hr4 hx1 hy1 hbw hs1
  have HX := Lib.hid hx1
  have HY := Lib.hid hy1
  have HZ := Lib.hid hr4
  have HB := Lib.hid hbw
  have HR0 := Lib.hid hr0
  have HS1 := Lib.hid hs1
  have HW := Lib.hid hW1'
  have HW0 : Hid (∀ x, Below r w x → Below w.heap.size w x) := fun x hx => by rw [hr0]; exact hx
  rw [← hW1'] at HRa
  clear h1 hr2 hr3 hW0 hs0 hb2 hr4 hx1 hy1 hW1 hs1 hW1' hbw h h' hr hr' hr0 HRa0 hM hnk hnv hni hmk hmv hmi hlk hjk hjv hji hv1 hv2 hv3 hu1 hu2 hu3 hy0
  go_enter Tryd.func30, Tryd.ntmps30
  go_wp2_with (go_at_call 15; (with_reducible refine HRa.out.mono ?_); rintro e w2 ⟨rfl, hb2⟩; refine park ?_; intro q hq)
  rw [HW.out] at hb2
  have HB2 : Hid (Below r w w2) := HB.out.trans (hb2.mono (by rw [HS1.out]; omega))
  have hl2 : r + 3 ≤ w2.heap.size := by rw [← HS1.out]; exact hb2.size
  have hx2 := (hb2.block r (by rw [HS1.out]; omega)).trans HX.out
  have hy2 := (hb2.block (r + 1) (by rw [HS1.out]; omega)).trans HY.out
  have hz2 := (hb2.block (r + 1 + 1) (by rw [HS1.out]; omega)).trans HZ.out
  have HRb := Lib.hid (HRb0.out w2 (HBn.out.below (HW0.out _ HB2.out)))
  have HX2 := Lib.hid hx2
  have HY2 := Lib.hid hy2
  have HZ2 := Lib.hid hz2
  obtain ⟨x0, x1, x2, x3⟩ := row4_cells hx2
  obtain ⟨y0, y1, y2, y3⟩ := row4_cells hy2
  clear hb2 hx2 hy2 hz2 HRa HRb0 HX HY HZ HB
  refine hq.out ?_
  clear hq
  simp only [HR0.out]
  go_wp2_with (go_at_call 15; (with_reducible refine HRb.out.mono ?_); rintro e w3 ⟨rfl, hb3⟩; refine park ?_; intro q hq)
  have HB3 : Hid (Below r w w3) := HB2.out.trans (hb3.mono (by omega))
  have hl3 : r + 3 ≤ w3.heap.size := by have := hb3.size; omega
  have hx3 := (hb3.block r (by omega)).trans HX2.out
  have hy3 := (hb3.block (r + 1) (by omega)).trans HY2.out
  have hz3 := (hb3.block (r + 1 + 1) (by omega)).trans HZ2.out
  have HX3 := Lib.hid hx3
  have HY3 := Lib.hid hy3
  have HZ3 := Lib.hid hz3
  clear x0 x1 x2 x3 y0 y1 y2 y3
  obtain ⟨x0, x1, x2, x3⟩ := row4_cells hx3
  obtain ⟨y0, y1, y2, y3⟩ := row4_cells hy3
  clear hb3 hx3 hy3 hz3 HRb HX2 HY2 HZ2 HB2
  refine hq.out ?_
  clear hq
  have HC := Lib.hid (HCh.out w3 kX kx (HA.out.below (HW0.out _ HB3.out)) (HBn.out.below (HW0.out _ HB3.out)))
  rw [show lk = mk from by rw [← HL.out.2.2]; exact HL.out.2.1] at HC
  clear HCh
  go_wp2_with (go_at_call 60; (with_reducible refine HC.out.mono ?_); rintro e w6 ⟨kB, kd, vB, vd, iB, id, rfl, h6⟩; refine park ?_; intro q hq)
  have HB6 : Hid (Below r w w6) := HB3.out.trans (h6.out.2.mono (by omega))
  have hl6 : r + 3 ≤ w6.heap.size := by have := h6.out.2.size; omega
  have HZ6 := Lib.hid ((h6.out.2.block (r + 1 + 1) (by omega)).trans HZ3.out)
  have HT6 := Lib.hid (HTo.out w6 _ _ _ _ _ _ h6.out.1)
  clear h6 HC x0 x1 x2 x3 y0 y1 y2 y3
  refine hq.out ?_
  clear hq
  go_wp2_with (go_at_call 59; (with_reducible refine HT6.out.mono ?_); rintro e w7 ⟨b7, kE, nkE, ke, vE, nvE, ve, iE, niE, ie, cd, rfl, h7⟩; refine park ?_; intro q hq)
  obtain ⟨s1, s2, s3, s4, s5, hO7, hb7⟩ := h7.out
  have hz7 := (hb7.block (r + 1 + 1) (by omega)).trans HZ6.out
  have HSh := Lib.hid (And.intro s1 (And.intro s2 (And.intro s3 (And.intro s4 s5))))
  have HO7 := Lib.hid hO7
  have HB7 : Hid (Below r w w7) := HB6.out.trans (hb7.mono (by omega))
  have hl7 : r + 3 ≤ w7.heap.size := by have := hb7.size; omega
  have HZ7 := Lib.hid hz7
  obtain ⟨y0, y1, y2, y3⟩ := row4_cells hz7
  obtain ⟨g0, g1, g2, g3⟩ := row4_frozen hz7
  clear h7 hz7 HT6 s1 s2 s3 s4 s5 hO7 hb7
  refine hq.out ?_
  clear hq
  go_wp2_with fail
  obtain ⟨g1, g2⟩ := row4_put HZ7.out (.bool b7) (.slice kE nkE ke) (.slice vE nvE ve) (.slice iE niE ie)
  refine bodyPost_ret_by (results_cellTmp rfl _ rfl rfl (run_retNodeR g1)) rfl ?_
  obtain ⟨s1, s2, s3, s4, s5⟩ := HSh.out
  have hbf := HB7.out.trans (g2.below (by omega) (fun k hk e => by have e' : k = r + 1 + 1 := e; omega))
  exact ⟨kE, ke, vE, ve, iE, ie, by rw [← s1, ← s2, ← s3, ← s4, ← s5]; rfl, HO7.out.keptN g2 HZ7.out (by decide), HW0.out _ hbf⟩
set_option maxRecDepth 10000 in
set_option maxHeartbeats 8000000 in
theorem refJoin_inner {w : World} {ks vs ls us : List (List UInt8)} {is js : List Int} {key : List UInt8} {kA : Option Addr} {kc : Nat} {vA : Option Addr} {vc : Nat} {iA : Option Addr} {ic : Nat} {kX : Option Addr} {kx : Nat} {vX : Option Addr} {vx : Nat} {iX : Option Addr} {ix : Nat} (h : NodeAt w ⟨false, ks, vs, is⟩ kA kc vA vc iA ic) (h' : NodeAt w ⟨false, ls, us, js⟩ kX kx vX vx iX ix) (hr : RightM ⟨false, ks, vs, is⟩) (hr' : RightM ⟨false, ls, us, js⟩) (hn : ks.length ≤ 1000) (hn' : ls.length ≤ 1000) :
    Calls Tryd.prog 30 #[.agg #[.bool false, .slice kA ks.length kc, .slice vA vs.length vc, .slice iA is.length ic], .string (bstr key), .agg #[.bool false, .slice kX ls.length kx, .slice vX us.length vx, .slice iX js.length ix]] w fun e w' => ∃ kB kd vB vd iB id, e = .returned (.tuple #[.agg #[.bool (outM (joinM ⟨false, ks, vs, is⟩ key ⟨false, ls, us, js⟩)).leaf, .slice kB (outM (joinM ⟨false, ks, vs, is⟩ key ⟨false, ls, us, js⟩)).keys.length kd, .slice vB (outM (joinM ⟨false, ks, vs, is⟩ key ⟨false, ls, us, js⟩)).vals.length vd, .slice iB (outM (joinM ⟨false, ks, vs, is⟩ key ⟨false, ls, us, js⟩)).kids.length id], .int .i64 (codeN (joinM ⟨false, ks, vs, is⟩ key ⟨false, ls, us, js⟩))]) ∧ Hid (NodeT w' (outM (joinM ⟨false, ks, vs, is⟩ key ⟨false, ls, us, js⟩)) kB kd vB vd iB id ∧ Below w.heap.size w w') := by
  obtain ⟨hv1, hv2, hv3⟩ := hr.lens
  obtain ⟨hu1, hu2, hu3⟩ := hr'.lens
  simp only at hv1 hv2 hu1 hu2
  have hpos : false = false → 0 < ls.length := fun e => by
    first | (cases e; done) | (have h2 := (right_inner.1 hr').2; omega)
  have hM : changeM ⟨false, ks, vs, is⟩ ks.length 0 ⟨false, ([key] ++ ls.drop 1), us, js⟩ = joinM ⟨false, ks, vs, is⟩ key ⟨false, ls, us, js⟩ := by
    obtain ⟨_, e1, _, h3, _⟩ := right_inner.1 hr
    obtain ⟨_, _, _, h4, _⟩ := right_inner.1 hr'
    subst h3 h4
    unfold changeM joinM
    rw [set0_cons key (hpos rfl)]
    rw [← e1]
    simp
    rw [e1]; simp
  obtain ⟨y, hy0⟩ : ∃ y, bstr key = y := ⟨_, rfl⟩
  have HYk := Lib.hid hy0
  rw [hy0]
  have HRa0 := Lib.hid (fun w' (h : NodeAt w' ⟨false, ks, vs, is⟩ kA kc vA vc iA ic) => refRight_calls h)
  have HRb0 := Lib.hid (fun w' (h : NodeAt w' ⟨false, ls, us, js⟩ kX kx vX vx iX ix) => refRight_calls h)
  rw [rightB_true hr] at HRa0
  rw [rightB_true hr'] at HRb0
  obtain ⟨nk, hnk⟩ : ∃ k, ks.length = k := ⟨_, rfl⟩
  obtain ⟨nv, hnv⟩ : ∃ k, vs.length = k := ⟨_, rfl⟩
  obtain ⟨ni, hni⟩ : ∃ k, is.length = k := ⟨_, rfl⟩
  obtain ⟨mk, hmk⟩ : ∃ k, ls.length = k := ⟨_, rfl⟩
  obtain ⟨mv, hmv⟩ : ∃ k, us.length = k := ⟨_, rfl⟩
  obtain ⟨mi, hmi⟩ : ∃ k, js.length = k := ⟨_, rfl⟩
  obtain ⟨lk, hlk⟩ : ∃ k, (([key] ++ ls.drop 1)).length = k := ⟨_, rfl⟩
  obtain ⟨jk, hjk⟩ : ∃ k, (joinM ⟨false, ks, vs, is⟩ key ⟨false, ls, us, js⟩).keys.length = k := ⟨_, rfl⟩
  obtain ⟨jv, hjv⟩ : ∃ k, (joinM ⟨false, ks, vs, is⟩ key ⟨false, ls, us, js⟩).vals.length = k := ⟨_, rfl⟩
  obtain ⟨ji, hji⟩ : ∃ k, (joinM ⟨false, ks, vs, is⟩ key ⟨false, ls, us, js⟩).kids.length = k := ⟨_, rfl⟩
  have HCh : Hid (∀ w' kY ky, NodeAt w' ⟨false, ks, vs, is⟩ kA kc vA vc iA ic → NodeAt w' ⟨false, ([key] ++ ls.drop 1), us, js⟩ kY ky vX vx iX ix → Calls Tryd.prog 60 #[.agg #[.bool false, .slice kA nk kc, .slice vA nv vc, .slice iA ni ic], .int .i64 (nk : Int), .int .i64 0, .agg #[.bool false, .slice kY lk ky, .slice vX mv vx, .slice iX mi ix]] w' fun e w'' => ∃ kB kd vB vd iB id, e = .returned (.agg #[.bool false, .slice kB jk kd, .slice vB jv vd, .slice iB ji id]) ∧ Hid (NodeT w'' (joinM ⟨false, ks, vs, is⟩ key ⟨false, ls, us, js⟩) kB kd vB vd iB id ∧ Below w'.heap.size w' w'')) := fun w' kY ky h hb => by
    have hl2 : (([key] ++ ls.drop 1)).length ≤ 2000 := by rw [List.length_append, List.length_drop]; simp; omega
    have hh := Change_calls h hb ks.length 0 (Nat.le_refl _) (fun hl => by cases hl) (fun hl => by show ks.length + 0 ≤ is.length; rw [(right_inner.1 hr).2.1]; omega) ⟨by show ks.length ≤ 2000; omega, by show vs.length ≤ 2000; omega, by show is.length ≤ 2000; omega, hl2, by show us.length ≤ 2000; omega, by show js.length ≤ 2000; omega⟩
    rw [hM, hjk, hjv, hji] at hh
    simp only [hnk, hnv, hni, hlk, hmv, hmi] at hh
    exact hh
  have HTo : Hid (∀ w' kB kd vB vd iB id, NodeT w' (joinM ⟨false, ks, vs, is⟩ key ⟨false, ls, us, js⟩) kB kd vB vd iB id → Calls Tryd.prog 59 #[.agg #[.bool false, .slice kB jk kd, .slice vB jv vd, .slice iB ji id]] w' fun e w'' => ∃ b kB nkB kd vB nvB vd iB niB id cd, e = .returned (.tuple #[.agg #[.bool b, .slice kB nkB kd, .slice vB nvB vd, .slice iB niB id], .int .i64 cd]) ∧ Hid (b = (outM (joinM ⟨false, ks, vs, is⟩ key ⟨false, ls, us, js⟩)).leaf ∧ nkB = (outM (joinM ⟨false, ks, vs, is⟩ key ⟨false, ls, us, js⟩)).keys.length ∧ nvB = (outM (joinM ⟨false, ks, vs, is⟩ key ⟨false, ls, us, js⟩)).vals.length ∧ niB = (outM (joinM ⟨false, ks, vs, is⟩ key ⟨false, ls, us, js⟩)).kids.length ∧ cd = codeN (joinM ⟨false, ks, vs, is⟩ key ⟨false, ls, us, js⟩) ∧ NodeT w'' (outM (joinM ⟨false, ks, vs, is⟩ key ⟨false, ls, us, js⟩)) kB kd vB vd iB id ∧ Below w'.heap.size w' w'')) := fun w' kB kd vB vd iB id h => by
    have hh := told_calls h
    rw [hjk, hjv, hji] at hh
    refine hh.mono ?_
    rintro e w'' ⟨kB, kd, vB, vd, iB, id, rfl, h9⟩
    exact ⟨_, _, _, _, _, _, _, _, _, _, _, rfl, rfl, rfl, rfl, rfl, rfl, h9.out.1, h9.out.2⟩
  simp only [hnk, hnv, hni] at HRa0
  simp only [hmk, hmv, hmi] at HRb0
  have HL : Hid (ks.length = nk ∧ ls.length = mk ∧ (([key] ++ ls.drop 1)).length = lk) := ⟨hnk, hmk, hlk⟩
  rw [hmk] at hpos hn'
  rw [hnk] at hn
  rw [hnk, hnv, hni, hmk, hmv, hmi]
  obtain ⟨h1, hr2, hr3⟩ := node2_boxT w (.bool false) (.slice kA nk kc) (.slice vA nv vc) (.slice iA ni ic) (.bool false) (.slice kX mk kx) (.slice vX mv vx) (.slice iX mi ix) 26
  obtain ⟨W0, hW0⟩ : ∃ x, (w.alloc (.cells #[.bool false, .slice kA nk kc, .slice vA nv vc, .slice iA ni ic] 26)).alloc (.cells #[.bool false, .slice kX mk kx, .slice vX mv vx, .slice iX mi ix] 26) = x := ⟨_, rfl⟩
  rw [hW0] at h1 hr2 hr3
  have hs0 : W0.heap.size = w.heap.size + 2 := by rw [← hW0]; simp
  have hb2 : Below W0.heap.size W0 (W0.alloc (.cells #[.bool false, .slice none 0 0, .slice none 0 0, .slice none 0 0] 26)) := (Below.refl _ _).alloc (Nat.le_refl _) _
  have hr4 := heap_alloc_new W0 (.cells #[.bool false, .slice none 0 0, .slice none 0 0, .slice none 0 0] 26)
  have hx1 := (hb2.block _ (by omega)).trans hr2
  have hy1 := (hb2.block _ (by omega)).trans hr3
  obtain ⟨W1, hW1⟩ : ∃ x, W0.alloc (.cells #[.bool false, .slice none 0 0, .slice none 0 0, .slice none 0 0] 26) = x := ⟨_, rfl⟩
  rw [hW1] at hb2 hr4 hx1 hy1
  rw [hs0] at hr4
  have hs1 : W1.heap.size = w.heap.size + 3 := by rw [← hW1]; simp [hs0]
  have hW1' : ((w.alloc (.cells #[.bool false, .slice kA nk kc, .slice vA nv vc, .slice iA ni ic] 26)).alloc (.cells #[.bool false, .slice kX mk kx, .slice vX mv vx, .slice iX mi ix] 26)).alloc (.cells #[.bool false, .slice none 0 0, .slice none 0 0, .slice none 0 0] 26) = W1 := by rw [hW0]; exact hW1
  have hbw : Below w.heap.size w W1 := h1.trans (hb2.mono (by omega))
  obtain ⟨r, hr0⟩ : ∃ r, w.heap.size = r := ⟨_, rfl⟩
  have HA := Lib.hid h
  have HBn := Lib.hid h'
  have HRa := Lib.hid (HRa0.out W1 (h.below hbw))
  rw [hr0] at hr4 hx1 hy1 hbw hs1
  have HX := Lib.hid hx1
  have HY := Lib.hid hy1
  have HZ := Lib.hid hr4
  have HB := Lib.hid hbw
  have HR0 := Lib.hid hr0
  have HS1 := Lib.hid hs1
  have HW := Lib.hid hW1'
  have HW0 : Hid (∀ x, Below r w x → Below w.heap.size w x) := fun x hx => by rw [hr0]; exact hx
  rw [← hW1'] at HRa
  clear h1 hr2 hr3 hW0 hs0 hb2 hr4 hx1 hy1 hW1 hs1 hW1' hbw h h' hr hr' hr0 HRa0 hM hnk hnv hni hmk hmv hmi hlk hjk hjv hji hv1 hv2 hv3 hu1 hu2 hu3 hy0
  go_enter Tryd.func30, Tryd.ntmps30
  go_wp2_with (go_at_call 15; (with_reducible refine HRa.out.mono ?_); rintro e w2 ⟨rfl, hb2⟩; refine park ?_; intro q hq)
  rw [HW.out] at hb2
  have HB2 : Hid (Below r w w2) := HB.out.trans (hb2.mono (by rw [HS1.out]; omega))
  have hl2 : r + 3 ≤ w2.heap.size := by rw [← HS1.out]; exact hb2.size
  have hx2 := (hb2.block r (by rw [HS1.out]; omega)).trans HX.out
  have hy2 := (hb2.block (r + 1) (by rw [HS1.out]; omega)).trans HY.out
  have hz2 := (hb2.block (r + 1 + 1) (by rw [HS1.out]; omega)).trans HZ.out
  have HRb := Lib.hid (HRb0.out w2 (HBn.out.below (HW0.out _ HB2.out)))
  have HX2 := Lib.hid hx2
  have HY2 := Lib.hid hy2
  have HZ2 := Lib.hid hz2
  obtain ⟨x0, x1, x2, x3⟩ := row4_cells hx2
  obtain ⟨y0, y1, y2, y3⟩ := row4_cells hy2
  clear hb2 hx2 hy2 hz2 HRa HRb0 HX HY HZ HB
  refine hq.out ?_
  clear hq
  simp only [HR0.out]
  go_wp2_with (go_at_call 15; (with_reducible refine HRb.out.mono ?_); rintro e w3 ⟨rfl, hb3⟩; refine park ?_; intro q hq)
  have HB3 : Hid (Below r w w3) := HB2.out.trans (hb3.mono (by omega))
  have hl3 : r + 3 ≤ w3.heap.size := by have := hb3.size; omega
  have hx3 := (hb3.block r (by omega)).trans HX2.out
  have hy3 := (hb3.block (r + 1) (by omega)).trans HY2.out
  have hz3 := (hb3.block (r + 1 + 1) (by omega)).trans HZ2.out
  have HX3 := Lib.hid hx3
  have HY3 := Lib.hid hy3
  have HZ3 := Lib.hid hz3
  clear x0 x1 x2 x3 y0 y1 y2 y3
  obtain ⟨x0, x1, x2, x3⟩ := row4_cells hx3
  obtain ⟨y0, y1, y2, y3⟩ := row4_cells hy3
  clear hb3 hx3 hy3 hz3 HRb HX2 HY2 HZ2 HB2
  refine hq.out ?_
  clear hq
  have hmp : 0 < mk := by first | exact hpos rfl | exact hpos trivial
  have hs1 : ∀ w, (Go.sizeOf (Tryd.prog.elem 22)).run Tryd.prog w = .ok 1 w := fun w => by kernel_rfl
  have hkx := HBn.out.kn
  simp only [HL.out.2.1] at hkx
  obtain ⟨B2, r2, b2, v2⟩ := run_suf (n := mk) Tryd.underlying22 hs1 (A := kX) (c := kx) (i := 1) hmp hkx.2.1 hkx.1
  rw [show ((1 : Nat) : Int) = 1 from rfl] at r2
  obtain ⟨np, hnp⟩ : ∃ k, mk - 1 = k := ⟨_, rfl⟩
  obtain ⟨cp, hcp⟩ : ∃ k, kx - 1 = k := ⟨_, rfl⟩
  rw [hnp, hcp] at r2
  rw [hcp] at b2
  have HV := Lib.hid (v2 w (strs ls) (by rw [strs_length]; exact HL.out.2.1) HBn.out.k)
  have HNp := Lib.hid hnp
  have hBb := Lib.hid b2
  clear v2 hs1 hnp hcp hkx b2
  have hba : Below w3.heap.size w3 (w3.alloc (.cells #[.string y] 9)) := (Below.refl _ _).alloc (Nat.le_refl _) _
  obtain ⟨t0, t1, t2, t3⟩ := row4_cells ((hba.block (r + 1) (by omega)).trans HY3.out)
  go_wp2_with (with_reducible refine park_append ?_; intro q hq)
  clear t0 t1 t2 t3
  have hO1 : OwnVs (w3.alloc (.cells #[.string y] 9)) w3.heap.size 9 (.slice (some ⟨w3.heap.size, 0, none⟩) 1 1) [.string y] := OwnVs.lit w3 w3.heap.size (Nat.le_refl _) [.string y] (by show 1 ≤ maxLen; decide)
  have hV1 := HV.out.below ((HW0.out _ HB3.out).trans (hba.mono (HW0.out _ HB3.out).size))
  refine hq.out ?_
  clear hq
  refine wpList_append_vals elStr rfl _ _ rfl w3.heap.size (.slice (some ⟨w3.heap.size, 0, none⟩) 1 1) [.string y] rfl hO1 B2 np cp (strs (ls.drop 1)) rfl (by rw [strs_length, List.length_drop]; have := HL.out; have := HNp.out; omega) hBb.out (by have h := hV1; rw [strs_drop] at h; exact h) (strs_one _) (by rw [strs_length, List.length_drop]; have := HL.out; simp; omega) hba.size ?_
  intro v4 w4 H4
  have hb4 : Below w3.heap.size w3 w4 := hba.grown H4.out.2 hba.size (fun k hk => (hO1.lt k hk).1)
  have hy4 := (hb4.block (r + 1) (by omega)).trans HY3.out
  obtain ⟨A4, c4, hv4, _⟩ := H4.out.1.sl
  have hL4 : ([Value.string y] ++ strs (ls.drop 1)).length = lk := by rw [← HL.out.2.2]; simp [strs_length]
  rw [hL4] at hv4
  subst hv4
  have k5 : Kept (· = r + 1) w4 (w4.setCell ⟨r + 1, 1, none⟩ (.slice A4 lk c4)) := Kept.set1 w4 (r + 1) 1 _
  have hK5 := H4.out.1.keptT k5 (fun k cs hS hc => absurd (row_ty hy4 _ _ _ _ hS hc) (by decide))
  have hB5 : Below r w (w4.setCell ⟨r + 1, 1, none⟩ (.slice A4 lk c4)) := (HB3.out.trans (hb4.mono (by omega))).trans (k5.below (by have := hb4.size; omega) (fun k hk e => by have e' : k = r + 1 := e; omega))
  have hx5 := (k5.block r (by have := hb4.size; omega) (by show ¬ r = r + 1; omega)).trans ((hb4.block r (by omega)).trans HX3.out)
  have hz5 := (k5.block (r + 1 + 1) (by have := hb4.size; omega) (by show ¬ r + 1 + 1 = r + 1; omega)).trans ((hb4.block (r + 1 + 1) (by omega)).trans HZ3.out)
  have hy5 := row4_set1 hy4 (.slice A4 lk c4)
  have hl5 : r + 3 ≤ (w4.setCell ⟨r + 1, 1, none⟩ (.slice A4 lk c4)).heap.size := Nat.le_trans (Nat.le_trans hl3 hb4.size) k5.size
  obtain ⟨w5, hw5⟩ : ∃ x, w4.setCell ⟨r + 1, 1, none⟩ (.slice A4 lk c4) = x := ⟨_, rfl⟩
  have HW5 := Lib.hid hw5
  rw [hw5] at hK5 hB5 hx5 hz5 hy5 hl5
  rw [show ([Value.string y] ++ strs (ls.drop 1)) = strs ([key] ++ ls.drop 1) from by rw [strs_app, ← HYk.out]; rfl] at hK5
  obtain ⟨e1, u1', n1, l1, m1⟩ := hK5.at'
  have hNb : NodeAt w5 ⟨false, [key] ++ ls.drop 1, us, js⟩ A4 c4 vX vx iX ix := ⟨u1', HBn.out.v.below (HW0.out _ hB5), HBn.out.i.below (HW0.out _ hB5), ⟨n1, by show ([key] ++ ls.drop 1).length ≤ c4; rw [HL.out.2.2]; exact l1, m1⟩, HBn.out.vn, HBn.out.inn⟩
  have HC := Lib.hid (HCh.out w5 A4 c4 (HA.out.below (HW0.out _ hB5)) hNb)
  clear x0 x1 x2 x3 y0 y1 y2 y3
  obtain ⟨y0, y1, y2, y3⟩ := row4_cells hy4
  obtain ⟨f0, f1, f2, f3⟩ := row4_frozen hy4
  obtain ⟨x0, x1, x2, x3⟩ := row4_cells ((hb4.block r (by omega)).trans HX3.out)
  have HB5 := Lib.hid hB5
  have HZ5 := Lib.hid hz5
  rw [← HW5.out] at HC
  clear hba hO1 hV1 H4 hb4 hy4 k5 hK5 hB5 hx5 hz5 hy5 hw5 e1 u1' n1 l1 m1 hNb HCh HV HNp hBb r2 HB3 HX3 HY3 HZ3 hL4
  go_wp2_with (go_at_call 60; (with_reducible refine HC.out.mono ?_); rintro e w6 ⟨kB, kd, vB, vd, iB, id, rfl, h6⟩; refine park ?_; intro q hq)
  rw [HW5.out] at h6
  have HB6 : Hid (Below r w w6) := HB5.out.trans (h6.out.2.mono (by omega))
  have hl6 : r + 3 ≤ w6.heap.size := by have := h6.out.2.size; omega
  have HZ6 := Lib.hid ((h6.out.2.block (r + 1 + 1) (by omega)).trans HZ5.out)
  have HT6 := Lib.hid (HTo.out w6 _ _ _ _ _ _ h6.out.1)
  clear h6 HC x0 x1 x2 x3 y0 y1 y2 y3
  refine hq.out ?_
  clear hq
  go_wp2_with (go_at_call 59; (with_reducible refine HT6.out.mono ?_); rintro e w7 ⟨b7, kE, nkE, ke, vE, nvE, ve, iE, niE, ie, cd, rfl, h7⟩; refine park ?_; intro q hq)
  obtain ⟨s1, s2, s3, s4, s5, hO7, hb7⟩ := h7.out
  have hz7 := (hb7.block (r + 1 + 1) (by omega)).trans HZ6.out
  have HSh := Lib.hid (And.intro s1 (And.intro s2 (And.intro s3 (And.intro s4 s5))))
  have HO7 := Lib.hid hO7
  have HB7 : Hid (Below r w w7) := HB6.out.trans (hb7.mono (by omega))
  have hl7 : r + 3 ≤ w7.heap.size := by have := hb7.size; omega
  have HZ7 := Lib.hid hz7
  obtain ⟨y0, y1, y2, y3⟩ := row4_cells hz7
  obtain ⟨g0, g1, g2, g3⟩ := row4_frozen hz7
  clear h7 hz7 HT6 s1 s2 s3 s4 s5 hO7 hb7
  refine hq.out ?_
  clear hq
  go_wp2_with fail
  obtain ⟨g1, g2⟩ := row4_put HZ7.out (.bool b7) (.slice kE nkE ke) (.slice vE nvE ve) (.slice iE niE ie)
  refine bodyPost_ret_by (results_cellTmp rfl _ rfl rfl (run_retNodeR g1)) rfl ?_
  obtain ⟨s1, s2, s3, s4, s5⟩ := HSh.out
  have hbf := HB7.out.trans (g2.below (by omega) (fun k hk e => by have e' : k = r + 1 + 1 := e; omega))
  exact ⟨kE, ke, vE, ve, iE, ie, by rw [← s1, ← s2, ← s3, ← s4, ← s5]; rfl, HO7.out.keptN g2 HZ7.out (by decide), HW0.out _ hbf⟩
theorem refJoin_calls {w : World} {a b : NodeM} {key : List UInt8} {kA : Option Addr} {kc : Nat} {vA : Option Addr} {vc : Nat} {iA : Option Addr} {ic : Nat} {kX : Option Addr} {kx : Nat} {vX : Option Addr} {vx : Nat} {iX : Option Addr} {ix : Nat} (h : NodeAt w a kA kc vA vc iA ic) (h' : NodeAt w b kX kx vX vx iX ix) (hl : a.leaf = b.leaf) (hr : RightM a) (hr' : RightM b) (hn : a.keys.length ≤ 1000) (hn' : b.keys.length ≤ 1000) :
    Calls Tryd.prog 30 #[.agg #[.bool a.leaf, .slice kA a.keys.length kc, .slice vA a.vals.length vc, .slice iA a.kids.length ic], .string (bstr key), .agg #[.bool b.leaf, .slice kX b.keys.length kx, .slice vX b.vals.length vx, .slice iX b.kids.length ix]] w fun e w' => ∃ kB kd vB vd iB id, e = .returned (.tuple #[.agg #[.bool (outM (joinM a key b)).leaf, .slice kB (outM (joinM a key b)).keys.length kd, .slice vB (outM (joinM a key b)).vals.length vd, .slice iB (outM (joinM a key b)).kids.length id], .int .i64 (codeN (joinM a key b))]) ∧ Hid (NodeT w' (outM (joinM a key b)) kB kd vB vd iB id ∧ Below w.heap.size w w') := by
  obtain ⟨lf, ks, vs, is⟩ := a
  obtain ⟨lf', ls, us, js⟩ := b
  simp only at hl
  subst hl
  cases lf
  · exact refJoin_inner h h' hr hr' hn hn'
  · exact refJoin_leaf h h' hr hr' hn hn'
end Go.Proofs.YtibmlgkakeakcaaDoor
/- The walk of the document's Cut (printed by wip/gen/refcutgen.py). -/
set_option linter.unusedSimpArgs false
set_option linter.unusedVariables false
namespace Go.Proofs.YtibmlgkakeakcaaDoor
open Go.RowKit Go.Proofs.YtibmlgkakeakcaaDoor.Crc
set_option maxRecDepth 10000 in
set_option maxHeartbeats 2000000 in
theorem refCut_form {w : World} {n : NodeM} {kA : Option Addr} {kc : Nat} {vA : Option Addr} {vc : Nat} {iA : Option Addr} {ic : Nat} (h : NodeAt w n kA kc vA vc iA ic) (hc0 : ¬ RightM n) (hn : n.keys.length ≤ 1000) :
    Calls Tryd.prog 29 #[.agg #[.bool n.leaf, .slice kA n.keys.length kc, .slice vA n.vals.length vc, .slice iA n.kids.length ic]] w fun e w' => e = .returned (.tuple #[.agg #[.bool false, .slice none 0 0, .slice none 0 0, .slice none 0 0], .agg #[.bool false, .slice none 0 0, .slice none 0 0, .slice none 0 0], .int .i64 22]) ∧ Hid (Below w.heap.size w w') := by
  have HRt0 := Lib.hid (fun w' (h' : NodeAt w' n kA kc vA vc iA ic) => refRight_calls h')
  rw [rightB_false hc0] at HRt0
  have hc : n.keys.length ≤ 1000 := hn
  clear hc0
  obtain ⟨nk, hnk⟩ : ∃ k, n.keys.length = k := ⟨_, rfl⟩
  obtain ⟨nv, hnv⟩ : ∃ k, n.vals.length = k := ⟨_, rfl⟩
  obtain ⟨ni, hni⟩ : ∃ k, n.kids.length = k := ⟨_, rfl⟩
  obtain ⟨lf, hlf⟩ : ∃ k, n.leaf = k := ⟨_, rfl⟩
  rw [hnk, hnv, hni, hlf] at HRt0
  rw [hnk, hnv, hni, hlf]
  rw [hnk] at hn hc
  have hn2 : nk ≤ 9223372036854775807 := by omega
  obtain ⟨h1, hr2, hr3⟩ := node2_boxT w (.bool lf) (.slice kA nk kc) (.slice vA nv vc) (.slice iA ni ic) (.bool false) (.slice none 0 0) (.slice none 0 0) (.slice none 0 0) 26
  obtain ⟨W0, hW0⟩ : ∃ x, (w.alloc (.cells #[.bool lf, .slice kA nk kc, .slice vA nv vc, .slice iA ni ic] 26)).alloc (.cells #[.bool false, .slice none 0 0, .slice none 0 0, .slice none 0 0] 26) = x := ⟨_, rfl⟩
  rw [hW0] at h1 hr2 hr3
  have hs0 : W0.heap.size = w.heap.size + 2 := by rw [← hW0]; simp
  have hb2 : Below W0.heap.size W0 (W0.alloc (.cells #[.bool false, .slice none 0 0, .slice none 0 0, .slice none 0 0] 26)) := (Below.refl _ _).alloc (Nat.le_refl _) _
  have hr4 := heap_alloc_new W0 (.cells #[.bool false, .slice none 0 0, .slice none 0 0, .slice none 0 0] 26)
  have hx1 := (hb2.block _ (by omega)).trans hr2
  have hy1 := (hb2.block _ (by omega)).trans hr3
  obtain ⟨W1, hW1⟩ : ∃ x, W0.alloc (.cells #[.bool false, .slice none 0 0, .slice none 0 0, .slice none 0 0] 26) = x := ⟨_, rfl⟩
  rw [hW1] at hb2 hr4 hx1 hy1
  rw [hs0] at hr4
  have hs1 : W1.heap.size = w.heap.size + 3 := by rw [← hW1]; simp [hs0]
  have hW1' : ((w.alloc (.cells #[.bool lf, .slice kA nk kc, .slice vA nv vc, .slice iA ni ic] 26)).alloc (.cells #[.bool false, .slice none 0 0, .slice none 0 0, .slice none 0 0] 26)).alloc (.cells #[.bool false, .slice none 0 0, .slice none 0 0, .slice none 0 0] 26) = W1 := by rw [hW0]; exact hW1
  have hbw : Below w.heap.size w W1 := h1.trans (hb2.mono (by omega))
  have HAt : Hid (NodeAt W1 n kA kc vA vc iA ic) := h.below hbw
  obtain ⟨r, hr0⟩ : ∃ r, w.heap.size = r := ⟨_, rfl⟩
  rw [hr0] at hr4 hx1 hy1 hbw hs1
  have HX := Lib.hid hx1
  have HY := Lib.hid hy1
  have HZ := Lib.hid hr4
  have HB := Lib.hid hbw
  have HR0 := Lib.hid hr0
  have HS1 := Lib.hid hs1
  have HW := Lib.hid hW1'
  have HRt := Lib.hid (HRt0.out W1 HAt.out)
  rw [← hW1'] at HRt
  clear h1 hr2 hr3 hW0 hs0 hb2 hr4 hx1 hy1 hW1 hs1 hW1' hbw hnk hnv hni hlf h hr0 HRt0
  go_enter Tryd.func29, Tryd.ntmps29
  go_wp2_with (go_at_call 15; (with_reducible refine HRt.out.mono ?_); rintro e w2 ⟨rfl, hb2⟩; refine park ?_; intro q hq)
  rw [HW.out] at hb2
  have hx2 := (hb2.block r (by rw [HS1.out]; omega)).trans HX.out
  have hy2 := (hb2.block (r + 1) (by rw [HS1.out]; omega)).trans HY.out
  have hz2 := (hb2.block (r + 1 + 1) (by rw [HS1.out]; omega)).trans HZ.out
  obtain ⟨x0, x1, x2, x3⟩ := row4_cells hx2
  obtain ⟨y0, y1, y2, y3⟩ := row4_cells hy2
  obtain ⟨f0, f1, f2, f3⟩ := row4_frozen hy2
  obtain ⟨u0, u1, u2, u3⟩ := row4_cells hz2
  obtain ⟨v0, v1, v2, v3⟩ := row4_frozen hz2
  have HB2 := Lib.hid hb2
  have HY2 := Lib.hid hy2
  have HZ2 := Lib.hid hz2
  clear hx2 hb2 HRt hy2 hz2
  refine hq.out ?_
  clear hq
  simp only [HR0.out]
  go_wp2_with fail
  obtain ⟨g1, g2⟩ := row4_put HY2.out (.bool false) (.slice none 0 0) (.slice none 0 0) (.slice none 0 0)
  have hz3 := (g2.block (r + 1 + 1) (Array.getElem?_eq_some_iff.1 HZ2.out).1 (by show ¬ r + 1 + 1 = r + 1; omega)).trans HZ2.out
  obtain ⟨k1, k2⟩ := row4_put hz3 (.bool false) (.slice none 0 0) (.slice none 0 0) (.slice none 0 0)
  have g3 := (k2.block (r + 1) (Array.getElem?_eq_some_iff.1 g1).1 (by show ¬ r + 1 = r + 1 + 1; omega)).trans g1
  refine bodyPost_ret_by (results_cellCellTmp rfl _ rfl rfl rfl (run_retNodeR g3) (run_retNodeR k1)) rfl ?_
  refine ⟨rfl, ?_⟩
  have hs2 : r + 3 ≤ w2.heap.size := by have := HB2.out.size; rw [HS1.out] at this; exact this
  have hfin := (HB.out.trans (HB2.out.mono (by rw [HS1.out]; omega))).trans ((g2.below (B := r) (by omega) (fun k hk e => by have e' : k = r + 1 := e; omega)).trans (k2.below (by have := g2.size; omega) (fun k hk e => by have e' : k = r + 1 + 1 := e; omega)))
  exact (show Below w.heap.size w _ from by rw [HR0.out]; exact hfin)
set_option maxRecDepth 10000 in
set_option maxHeartbeats 2000000 in
theorem refCut_none {w : World} {n : NodeM} {kA : Option Addr} {kc : Nat} {vA : Option Addr} {vc : Nat} {iA : Option Addr} {ic : Nat} (h : NodeAt w n kA kc vA vc iA ic) (hc0 : RightM n ∧ n.keys.length < 2) (hn : n.keys.length ≤ 1000) :
    Calls Tryd.prog 29 #[.agg #[.bool n.leaf, .slice kA n.keys.length kc, .slice vA n.vals.length vc, .slice iA n.kids.length ic]] w fun e w' => e = .returned (.tuple #[.agg #[.bool false, .slice none 0 0, .slice none 0 0, .slice none 0 0], .agg #[.bool false, .slice none 0 0, .slice none 0 0, .slice none 0 0], .int .i64 40]) ∧ Hid (Below w.heap.size w w') := by
  have HRt0 := Lib.hid (fun w' (h' : NodeAt w' n kA kc vA vc iA ic) => refRight_calls h')
  rw [rightB_true hc0.1] at HRt0
  have hc := hc0.2
  clear hc0
  obtain ⟨nk, hnk⟩ : ∃ k, n.keys.length = k := ⟨_, rfl⟩
  obtain ⟨nv, hnv⟩ : ∃ k, n.vals.length = k := ⟨_, rfl⟩
  obtain ⟨ni, hni⟩ : ∃ k, n.kids.length = k := ⟨_, rfl⟩
  obtain ⟨lf, hlf⟩ : ∃ k, n.leaf = k := ⟨_, rfl⟩
  rw [hnk, hnv, hni, hlf] at HRt0
  rw [hnk, hnv, hni, hlf]
  rw [hnk] at hn hc
  have hn2 : nk ≤ 9223372036854775807 := by omega
  obtain ⟨h1, hr2, hr3⟩ := node2_boxT w (.bool lf) (.slice kA nk kc) (.slice vA nv vc) (.slice iA ni ic) (.bool false) (.slice none 0 0) (.slice none 0 0) (.slice none 0 0) 26
  obtain ⟨W0, hW0⟩ : ∃ x, (w.alloc (.cells #[.bool lf, .slice kA nk kc, .slice vA nv vc, .slice iA ni ic] 26)).alloc (.cells #[.bool false, .slice none 0 0, .slice none 0 0, .slice none 0 0] 26) = x := ⟨_, rfl⟩
  rw [hW0] at h1 hr2 hr3
  have hs0 : W0.heap.size = w.heap.size + 2 := by rw [← hW0]; simp
  have hb2 : Below W0.heap.size W0 (W0.alloc (.cells #[.bool false, .slice none 0 0, .slice none 0 0, .slice none 0 0] 26)) := (Below.refl _ _).alloc (Nat.le_refl _) _
  have hr4 := heap_alloc_new W0 (.cells #[.bool false, .slice none 0 0, .slice none 0 0, .slice none 0 0] 26)
  have hx1 := (hb2.block _ (by omega)).trans hr2
  have hy1 := (hb2.block _ (by omega)).trans hr3
  obtain ⟨W1, hW1⟩ : ∃ x, W0.alloc (.cells #[.bool false, .slice none 0 0, .slice none 0 0, .slice none 0 0] 26) = x := ⟨_, rfl⟩
  rw [hW1] at hb2 hr4 hx1 hy1
  rw [hs0] at hr4
  have hs1 : W1.heap.size = w.heap.size + 3 := by rw [← hW1]; simp [hs0]
  have hW1' : ((w.alloc (.cells #[.bool lf, .slice kA nk kc, .slice vA nv vc, .slice iA ni ic] 26)).alloc (.cells #[.bool false, .slice none 0 0, .slice none 0 0, .slice none 0 0] 26)).alloc (.cells #[.bool false, .slice none 0 0, .slice none 0 0, .slice none 0 0] 26) = W1 := by rw [hW0]; exact hW1
  have hbw : Below w.heap.size w W1 := h1.trans (hb2.mono (by omega))
  have HAt : Hid (NodeAt W1 n kA kc vA vc iA ic) := h.below hbw
  obtain ⟨r, hr0⟩ : ∃ r, w.heap.size = r := ⟨_, rfl⟩
  rw [hr0] at hr4 hx1 hy1 hbw hs1
  have HX := Lib.hid hx1
  have HY := Lib.hid hy1
  have HZ := Lib.hid hr4
  have HB := Lib.hid hbw
  have HR0 := Lib.hid hr0
  have HS1 := Lib.hid hs1
  have HW := Lib.hid hW1'
  have HRt := Lib.hid (HRt0.out W1 HAt.out)
  rw [← hW1'] at HRt
  clear h1 hr2 hr3 hW0 hs0 hb2 hr4 hx1 hy1 hW1 hs1 hW1' hbw hnk hnv hni hlf h hr0 HRt0
  have hd2 : nk < 2 := hc
  go_enter Tryd.func29, Tryd.ntmps29
  go_wp2_with (go_at_call 15; (with_reducible refine HRt.out.mono ?_); rintro e w2 ⟨rfl, hb2⟩; refine park ?_; intro q hq)
  rw [HW.out] at hb2
  have hx2 := (hb2.block r (by rw [HS1.out]; omega)).trans HX.out
  have hy2 := (hb2.block (r + 1) (by rw [HS1.out]; omega)).trans HY.out
  have hz2 := (hb2.block (r + 1 + 1) (by rw [HS1.out]; omega)).trans HZ.out
  obtain ⟨x0, x1, x2, x3⟩ := row4_cells hx2
  obtain ⟨y0, y1, y2, y3⟩ := row4_cells hy2
  obtain ⟨f0, f1, f2, f3⟩ := row4_frozen hy2
  obtain ⟨u0, u1, u2, u3⟩ := row4_cells hz2
  obtain ⟨v0, v1, v2, v3⟩ := row4_frozen hz2
  have HB2 := Lib.hid hb2
  have HY2 := Lib.hid hy2
  have HZ2 := Lib.hid hz2
  clear hx2 hb2 HRt hy2 hz2
  refine hq.out ?_
  clear hq
  simp only [HR0.out]
  go_wp2_with fail
  obtain ⟨g1, g2⟩ := row4_put HY2.out (.bool false) (.slice none 0 0) (.slice none 0 0) (.slice none 0 0)
  have hz3 := (g2.block (r + 1 + 1) (Array.getElem?_eq_some_iff.1 HZ2.out).1 (by show ¬ r + 1 + 1 = r + 1; omega)).trans HZ2.out
  obtain ⟨k1, k2⟩ := row4_put hz3 (.bool false) (.slice none 0 0) (.slice none 0 0) (.slice none 0 0)
  have g3 := (k2.block (r + 1) (Array.getElem?_eq_some_iff.1 g1).1 (by show ¬ r + 1 = r + 1 + 1; omega)).trans g1
  refine bodyPost_ret_by (results_cellCellTmp rfl _ rfl rfl rfl (run_retNodeR g3) (run_retNodeR k1)) rfl ?_
  refine ⟨rfl, ?_⟩
  have hs2 : r + 3 ≤ w2.heap.size := by have := HB2.out.size; rw [HS1.out] at this; exact this
  have hfin := (HB.out.trans (HB2.out.mono (by rw [HS1.out]; omega))).trans ((g2.below (B := r) (by omega) (fun k hk e => by have e' : k = r + 1 := e; omega)).trans (k2.below (by have := g2.size; omega) (fun k hk e => by have e' : k = r + 1 + 1 := e; omega)))
  exact (show Below w.heap.size w _ from by rw [HR0.out]; exact hfin)
theorem change_fore {n : NodeM} (h : RightM n) (md : Nat) (h1 : 1 ≤ md) (h2 : md < n.keys.length) : changeM n md (n.keys.length - md) zeroM = firstM (partM n 0 md) := by
  have e : md + (n.keys.length - md) = n.keys.length := by omega
  obtain ⟨lf, ks, vs, is⟩ := n
  simp only at e h2
  cases lf
  · obtain ⟨_, e1, _, h3, h4, _⟩ := right_inner.1 h
    subst h3
    have e2 : partM ⟨false, ks, [], is⟩ 0 md = ⟨false, ks.take md, [], is.take md⟩ := by unfold partM; simp
    rw [e2, firstM_inner, set0_same (by unfold atL; rw [List.getD_eq_getElem?_getD, List.getElem?_take_of_lt (by omega)]; exact h4)]
    unfold changeM zeroM
    simp only [e, Bool.false_eq_true, if_false]
    rw [List.drop_length, ← e1, List.drop_length]; simp
  · obtain ⟨_, e1, h3, _⟩ := right_leaf.1 h
    subst h3
    have e2 : partM ⟨true, ks, vs, []⟩ 0 md = ⟨true, ks.take md, vs.take md, []⟩ := by unfold partM; simp
    rw [e2, firstM_leaf]
    unfold changeM zeroM
    simp only [e, if_true]
    rw [List.drop_length, ← e1, List.drop_length]; simp
theorem change_hind {n : NodeM} (h : RightM n) (md : Nat) (h2 : md < n.keys.length) : changeM n 0 md zeroM = partM n md n.keys.length := by
  obtain ⟨lf, ks, vs, is⟩ := n
  simp only at h2
  cases lf
  · obtain ⟨_, e1, _, h3, h4, _⟩ := right_inner.1 h
    subst h3
    unfold changeM partM zeroM
    simp only [Bool.false_eq_true, if_false]
    rw [List.take_length, ← e1, List.take_length]; simp
  · obtain ⟨_, e1, h3, _⟩ := right_leaf.1 h
    subst h3
    unfold changeM partM zeroM
    simp only [if_true]
    rw [List.take_length, ← e1, List.take_length]; simp
set_option maxRecDepth 10000 in
set_option maxHeartbeats 16000000 in
theorem refCut_calls {w : World} {n : NodeM} {kA : Option Addr} {kc : Nat} {vA : Option Addr} {vc : Nat} {iA : Option Addr} {ic : Nat} (h : NodeAt w n kA kc vA vc iA ic) (hr : RightM n) (hn : n.keys.length ≤ 1000) (h2 : 2 ≤ n.keys.length) :
    Calls Tryd.prog 29 #[.agg #[.bool n.leaf, .slice kA n.keys.length kc, .slice vA n.vals.length vc, .slice iA n.kids.length ic]] w fun e w' => ∃ kB kd vB vd iB id kC ke vC ve iC ie, e = .returned (.tuple #[.agg #[.bool n.leaf, .slice kB (halfA n).keys.length kd, .slice vB (halfA n).vals.length vd, .slice iB (halfA n).kids.length id], .agg #[.bool n.leaf, .slice kC (halfB n).keys.length ke, .slice vC (halfB n).vals.length ve, .slice iC (halfB n).kids.length ie], .int .i64 0]) ∧ Hid (NodeT w' (halfA n) kB kd vB vd iB id ∧ NodeT w' (halfB n) kC ke vC ve iC ie ∧ Below w.heap.size w w') := by
  obtain ⟨hm1, hm2⟩ := midN_bounds h2
  obtain ⟨hv1, hv2, hv3⟩ := hr.lens
  have hr2 := hr.two
  have hs1 : ∀ w, (Go.sizeOf (Tryd.prog.elem 23)).run Tryd.prog w = .ok 1 w := fun w => by kernel_rfl
  have HRt0 := Lib.hid (fun w' (h' : NodeAt w' n kA kc vA vc iA ic) => refRight_calls h')
  rw [rightB_true hr] at HRt0
  have HCe0 := Lib.hid (fun w' (h' : NodeAt w' n kA kc vA vc iA ic) => refCells_calls h' hr hn)
  have HCa0 : Hid (∀ w', NodeAt w' n kA kc vA vc iA ic → Calls Tryd.prog 60 #[.agg #[.bool n.leaf, .slice kA n.keys.length kc, .slice vA n.vals.length vc, .slice iA n.kids.length ic], .int .i64 (midN n : Int), .int .i64 ((n.keys.length - midN n : Nat) : Int), .agg #[.bool false, .slice none 0 0, .slice none 0 0, .slice none 0 0]] w' fun e w'' => ∃ kB kd vB vd iB id, e = .returned (.agg #[.bool n.leaf, .slice kB (halfA n).keys.length kd, .slice vB (halfA n).vals.length vd, .slice iB (halfA n).kids.length id]) ∧ Hid (NodeT w'' (halfA n) kB kd vB vd iB id ∧ Below w'.heap.size w' w'')) := fun w' h => by
    have hh := Change_calls h (NodeAt.zero w') (midN n) (n.keys.length - midN n) (by omega) (fun hl => by rw [hr2.1 hl]; omega) (fun hl => by rw [hr2.2 hl]; omega) ⟨by omega, by omega, by omega, by decide, by decide, by decide⟩
    rw [change_fore hr (midN n) hm1 hm2] at hh
    exact hh
  have HCb0 : Hid (∀ w', NodeAt w' n kA kc vA vc iA ic → Calls Tryd.prog 60 #[.agg #[.bool n.leaf, .slice kA n.keys.length kc, .slice vA n.vals.length vc, .slice iA n.kids.length ic], .int .i64 0, .int .i64 (midN n : Int), .agg #[.bool false, .slice none 0 0, .slice none 0 0, .slice none 0 0]] w' fun e w'' => ∃ kB kd vB vd iB id, e = .returned (.agg #[.bool n.leaf, .slice kB (partM n (midN n) n.keys.length).keys.length kd, .slice vB (partM n (midN n) n.keys.length).vals.length vd, .slice iB (partM n (midN n) n.keys.length).kids.length id]) ∧ Hid (NodeT w'' (partM n (midN n) n.keys.length) kB kd vB vd iB id ∧ Below w'.heap.size w' w'')) := fun w' h => by
    have hh := Change_calls h (NodeAt.zero w') 0 (midN n) (by omega) (fun hl => by rw [hr2.1 hl]; omega) (fun hl => by rw [hr2.2 hl]; omega) ⟨by omega, by omega, by omega, by decide, by decide, by decide⟩
    rw [change_hind hr (midN n) hm2] at hh
    exact hh
  have HFi0 : Hid (∀ w' kB kd vB vd iB id, NodeT w' (partM n (midN n) n.keys.length) kB kd vB vd iB id → Calls Tryd.prog 61 #[.agg #[.bool n.leaf, .slice kB (partM n (midN n) n.keys.length).keys.length kd, .slice vB (partM n (midN n) n.keys.length).vals.length vd, .slice iB (partM n (midN n) n.keys.length).kids.length id]] w' fun e w'' => ∃ kB kd, e = .returned (.agg #[.bool n.leaf, .slice kB (halfB n).keys.length kd, .slice vB (halfB n).vals.length vd, .slice iB (halfB n).kids.length id]) ∧ Hid (NodeT w'' (halfB n) kB kd vB vd iB id ∧ Below w'.heap.size w' w'')) := fun w' kB kd vB vd iB id h => by
    have hh := refFirst_calls h (by show ((n.keys.take n.keys.length).drop (midN n)).length ≤ 2000; rw [List.length_drop, List.length_take]; omega)
    obtain ⟨q1, q2, q3, q4⟩ := firstM_shape (partM n (midN n) n.keys.length)
    rw [show (halfB n).vals = (partM n (midN n) n.keys.length).vals from q3, show (halfB n).kids = (partM n (midN n) n.keys.length).kids from q4]
    exact hh
  have HTk : Hid (∀ w' A c t, RowsB w' A (cellsB n) → (A = none → c = 0) → n.keys.length ≤ c → t ≤ n.keys.length → ∃ B1 B2, (∀ w, (Instr.slice 23 (.slice A n.keys.length c) none (some (.int .i64 (t : Int))) none).run Tryd.prog w = .ok (.slice B1 t c) w) ∧ (∀ w, (Instr.slice 23 (.slice A n.keys.length c) (some (.int .i64 (t : Int))) none none).run Tryd.prog w = .ok (.slice B2 (n.keys.length - t) (c - t)) w) ∧ Calls Tryd.prog 41 #[.slice B1 t c] w' (fun e w'' => e = .returned (.int .i64 (sizeN n t : Int)) ∧ w' = w'') ∧ Calls Tryd.prog 41 #[.slice B2 (n.keys.length - t) (c - t)] w' (fun e w'' => e = .returned (.int .i64 ((takenN n - sizeN n t : Nat) : Int)) ∧ w' = w'')) := fun w' A c t hR hnil hc ht => by
    obtain ⟨us, hul, hu, hur⟩ := RowsR.of hR
    rw [cellsB_length] at hul
    have hcl := cellsB_length n
    obtain ⟨B1, r1, b1, v1⟩ := run_head (n := n.keys.length) Tryd.underlying23 hs1 (A := A) (c := c) (i := t) ht hc hnil
    obtain ⟨B2, r2, b2, v2⟩ := run_suf (n := n.keys.length) Tryd.underlying23 hs1 (A := A) (c := c) (i := t) ht hc hnil
    have hT := sizeN_le hr n.keys.length (Nat.le_refl _)
    have hsp := sizC_take_drop (cellsB n) t
    have e1 : 2 * ((cellsB n).take t).length + sizC ((cellsB n).take t) = sizeN n t := by unfold sizeN; rw [List.length_take, hcl, Nat.min_eq_left ht]
    have e2 : 2 * ((cellsB n).drop t).length + sizC ((cellsB n).drop t) = takenN n - sizeN n t := by
      unfold takenN sizeN; rw [List.length_drop, hcl, List.take_of_length_le (by rw [hcl]; exact Nat.le_refl _)]; omega
    have hle : sizeN n t ≤ takenN n := by unfold takenN sizeN; rw [List.take_of_length_le (l := cellsB n) (i := n.keys.length) (by rw [hcl]; exact Nat.le_refl _)]; omega
    have hTn : takenN n ≤ 112 * n.keys.length := hT
    refine ⟨B1, B2, r1, r2, ?_, ?_⟩
    · have hh := refTaken_calls B1 t c ((cellsB n).take t) w' (by rw [List.length_take, hcl]; omega) ((hur.take t).rows (v1 w' us hu)) (by rw [e1]; omega)
      rw [e1] at hh; exact hh
    · have hh := refTaken_calls B2 (n.keys.length - t) (c - t) ((cellsB n).drop t) w' (by rw [List.length_drop, hcl]) ((hur.drop t).rows (v2 w' us hul hu)) (by rw [e2]; omega)
      rw [e2] at hh; exact hh
  have HUn : Hid (∀ t, t ≤ n.keys.length → sizeN n t ≤ takenN n ∧ takenN n ≤ 112000 ∧ (2 * (sizeN n t : Int) - (takenN n : Int) < 0 → unlN n t = (takenN n : Int) - 2 * (sizeN n t : Int)) ∧ (¬ 2 * (sizeN n t : Int) - (takenN n : Int) < 0 → unlN n t = 2 * (sizeN n t : Int) - (takenN n : Int)) ∧ 0 ≤ unlN n t ∧ unlN n t ≤ 112000) := fun t ht => by
    have hcl := cellsB_length n
    have hT : takenN n ≤ 112 * n.keys.length := sizeN_le hr n.keys.length (Nat.le_refl _)
    have hsp := sizC_take_drop (cellsB n) t
    have hle : sizeN n t ≤ takenN n := by unfold takenN sizeN; rw [List.take_of_length_le (l := cellsB n) (i := n.keys.length) (by rw [hcl]; exact Nat.le_refl _)]; omega
    unfold unlN
    refine ⟨hle, by omega, fun h => by omega, fun h => by omega, by omega, by omega⟩
  have HBu : Hid (∀ k, 2 ≤ k → bestU (unlN n) k = if unlN n k < unlN n (bestU (unlN n) (k - 1)) then k else bestU (unlN n) (k - 1)) := fun k hk => by
    obtain ⟨j, rfl⟩ : ∃ j, k = j + 2 := ⟨k - 2, by omega⟩
    rw [bestU]; rfl
  have HBl : Hid (∀ k, 1 ≤ k → 1 ≤ bestU (unlN n) k ∧ bestU (unlN n) k ≤ k) := fun k hk => bestU_le _ k hk
  have HMd : Hid (midN n = bestU (unlN n) (n.keys.length - 1)) := rfl
  obtain ⟨nk, hnk⟩ : ∃ k, n.keys.length = k := ⟨_, rfl⟩
  obtain ⟨nv, hnv⟩ : ∃ k, n.vals.length = k := ⟨_, rfl⟩
  obtain ⟨ni, hni⟩ : ∃ k, n.kids.length = k := ⟨_, rfl⟩
  obtain ⟨lf, hlf⟩ : ∃ k, n.leaf = k := ⟨_, rfl⟩
  obtain ⟨md, hmd⟩ : ∃ k, midN n = k := ⟨_, rfl⟩
  obtain ⟨nd, hnd⟩ : ∃ k, n.keys.length - midN n = k := ⟨_, rfl⟩
  obtain ⟨M, hM⟩ : ∃ x, partM n (midN n) n.keys.length = x := ⟨_, rfl⟩
  obtain ⟨HA, hHA⟩ : ∃ x, halfA n = x := ⟨_, rfl⟩
  obtain ⟨HBx, hHB⟩ : ∃ x, halfB n = x := ⟨_, rfl⟩
  rw [hM] at HCb0 HFi0
  rw [hHA] at HCa0 ⊢
  rw [hHB] at HFi0 ⊢
  rw [hnd] at HCa0
  rw [hmd] at HCa0 HCb0 HMd hnd
  obtain ⟨a1, ha1⟩ : ∃ k, HA.keys.length = k := ⟨_, rfl⟩
  obtain ⟨a2, ha2⟩ : ∃ k, HA.vals.length = k := ⟨_, rfl⟩
  obtain ⟨a3, ha3⟩ : ∃ k, HA.kids.length = k := ⟨_, rfl⟩
  obtain ⟨b1, hb1⟩ : ∃ k, HBx.keys.length = k := ⟨_, rfl⟩
  obtain ⟨b2, hb2'⟩ : ∃ k, HBx.vals.length = k := ⟨_, rfl⟩
  obtain ⟨b3, hb3'⟩ : ∃ k, HBx.kids.length = k := ⟨_, rfl⟩
  obtain ⟨m1, hm1'⟩ : ∃ k, M.keys.length = k := ⟨_, rfl⟩
  obtain ⟨m2, hm2'⟩ : ∃ k, M.vals.length = k := ⟨_, rfl⟩
  obtain ⟨m3, hm3'⟩ : ∃ k, M.kids.length = k := ⟨_, rfl⟩
  simp only [hnk, hnv, hni, hlf, ha1, ha2, ha3, hb1, hb2', hb3', hm1', hm2', hm3'] at HRt0 HCe0 HCa0 HCb0 HFi0 HTk HUn HMd
  rw [hnk, hnv, hni, hlf, ha1, ha2, ha3, hb1, hb2', hb3']
  rw [hnk] at hn h2 hm2 hnd
  rw [hmd] at hm1 hm2
  have HND : Hid (((nd : Nat) : Int) = (nk : Int) - (md : Int)) := by show _ = _; omega
  have h2i : (2 : Int) ≤ (nk : Int) := by omega
  obtain ⟨h1, hr2', hr3⟩ := node2_boxT w (.bool lf) (.slice kA nk kc) (.slice vA nv vc) (.slice iA ni ic) (.bool false) (.slice none 0 0) (.slice none 0 0) (.slice none 0 0) 26
  obtain ⟨W0, hW0⟩ : ∃ x, (w.alloc (.cells #[.bool lf, .slice kA nk kc, .slice vA nv vc, .slice iA ni ic] 26)).alloc (.cells #[.bool false, .slice none 0 0, .slice none 0 0, .slice none 0 0] 26) = x := ⟨_, rfl⟩
  rw [hW0] at h1 hr2' hr3
  have hs0 : W0.heap.size = w.heap.size + 2 := by rw [← hW0]; simp
  have hb2 : Below W0.heap.size W0 (W0.alloc (.cells #[.bool false, .slice none 0 0, .slice none 0 0, .slice none 0 0] 26)) := (Below.refl _ _).alloc (Nat.le_refl _) _
  have hr4 := heap_alloc_new W0 (.cells #[.bool false, .slice none 0 0, .slice none 0 0, .slice none 0 0] 26)
  have hx1 := (hb2.block _ (by omega)).trans hr2'
  have hy1 := (hb2.block _ (by omega)).trans hr3
  obtain ⟨W1, hW1⟩ : ∃ x, W0.alloc (.cells #[.bool false, .slice none 0 0, .slice none 0 0, .slice none 0 0] 26) = x := ⟨_, rfl⟩
  rw [hW1] at hb2 hr4 hx1 hy1
  rw [hs0] at hr4
  have hsz1 : W1.heap.size = w.heap.size + 3 := by rw [← hW1]; simp [hs0]
  have hW1' : ((w.alloc (.cells #[.bool lf, .slice kA nk kc, .slice vA nv vc, .slice iA ni ic] 26)).alloc (.cells #[.bool false, .slice none 0 0, .slice none 0 0, .slice none 0 0] 26)).alloc (.cells #[.bool false, .slice none 0 0, .slice none 0 0, .slice none 0 0] 26) = W1 := by rw [hW0]; exact hW1
  have hbw : Below w.heap.size w W1 := h1.trans (hb2.mono (by omega))
  obtain ⟨r, hr0⟩ : ∃ r, w.heap.size = r := ⟨_, rfl⟩
  have HNA := Lib.hid h
  have HRt := Lib.hid (HRt0.out W1 (h.below hbw))
  rw [hr0] at hr4 hx1 hy1 hbw hsz1
  have HX := Lib.hid (box_cells hx1)
  have HY := Lib.hid hy1
  have HZ := Lib.hid hr4
  have HB := Lib.hid hbw
  have HR0 := Lib.hid hr0
  have HS1 := Lib.hid hsz1
  have HW := Lib.hid hW1'
  have HWb : Hid (∀ x, Below r w x → Below w.heap.size w x) := fun x hx => by rw [hr0]; exact hx
  rw [← hW1'] at HRt
  clear h1 hr2' hr3 hW0 hs0 hb2 hr4 hx1 hy1 hW1 hsz1 hW1' hbw h hr hr0 HRt0 hM hHA hHB hnk hnv hni hlf ha1 ha2 ha3 hb1 hb2' hb3' hm1' hm2' hm3' hmd hnd hv1 hv2 hv3 hr2 hs1
  go_enter Tryd.func29, Tryd.ntmps29
  go_wp2_with (go_at_call 15; (with_reducible refine HRt.out.mono ?_); rintro e w2 ⟨rfl, hb2⟩; refine park ?_; intro q hq)
  rw [HW.out] at hb2
  have HB2 : Hid (Below W1.heap.size W1 w2) := Lib.hid hb2
  have HCe := Lib.hid (HCe0.out w2 (HNA.out.below (HWb.out _ (HB.out.trans (hb2.mono (by rw [HS1.out]; omega))))))
  obtain ⟨x0, x1, x2, x3⟩ := HX.out w2 hb2
  clear hb2 HRt HCe0
  refine hq.out ?_
  clear hq
  simp only [HR0.out]
  go_wp2_with (go_at_call 34; (with_reducible refine HCe.out.mono ?_); rintro e w3 ⟨A, c, rfl, h3⟩; refine park ?_; intro q hq)
  have HB3 : Hid (Below W1.heap.size W1 w3) := Lib.hid (HB2.out.trans (h3.out.2.mono HB2.out.size))
  have HRw := Lib.hid h3.out.1.rows
  obtain ⟨A', c', e3, _, hcl3, hcm3, hcn3⟩ := h3.out.1.slice
  simp only [Value.slice.injEq] at e3
  obtain ⟨rfl, hl3, rfl⟩ := e3
  rw [← hl3] at hcl3
  have HCn : Hid ((A = none → c = 0) ∧ nk ≤ c) := Lib.hid ⟨hcn3, hcl3⟩
  clear x0 x1 x2 x3 HCe h3 HB2 hl3 hcl3 hcm3 hcn3
  refine hq.out ?_
  clear hq
  go_wp2_with fail
  go_loopw [5, 6, 8] (fun b a i wr => ∃ t : Nat, 1 ≤ t ∧ t ≤ nk ∧ i = .int .i64 (t : Int) ∧ Hid (Below w3.heap.size w3 wr) ∧ ((t = 1 ∧ b = .int .i64 (-1) ∧ a = .int .i64 0) ∨ (2 ≤ t ∧ ∃ p : Nat, ∃ u : Int, a = .int .i64 (p : Int) ∧ b = .int .i64 u ∧ 0 ≤ u ∧ Hid (p = bestU (unlN n) (t - 1) ∧ u = unlN n p)))) (fun _ _ i _ => nk - (intOf i).toNat)
  case atStart => exact ⟨1, Nat.le_refl _, by omega, rfl, Below.refl _ _, .inl ⟨rfl, rfl, rfl⟩⟩
  case round =>
    obtain ⟨t, ht1, ht, rfl, HBr, hor⟩ := hrel
    have HBW : Hid (Below W1.heap.size W1 wr) := Lib.hid (HB3.out.trans (HBr.out.mono HB3.out.size))
    obtain ⟨x0, x1, x2, x3⟩ := HX.out wr HBW.out
    by_cases hlt : t < nk
    · obtain ⟨B1, B2, s1, s2, T1, T2⟩ := HTk.out wr.drew A c t ((HRw.out.below HBr.out).below (Below.refl _ _).drew) HCn.out.1 HCn.out.2 ht
      obtain ⟨n2, hn2⟩ : ∃ x, nk - t = x := ⟨_, rfl⟩
      obtain ⟨c2, hc2⟩ : ∃ x, c - t = x := ⟨_, rfl⟩
      rw [hn2, hc2] at s2 T2
      obtain ⟨hu1, hu2, hu3, hu4, hu5, hu6⟩ := HUn.out t ht
      obtain ⟨S1, hS1⟩ : ∃ x, sizeN n t = x := ⟨_, rfl⟩
      obtain ⟨ST, hST⟩ : ∃ x, takenN n = x := ⟨_, rfl⟩
      obtain ⟨S2, hS2⟩ : ∃ x, ST - S1 = x := ⟨_, rfl⟩
      rw [hS1, hST] at hu3 hu4
      rw [hS1, hST] at hu1
      rw [hST] at hu2
      rw [hS1] at T1
      rw [hST, hS1, hS2] at T2
      have HT1 := Lib.hid T1
      have HT2 := Lib.hid T2
      obtain ⟨D, hD⟩ : ∃ x : Int, 2 * (S1 : Int) - (ST : Int) = x := ⟨_, rfl⟩
      obtain ⟨U, hU⟩ : ∃ x : Int, unlN n t = x := ⟨_, rfl⟩
      have hu3' : D < 0 → U = -D := fun h => by rw [← hU, hu3 (by rw [hD]; exact h)]; omega
      have hu4' : ¬ D < 0 → U = D := fun h => by rw [← hU, hu4 (by rw [hD]; omega)]; omega
      rw [hU] at hu5 hu6
      have hwd : IntKind.i64.wrap ((S1 : Int) - (S2 : Int)) = D := by rw [IntWalk.i64_in _ (by omega)]; omega
      have hwn : wrap64 (-D) = -D := by unfold wrap64; omega
      have HU := Lib.hid hU
      clear T1 T2 hS1 hST hS2 hu1 hu2 hu3 hu4 hD hn2 hc2 hU
      go_wp2_with fail
      clear x0 x1 x2 x3
      have hS0 : wr.drew = wr.drew := rfl
      refine wp_region_M (fun w' => w' = wr.drew) 9 (by as_aux_lemma => kernel_rfl) ?_
      refine mAnyTake (i := 0) (v := Value.slice A nk c) (some 32) [0, 2, 3, 8, 9] (by as_aux_lemma => kernel_rfl) rfl rfl (by decide) (by as_aux_lemma => kernel_rfl) rfl rfl (by as_aux_lemma => kernel_rfl) (by as_aux_lemma => kernel_rfl) (by as_aux_lemma => kernel_rfl) (fun _ _ _ h => h) (Or.inl ⟨by rfl, fun w => by go_simp⟩) hS0 ?_
      try simp only [Act.put, List.setIfInBounds_toArray, List.set_cons_zero, List.set_cons_succ]
      refine mAnyTake (i := 1) (v := Value.int IntKind.i64 (t : Int)) (some 33) [1, 2, 3, 8, 9] (by as_aux_lemma => kernel_rfl) rfl rfl (by decide) (by as_aux_lemma => kernel_rfl) rfl rfl (by as_aux_lemma => kernel_rfl) (by as_aux_lemma => kernel_rfl) (by as_aux_lemma => kernel_rfl) (fun _ _ _ h => h) (Or.inl ⟨by rfl, fun w => by go_simp⟩) hS0 ?_
      try simp only [Act.put, List.setIfInBounds_toArray, List.set_cons_zero, List.set_cons_succ]
      refine mAnyTake (i := 2) (v := Value.slice B1 t c) (some 34) [2, 3, 8, 9] (by as_aux_lemma => kernel_rfl) rfl rfl (by decide) (by as_aux_lemma => kernel_rfl) rfl rfl (by as_aux_lemma => kernel_rfl) (by as_aux_lemma => kernel_rfl) (by as_aux_lemma => kernel_rfl) (fun _ _ _ h => h) (Or.inl ⟨by rfl, fun w => by go_simp⟩) hS0 ?_
      try simp only [Act.put, List.setIfInBounds_toArray, List.set_cons_zero, List.set_cons_succ]
      refine mAnyTake (i := 4) (v := Value.slice A nk c) (some 36) [4, 6, 7, 8, 9] (by as_aux_lemma => kernel_rfl) rfl rfl (by decide) (by as_aux_lemma => kernel_rfl) rfl rfl (by as_aux_lemma => kernel_rfl) (by as_aux_lemma => kernel_rfl) (by as_aux_lemma => kernel_rfl) (fun _ _ _ h => h) (Or.inl ⟨by rfl, fun w => by go_simp⟩) hS0 ?_
      try simp only [Act.put, List.setIfInBounds_toArray, List.set_cons_zero, List.set_cons_succ]
      refine mAnyTake (i := 5) (v := Value.int IntKind.i64 (t : Int)) (some 37) [5, 6, 7, 8, 9] (by as_aux_lemma => kernel_rfl) rfl rfl (by decide) (by as_aux_lemma => kernel_rfl) rfl rfl (by as_aux_lemma => kernel_rfl) (by as_aux_lemma => kernel_rfl) (by as_aux_lemma => kernel_rfl) (fun _ _ _ h => h) (Or.inl ⟨by rfl, fun w => by go_simp⟩) hS0 ?_
      try simp only [Act.put, List.setIfInBounds_toArray, List.set_cons_zero, List.set_cons_succ]
      refine mAnyTake (i := 6) (v := Value.slice B2 n2 c2) (some 38) [6, 7, 8, 9] (by as_aux_lemma => kernel_rfl) rfl rfl (by decide) (by as_aux_lemma => kernel_rfl) rfl rfl (by as_aux_lemma => kernel_rfl) (by as_aux_lemma => kernel_rfl) (by as_aux_lemma => kernel_rfl) (fun _ _ _ h => h) (Or.inl ⟨by rfl, fun w => by go_simp⟩) hS0 ?_
      try simp only [Act.put, List.setIfInBounds_toArray, List.set_cons_zero, List.set_cons_succ]
      refine mOne (i := 3) (by as_aux_lemma => kernel_rfl) rfl (fun K hK => ?_)
      have HK := Lib.hid hK
      clear hK
      rw [if_pos (by rfl)]
      refine wp_goCall 41 _ _ (by rfl) Tryd.func41 (by kernel_rfl) (by kernel_rfl) _ (by simp [Act.eval]) HT1.out ?_
      rintro e w9 ⟨rfl, rfl⟩
      refine ⟨_, rfl, ?_⟩
      refine HK.out _ _ (.inr rfl) ?_
      clear HK
      try simp only [Act.put, List.setIfInBounds_toArray, List.set_cons_zero, List.set_cons_succ]
      refine mOne (i := 7) (by as_aux_lemma => kernel_rfl) rfl (fun K hK => ?_)
      have HK := Lib.hid hK
      clear hK
      rw [if_pos (by rfl)]
      refine wp_goCall 41 _ _ (by rfl) Tryd.func41 (by kernel_rfl) (by kernel_rfl) _ (by simp [Act.eval]) HT2.out ?_
      rintro e w9 ⟨rfl, rfl⟩
      refine ⟨_, rfl, ?_⟩
      refine HK.out _ _ (.inr rfl) ?_
      clear HK
      try simp only [Act.put, List.setIfInBounds_toArray, List.set_cons_zero, List.set_cons_succ]
      refine mOne (i := 8) (by as_aux_lemma => kernel_rfl) rfl (fun K hK => ?_)
      have HK := Lib.hid hK
      clear hK
      rw [if_pos (by rfl)]
      go_wp2_with fail
      refine HK.out _ _ (.inr rfl) ?_
      clear HK
      try simp only [Act.put, List.setIfInBounds_toArray, List.set_cons_zero, List.set_cons_succ]
      refine mOne (i := 9) (by as_aux_lemma => kernel_rfl) rfl (fun K hK => ?_)
      have HK := Lib.hid hK
      clear hK
      rw [if_pos (by rfl)]
      go_wp2_with fail
      refine HK.out _ _ (.inr rfl) ?_
      clear HK
      try simp only [Act.put, List.setIfInBounds_toArray, List.set_cons_zero, List.set_cons_succ]
      refine mDone (by as_aux_lemma => kernel_rfl) ?_ _
      have HBd : Hid (Below w3.heap.size w3 wr.drew) := Lib.hid HBr.out.drew
      clear HT1 HT2 s1 s2 hS0 HBr hwd
      by_cases hneg : D < 0
      · have hUD := hu3' hneg
        obtain ⟨D', hD'⟩ : ∃ x : Int, -D = x := ⟨_, rfl⟩
        rw [hD'] at hwn hUD
        subst hUD
        have d1 : decide (D < 0) = true := decide_eq_true hneg
        rcases hor with ⟨rfl, rfl, rfl⟩ | ⟨ht2, p, u, rfl, rfl, hu0, HPu⟩
        · clear hu3' hu4' hneg
          go_wp2_with fail
          exact ⟨⟨1 + 1, by omega, by omega, by simp, HBd.out, .inr ⟨by omega, 1, U, by simp, rfl, hu5, Lib.hid ⟨rfl, HU.out.symm⟩⟩⟩, by simp [intOf]; omega⟩
        · have d2 : decide (u < 0) = false := decide_eq_false (by omega)
          have hbu := HBu.out t ht2
          rw [← HPu.out.1, ← HPu.out.2, HU.out] at hbu
          by_cases hcmp : U < u
          · have d3 : decide (U < u) = true := decide_eq_true hcmp
            rw [if_pos hcmp] at hbu
            have HBb := Lib.hid hbu
            clear hu3' hu4' hneg hbu
            go_wp2_with fail
            exact ⟨⟨t + 1, by omega, by omega, by simp, HBd.out, .inr ⟨by omega, t, U, rfl, rfl, hu5, Lib.hid ⟨by rw [Nat.add_sub_cancel]; exact HBb.out.symm, HU.out.symm⟩⟩⟩, by simp [intOf]; omega⟩
          · have d3 : decide (U < u) = false := decide_eq_false hcmp
            rw [if_neg hcmp] at hbu
            have HBb := Lib.hid hbu
            clear hu3' hu4' hneg hbu
            go_wp2_with fail
            exact ⟨⟨t + 1, by omega, by omega, by simp, HBd.out, .inr ⟨by omega, p, u, rfl, rfl, hu0, Lib.hid ⟨by rw [Nat.add_sub_cancel]; exact HBb.out.symm, HPu.out.2⟩⟩⟩, by simp [intOf]; omega⟩
      · have hUD := hu4' (by omega)
        subst hUD
        have d1 : decide (U < 0) = false := decide_eq_false hneg
        rcases hor with ⟨rfl, rfl, rfl⟩ | ⟨ht2, p, u, rfl, rfl, hu0, HPu⟩
        · clear hu3' hu4' hneg
          go_wp2_with fail
          exact ⟨⟨1 + 1, by omega, by omega, by simp, HBd.out, .inr ⟨by omega, 1, U, by simp, rfl, hu5, Lib.hid ⟨rfl, HU.out.symm⟩⟩⟩, by simp [intOf]; omega⟩
        · have d2 : decide (u < 0) = false := decide_eq_false (by omega)
          have hbu := HBu.out t ht2
          rw [← HPu.out.1, ← HPu.out.2, HU.out] at hbu
          by_cases hcmp : U < u
          · have d3 : decide (U < u) = true := decide_eq_true hcmp
            rw [if_pos hcmp] at hbu
            have HBb := Lib.hid hbu
            clear hu3' hu4' hneg hbu
            go_wp2_with fail
            exact ⟨⟨t + 1, by omega, by omega, by simp, HBd.out, .inr ⟨by omega, t, U, rfl, rfl, hu5, Lib.hid ⟨by rw [Nat.add_sub_cancel]; exact HBb.out.symm, HU.out.symm⟩⟩⟩, by simp [intOf]; omega⟩
          · have d3 : decide (U < u) = false := decide_eq_false hcmp
            rw [if_neg hcmp] at hbu
            have HBb := Lib.hid hbu
            clear hu3' hu4' hneg hbu
            go_wp2_with fail
            exact ⟨⟨t + 1, by omega, by omega, by simp, HBd.out, .inr ⟨by omega, p, u, rfl, rfl, hu0, Lib.hid ⟨by rw [Nat.add_sub_cancel]; exact HBb.out.symm, HPu.out.2⟩⟩⟩, by simp [intOf]; omega⟩
    · obtain rfl : t = nk := by omega
      rcases hor with ⟨h0, _, _⟩ | ⟨ht2, p, u, rfl, rfl, hu0, HPu⟩
      · omega
      have hpm : p = md := by rw [HPu.out.1]; exact HMd.out.symm
      subst hpm
      have hNr := HNA.out.below (HWb.out _ (HB.out.trans (HBW.out.mono (by rw [HS1.out]; omega))))
      have HCa := Lib.hid (HCa0.out wr hNr)
      rw [HND.out] at HCa
      clear hlt HCa0 hNr HPu HTk HUn HBu HBl HMd HRw HCn
      obtain ⟨x0, x1, x2, x3⟩ := HX.out wr HBW.out
      go_wp2_with (go_at_call 60; (with_reducible refine HCa.out.mono ?_); rintro e w4 ⟨kB, kd, vB, vd, iB, id, rfl, h4⟩; refine park ?_; intro q hq)
      have hba : Below w4.heap.size w4 (w4.alloc (.cells #[.bool lf, .slice kB a1 kd, .slice vB a2 vd, .slice iB a3 id] 26)) := (Below.refl _ _).alloc (Nat.le_refl _) _
      have hrow5 := heap_alloc_new w4 (.cells #[.bool lf, .slice kB a1 kd, .slice vB a2 vd, .slice iB a3 id] 26)
      have hB4 : Below W1.heap.size W1 w4 := HBW.out.trans (h4.out.2.mono HBW.out.size)
      have hB5 := hB4.trans (hba.mono hB4.size)
      have hN5 := h4.out.1.below hba
      obtain ⟨W5, hW5⟩ : ∃ x, w4.alloc (.cells #[.bool lf, .slice kB a1 kd, .slice vB a2 vd, .slice iB a3 id] 26) = x := ⟨_, rfl⟩
      have hs5 : W5.heap.size = w4.heap.size + 1 := by rw [← hW5]; simp
      rw [hW5] at hrow5 hB5 hN5
      have HW5 := Lib.hid hW5
      have HN5 := Lib.hid hN5
      have HB5 := Lib.hid hB5
      have HR5 := Lib.hid hrow5
      have HS5 := Lib.hid hs5
      obtain ⟨q4, hq4⟩ : ∃ x, w4.heap.size = x := ⟨_, rfl⟩
      have HQ4 := Lib.hid hq4
      have hge4 : r + 3 ≤ q4 := by rw [← hq4, ← HS1.out]; exact hB4.size
      rw [hq4] at HR5 HS5
      have HCb := Lib.hid (HCb0.out W5 (HNA.out.below (HWb.out _ (HB.out.trans (hB5.mono (by rw [HS1.out]; omega))))))
      clear x0 x1 x2 x3
      obtain ⟨x0, x1, x2, x3⟩ := HX.out W5 hB5
      rw [← HW5.out] at HCb x0 x1 x2 x3
      clear hba hrow5 hB4 hB5 hN5 hW5 hs5 hq4 h4 HCa HCb0 HBW HBr
      refine hq.out ?_
      clear hq
      go_wp2_with (go_at_call 60; (with_reducible refine HCb.out.mono ?_); rintro e w6 ⟨kC, ke, vC, ve, iC, ie, rfl, h6⟩; refine park ?_; intro q hq)
      rw [HW5.out] at h6
      have hB6 : Below W1.heap.size W1 w6 := HB5.out.trans (h6.out.2.mono HB5.out.size)
      have hba : Below w6.heap.size w6 (w6.alloc (.cells #[.bool lf, .slice kC m1 ke, .slice vC m2 ve, .slice iC m3 ie] 26)) := (Below.refl _ _).alloc (Nat.le_refl _) _
      have hrow7 := heap_alloc_new w6 (.cells #[.bool lf, .slice kC m1 ke, .slice vC m2 ve, .slice iC m3 ie] 26)
      have hB7 := hB6.trans (hba.mono hB6.size)
      have hbb := h6.out.2.trans (hba.mono h6.out.2.size)
      have hN7 := HN5.out.below hbb
      have hM7 := h6.out.1.below hba
      have hR7 := (hbb.block q4 (by rw [HS5.out]; omega)).trans HR5.out
      have hge6 : q4 + 1 ≤ w6.heap.size := by rw [← HS5.out]; exact h6.out.2.size
      obtain ⟨W7, hW7⟩ : ∃ x, w6.alloc (.cells #[.bool lf, .slice kC m1 ke, .slice vC m2 ve, .slice iC m3 ie] 26) = x := ⟨_, rfl⟩
      have HW7 := Lib.hid hW7
      rw [hW7] at hrow7 hB7 hN7 hM7 hR7
      obtain ⟨q6, hq6⟩ : ∃ x, w6.heap.size = x := ⟨_, rfl⟩
      have HQ6 := Lib.hid hq6
      rw [hq6] at hge6 hrow7
      have hs7 : W7.heap.size = q6 + 1 := by rw [← hW7]; simp [hq6]
      have HR7 := Lib.hid hR7
      have HR8 := Lib.hid hrow7
      have HN7 := Lib.hid hN7
      have HB7 := Lib.hid hB7
      have HS7 := Lib.hid hs7
      have hz7 := (hB7.block (r + 1) (by rw [HS1.out]; omega)).trans HY.out
      have hz8 := (hB7.block (r + 1 + 1) (by rw [HS1.out]; omega)).trans HZ.out
      have HZ7 := Lib.hid hz7
      have HZ8 := Lib.hid hz8
      have HFi := Lib.hid (HFi0.out W7.drew _ _ _ _ _ _ (hM7.below (Below.refl _ _).drew))
      clear hba hrow7 hB6 hB7 hbb hN7 hM7 hR7 hW7 hq6 hs7 hz7 hz8 h6 HCb HFi0 HB5 HN5 HR5 HS5 HX HY HZ x0 x1 x2 x3
      refine hq.out ?_
      clear hq
      go_wp2_with fail
      simp only [HQ4.out, HQ6.out, HW7.out]
      have hS0 : Hid (W7.drew.heap[q4]? = some (.cells #[.bool lf, .slice kB a1 kd, .slice vB a2 vd, .slice iB a3 id] 26 (0, 0))) := Lib.hid HR7.out
      refine wp_region_M (fun w' => Hid (w'.heap[q4]? = some (.cells #[.bool lf, .slice kB a1 kd, .slice vB a2 vd, .slice iB a3 id] 26 (0, 0)))) 5 (by as_aux_lemma => kernel_rfl) ?_
      refine mTake (i := 0) (v := Value.agg #[Value.bool lf, Value.slice kB a1 kd, Value.slice vB a2 vd, Value.slice iB a3 id]) (some 67) [0, 3, 4, 5] (by as_aux_lemma => kernel_rfl) rfl rfl (by decide) (by as_aux_lemma => kernel_rfl) rfl rfl (by as_aux_lemma => kernel_rfl) (by as_aux_lemma => kernel_rfl) (by as_aux_lemma => kernel_rfl) (fun _ _ _ h => h) (Or.inl ⟨by rfl, fun w h => by ((obtain ⟨z0, z1, z2, z3⟩ := row4_cells h.out); go_simp)⟩) hS0 ?_
      try simp only [Act.put, List.setIfInBounds_toArray, List.set_cons_zero, List.set_cons_succ]
      obtain ⟨y0, y1, y2, y3⟩ := row4_cells HR8.out
      refine mOne (i := 1) (by as_aux_lemma => kernel_rfl) rfl (fun K hK => ?_)
      have HK := Lib.hid hK
      clear hK
      rw [if_pos (by rfl)]
      go_wp2_with fail
      refine HK.out _ _ (.inr hS0) ?_
      clear HK
      try simp only [Act.put, List.setIfInBounds_toArray, List.set_cons_zero, List.set_cons_succ]
      clear y0 y1 y2 y3
      refine mOne (i := 2) (by as_aux_lemma => kernel_rfl) rfl (fun K hK => ?_)
      have HK := Lib.hid hK
      clear hK
      rw [if_pos (by rfl)]
      refine wp_goCall 61 _ _ (by rfl) Tryd.func61 (by kernel_rfl) (by kernel_rfl) _ (by simp [Act.eval]) HFi.out ?_
      rintro e w8 ⟨kD, kg, rfl, h8⟩
      refine ⟨_, rfl, ?_⟩
      have hb8 : Below W7.heap.size W7 w8 := (show Below W7.heap.size W7 W7.drew from (Below.refl _ _).drew).trans h8.out.2
      have hS8 : Hid (w8.heap[q4]? = some (.cells #[.bool lf, .slice kB a1 kd, .slice vB a2 vd, .slice iB a3 id] 26 (0, 0))) := Lib.hid ((hb8.block q4 (by rw [HS7.out]; omega)).trans HR7.out)
      have hz9 := (hb8.block (r + 1) (by rw [HS7.out]; omega)).trans HZ7.out
      have hz10 := (hb8.block (r + 1 + 1) (by rw [HS7.out]; omega)).trans HZ8.out
      have HNa8 := Lib.hid (HN7.out.below hb8)
      have HNb8 := Lib.hid h8.out.1
      have HB8 : Hid (Below r w w8) := Lib.hid (HB.out.trans ((HB7.out.trans (hb8.mono HB7.out.size)).mono (by rw [HS1.out]; omega)))
      have hs8 : r + 3 ≤ w8.heap.size := by have := hb8.size; rw [HS7.out] at this; omega
      clear h8 hb8 HFi
      refine HK.out _ _ (.inr hS8) ?_
      clear HK
      try simp only [Act.put, List.setIfInBounds_toArray, List.set_cons_zero, List.set_cons_succ]
      refine mOne (i := 3) (by as_aux_lemma => kernel_rfl) rfl (fun K hK => ?_)
      have HK := Lib.hid hK
      clear hK
      rw [if_pos (by rfl)]
      refine wp_storeRow 26 (.tmp 2) (.tmp 67) rfl (r + 1) (by rfl) [.bool lf, .slice kB a1 kd, .slice vB a2 vd, .slice iB a3 id] [.bool false, .slice none 0 0, .slice none 0 0, .slice none 0 0] (by rfl) (by kernel_rfl) rfl (by intro u hu; simp only [List.mem_cons, List.mem_nil_iff, or_false] at hu; rcases hu with rfl | rfl | rfl | rfl <;> rfl) hz9 ?_
      intro w9 h9 hk9
      have hz11 := (hk9.block (r + 1 + 1) (by omega) (by show ¬ r + 1 + 1 = r + 1; omega)).trans hz10
      have hS9 : Hid (w9.heap[q4]? = some (.cells #[.bool lf, .slice kB a1 kd, .slice vB a2 vd, .slice iB a3 id] 26 (0, 0))) := Lib.hid ((hk9.block q4 (by have := (Array.getElem?_eq_some_iff.1 hS8.out).1; exact this) (by show ¬ q4 = r + 1; omega)).trans hS8.out)
      have HNa9 := Lib.hid (HNa8.out.keptN hk9 hz9 (by decide))
      have HNb9 := Lib.hid (HNb8.out.keptN hk9 hz9 (by decide))
      have HB9 : Hid (Below r w w9) := Lib.hid (HB8.out.trans (hk9.below (by omega) (fun k hk e => by have e' : k = r + 1 := e; omega)))
      have hs9 : r + 3 ≤ w9.heap.size := Nat.le_trans hs8 hk9.size
      have H9 := Lib.hid h9.out
      clear hk9 hz9 hz10 HNa8 HNb8 HB8 hS8 h9
      refine HK.out _ _ (.inr hS9) ?_
      clear HK
      try simp only [Act.put, List.setIfInBounds_toArray, List.set_cons_zero, List.set_cons_succ]
      refine mOne (i := 4) (by as_aux_lemma => kernel_rfl) rfl (fun K hK => ?_)
      have HK := Lib.hid hK
      clear hK
      rw [if_pos (by rfl)]
      refine wp_storeRow 26 (.tmp 3) (.tmp 69) rfl (r + 1 + 1) (by rfl) [.bool lf, .slice kD b1 kg, .slice vC b2 ve, .slice iC b3 ie] [.bool false, .slice none 0 0, .slice none 0 0, .slice none 0 0] (by rfl) (by kernel_rfl) rfl (by intro u hu; simp only [List.mem_cons, List.mem_nil_iff, or_false] at hu; rcases hu with rfl | rfl | rfl | rfl <;> rfl) hz11 ?_
      intro w10 h10 hk10
      have hS10 : Hid (w10.heap[q4]? = some (.cells #[.bool lf, .slice kB a1 kd, .slice vB a2 vd, .slice iB a3 id] 26 (0, 0))) := Lib.hid ((hk10.block q4 (by have := (Array.getElem?_eq_some_iff.1 hS9.out).1; exact this) (by show ¬ q4 = r + 1 + 1; omega)).trans hS9.out)
      have HNa10 := Lib.hid (HNa9.out.keptN hk10 hz11 (by decide))
      have HNb10 := Lib.hid (HNb9.out.keptN hk10 hz11 (by decide))
      have HB10 : Hid (Below r w w10) := Lib.hid (HB9.out.trans (hk10.below (by omega) (fun k hk e => by have e' : k = r + 1 + 1 := e; omega)))
      have H10a := Lib.hid ((hk10.block (r + 1) (by omega) (by show ¬ r + 1 = r + 1 + 1; omega)).trans H9.out)
      have H10 := Lib.hid h10.out
      clear hk10 hz11 HNa9 HNb9 HB9 hS9 H9 h10
      refine HK.out _ _ (.inr hS10) ?_
      clear HK
      try simp only [Act.put, List.setIfInBounds_toArray, List.set_cons_zero, List.set_cons_succ]
      refine mOne (i := 5) (by as_aux_lemma => kernel_rfl) rfl (fun K hK => ?_)
      have HK := Lib.hid hK
      clear hK
      rw [if_pos (by rfl)]
      go_wp2_with fail
      refine HK.out _ _ (by simp) ?_
      clear HK
      try simp only [Act.put, List.setIfInBounds_toArray, List.set_cons_zero, List.set_cons_succ]
      refine mDone (by as_aux_lemma => kernel_rfl) ?_ _
      go_wp2_with fail
      refine bodyPost_ret_by (results_cellCellTmp rfl _ rfl rfl rfl (run_retNodeR H10a.out) (run_retNodeR H10.out)) rfl ?_
      exact ⟨kB, kd, vB, vd, iB, id, kD, kg, vC, ve, iC, ie, rfl, HNa10.out, HNb10.out, HWb.out _ HB10.out⟩
end Go.Proofs.YtibmlgkakeakcaaDoor
