/- Rows of numbers, copied. -/
import Derived.Test.YtcgjejpekefjdaaDoorRowU
import Derived.Lib.SliceRun
set_option linter.unusedSimpArgs false
set_option linter.unusedVariables false
namespace Go.Proofs.YtcgjejpekefjdaaDoor
open Go.RowKit Go.Proofs.YtcgjejpekefjdaaDoor.Crc
theorem OwnU.lit (w : World) (base : Nat) (hb : base ≤ w.heap.size) : OwnU (w.alloc (.cells #[] 49)) base (.slice (some ⟨w.heap.size, 0, none⟩) 0 0) [] := by
  refine ⟨rfl, .inr ⟨w.heap.size, 0, #[], rfl, hb, heap_alloc_new w _, ?_, ?_, ?_, ?_⟩⟩
  all_goals simp [cellsU]
/-- Numbers that lie in a row of their own. -/
def U64o (w : World) (A : Option Addr) (zs : List Nat) : Prop := U64s w A zs ∧ ∀ ad, A = some ad → ∃ cs fz, w.heap[ad.block]? = some (.cells cs 49 fz)
theorem U64o.kept {S : Nat → Prop} {w w' : World} {A : Option Addr} {zs : List Nat} (h : U64o w A zs) (hk : Kept S w w') (hs : ∀ ad, A = some ad → ¬ S ad.block) : U64o w' A zs := by
  refine ⟨h.1.kept hk hs, fun ad hA => ?_⟩
  obtain ⟨cs, fz, hx⟩ := h.2 ad hA
  exact ⟨cs, fz, by rw [hk.block _ (Array.getElem?_eq_some_iff.1 hx).1 (hs ad hA)]; exact hx⟩
theorem U64o.below {w w' : World} {A : Option Addr} {zs : List Nat} (h : U64o w A zs) (hb : Below w.heap.size w w') : U64o w' A zs := h.kept (S := fun _ => False) (Kept.of_below hb) (fun _ _ x => x)
theorem OwnU.slo {w : World} {base : Nat} {v : Value} {zs : List Nat} (h : OwnU w base v zs) : ∃ A c, v = .slice A zs.length c ∧ (A = none → c = 0) ∧ U64o w A zs ∧ ∀ ad, A = some ad → base ≤ ad.block := by
  obtain ⟨A, c, h1, h2, h3⟩ := h.sl
  refine ⟨A, c, h1, h2, ⟨h3, fun ad hA => ?_⟩, fun ad hA => ?_⟩
  · rcases h.2 with ⟨h4, _⟩ | ⟨g, cap, cur, h4, _, h5, _⟩
    · rw [h1, hA] at h4; cases h4
    · rw [h1, hA] at h4; cases h4; exact ⟨_, _, h5⟩
  · rcases h.2 with ⟨h4, _⟩ | ⟨g, cap, cur, h4, h6, h5, _⟩
    · rw [h1, hA] at h4; cases h4
    · rw [h1, hA] at h4; cases h4; exact h6
theorem U64o.nil (w : World) : U64o w none [] := ⟨fun k hk => absurd hk (Nat.not_lt_zero _), fun ad h => by cases h⟩
set_option maxRecDepth 10000 in
set_option maxHeartbeats 400000 in
theorem Clone_calls (A : Option Addr) (n c : Nat) (zs : List Nat) (w : World) (hn : n = zs.length) (hnil : A = none → c = 0) (h : U64s w A zs) (hl : n ≤ 1000000000) :
    Calls Tryd.prog 38 #[.slice A n c] w fun e w' => ∃ A' c', e = .returned (.slice A' n c') ∧ (A' = none → c' = 0) ∧ U64o w' A' zs ∧ (∀ ad, A' = some ad → w.heap.size ≤ ad.block) ∧ Below w.heap.size w w' := by
  have qT : ∀ (w : World) (a : Option Addr) (n c n' c' : Nat), (binOp .eql 22 (.slice a n c) (.slice none n' c')).run Tryd.prog w = .ok (.bool a.isNone) w := fun w a n c n' c' => Lib.run_eql_slice_nil w _ _ a n c n' c' Tryd.underlying22
  cases A with
  | none =>
    obtain rfl := hnil rfl
    have hz : zs = [] := by
      rcases zs with _ | ⟨z, zs⟩
      · rfl
      · obtain ⟨ad, h, _⟩ := h 0 (by simp); cases h
    subst hz
    obtain rfl : n = 0 := hn
    clear h hnil
    try clear hn
    go_enter Tryd.func38, Tryd.ntmps38
    go_wp2_with fail
    go_ret
    exact ⟨none, 0, rfl, fun _ => rfl, U64o.nil _, (fun ad h => by cases h), Below.refl _ _⟩
  | some ad =>
    have HU := Lib.hid h
    have HN := Lib.hid hn
    have HL := Lib.hid hl
    clear h hnil hn hl
    go_enter Tryd.func38, Tryd.ntmps38
    go_wp2_with (with_reducible refine park_append ?_; intro q hq)
    refine hq.out ?_
    clear hq
    refine wpList_append_u64s rfl _ _ rfl w.heap.size _ [] rfl (OwnU.lit w _ (Nat.le_refl _)) ad n c zs rfl HN.out (HU.out.below ((Below.refl _ _).alloc (Nat.le_refl _) _)) (by rw [← HN.out]; have := HL.out; simp; omega) (by simp) ?_
    intro v w' H
    obtain ⟨A', c', hv, h2, h3, h4⟩ := H.out.1.slo
    have hb : Below w.heap.size w w' := ((Below.refl _ _).alloc (Nat.le_refl _) _).grown H.out.2 (by simp) (fun k hk => by cases hk; exact Nat.le_refl _)
    have HF := Lib.hid (And.intro h2 (And.intro h3 (And.intro h4 hb)))
    rw [List.nil_append, ← HN.out] at hv
    subst hv
    rw [List.nil_append] at HF
    clear H h2 h3 h4 hb HU
    go_wp2_with fail
    go_ret
    exact ⟨A', c', rfl, HF.out⟩
end Go.Proofs.YtcgjejpekefjdaaDoor
