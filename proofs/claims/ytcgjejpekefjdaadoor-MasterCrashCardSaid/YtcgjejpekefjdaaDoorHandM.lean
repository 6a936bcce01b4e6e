/- Regions that draw their order and whose last operation writes what an earlier one reads, by hand. -/
import Derived.Test.YtcgjejpekefjdaaDoorHand
set_option linter.unusedSimpArgs false
set_option linter.unusedVariables false
namespace Go.Proofs.YtcgjejpekefjdaaDoor
open Go.RowKit
section
variable {P : Program} {ops : Array Oper} {Q : Exit → Act → World → Prop} {md : Region.Mode} {S : World → Prop}
/-- Whatever order is picked from here on, and S holds behind every operation but number m. -/
def wpAnyM (P : Program) (md : Region.Mode) (ops : Array Oper) (Q : Exit → Act → World → Prop) (S : World → Prop) (m : Nat) : Nat → Array Bool → Act → World → Prop
  | 0, listed, a, w => Region.ready md ops listed = [] ∧ Q .normal a w
  | fuel + 1, listed, a, w =>
    (Region.ready md ops listed = [] → Q .normal a w) ∧
    ∀ i ∈ Region.ready md ops listed, wpOp P ops Q i (fun a' w' => (i = m ∨ S w') ∧ wpAnyM P md ops Q S m fuel (listed.setIfInBounds i true) a' w') a w
theorem wpAny_of_M {m : Nat} : ∀ (fuel : Nat) (listed : Array Bool) (a : Act) (w : World), wpAnyM P md ops Q S m fuel listed a w → wpAny P md ops Q fuel listed a w
  | 0, _, _, _, h => h
  | fuel + 1, _, _, _, h => ⟨h.1, fun i hi => wpOp_mono (fun a' w' h' => wpAny_of_M fuel _ a' w' h'.2) (h.2 i hi)⟩
/-- Operations that wait for i: the list is closed. -/
def waitB (md : Region.Mode) (ops : Array Oper) (i : Nat) (D : List Nat) : Bool :=
  D.all fun j => j == i || match ops[j]? with
    | some oj => oj.after.any fun e => Region.binds md e && D.contains e.on
    | none => false
def unlB (listed : Array Bool) (D : List Nat) : Bool := D.all fun j => !listed.getD j true
theorem unlB_spec {listed : Array Bool} {D : List Nat} (h : unlB listed D = true) (j : Nat) (hj : j ∈ D) : listed.getD j true = false := by
  unfold unlB at h
  rw [List.all_eq_true] at h
  simpa using h j hj
theorem wait_not_ready {listed : Array Bool} {i j : Nat} {D : List Nat} (hD : waitB md ops i D = true) (hu : unlB listed D = true) (hj : j ∈ D) (hji : j ≠ i) : j ∉ Region.ready md ops listed := by
  intro hr
  obtain ⟨_, oj, hoj, hall⟩ := mem_ready.1 hr
  unfold waitB at hD
  rw [List.all_eq_true] at hD
  have h := hD j hj
  simp only [hoj, Bool.or_eq_true, beq_iff_eq, hji, false_or] at h
  obtain ⟨e, he, hb⟩ := Array.any_eq_true'.1 h
  simp only [Bool.and_eq_true, List.contains_iff_mem] at hb
  have h1 := hall e he hb.1
  have h2 := unlB_spec hu e.on hb.2
  rcases Nat.lt_or_ge e.on listed.size with h' | h'
  · simp [h'] at h1 h2; rw [h2] at h1; cases h1
  · simp [Array.getElem?_eq_none h'] at h1
theorem unlB_set {listed : Array Bool} {D : List Nat} {j : Nat} (hu : unlB listed D = true) (hj : j ∉ D) : unlB (listed.setIfInBounds j true) D = true := by
  unfold unlB
  rw [List.all_eq_true]
  intro k hk
  have hkj : j ≠ k := fun h => hj (h ▸ hk)
  rw [getD_set_ne true hkj, unlB_spec hu k hk]
  rfl
theorem wpAnyM_first {m i : Nat} {oi : Oper} {v : Value} (D : List Nat) (hD : waitB md ops i D = true) (hmD : m ∈ D) (hiD : i ∈ D) (hmi : m ≠ i) (hi : ops[i]? = some oi) (hsel : ∀ (j : Nat) (o : Oper) cs b, ops[j]? = some o → o.op ≠ .select cs b)
    (hQ : ∀ c a w, Q (.panic c) (a.put oi.dst v) w → Q (.panic c) a w) :
    ∀ (fuel : Nat) (listed : Array Bool) (a : Act) (w : World), unlB listed D = true →
      (∀ j oj, ops[j]? = some oj → j ≠ i → listed.getD j true = false → (∀ e ∈ oj.after, Region.binds md e = true → e.on ≠ i) → oi.apart ops oj = true) →
      i ∈ Region.ready md ops listed → YieldsIf P ops S oi v a → S w →
      wpAnyM P md ops Q S m fuel (listed.setIfInBounds i true) (a.put oi.dst v) w → wpAnyM P md ops Q S m (fuel + 1) listed a w := by
  intro fuel
  induction fuel with
  | zero =>
    intro listed a w _ _ hr hy hS H
    refine ⟨fun h => (by rw [h] at hr; cases hr), fun j hj => ?_⟩
    by_cases hji : j = i
    · subst hji; exact hy.wpOp hi hS ⟨.inr hS, H⟩
    · have := ready_mono hj hji
      rw [H.1] at this
      cases this
  | succ fuel ih =>
    intro listed a w hu hfree hr hy hS H
    refine ⟨fun h => (by rw [h] at hr; cases hr), fun j hj => ?_⟩
    by_cases hji : j = i
    · subst hji; exact hy.wpOp hi hS ⟨.inr hS, H⟩
    · have hjD : j ∉ D := fun h => wait_not_ready hD hu h hji hj
      have hjm : j ≠ m := fun h => hjD (h ▸ hmD)
      have h1 := H.2 j (ready_mono hj hji)
      obtain ⟨hjun, oj, hoj, hall⟩ := mem_ready.1 hj
      have hnot : ∀ e ∈ oj.after, Region.binds md e = true → e.on ≠ i := fun e he hb heq => by
        have h1 := hall e he hb
        have h0 := (mem_ready.1 hr).1
        rw [heq] at h1
        rcases Nat.lt_or_ge i listed.size with h' | h'
        · simp [h'] at h0 h1; rw [h0] at h1; cases h1
        · simp [Array.getElem?_eq_none h'] at h1
      have h2 := wpOp_putIf hoj (hfree j oj hoj hji hjun hnot) (fun cs b => hsel i oi cs b hi) (fun cs b => hsel j oj cs b hoj) hQ hy h1
      have hfree' : ∀ k ok, ops[k]? = some ok → k ≠ i → (listed.setIfInBounds j true).getD k true = false →
          (∀ e ∈ ok.after, Region.binds md e = true → e.on ≠ i) → oi.apart ops ok = true := fun k ok hk hki hun hno => by
        refine hfree k ok hk hki ?_ hno
        by_cases hjk : j = k
        · subst hjk; exact hjun
        · rw [getD_set_ne true hjk] at hun; exact hun
      refine wpOp_mono (fun a' w' h3 => ?_) h2
      have hS' : S w' := by rcases h3.2.1 with h | h; exact absurd h hjm; exact h
      refine ⟨.inr hS', ih (listed.setIfInBounds j true) a' w' (unlB_set hu hjD) hfree' (ready_mono hr (Ne.symm hji)) h3.1 hS' ?_⟩
      rw [Array.setIfInBounds_comm _ _ hji]
      exact h3.2.2
variable {a : Act} {w : World} {o : Oper}
/-- Number i is taken first, that all of D wait for, number m among them. -/
theorem mTake {m i : Nat} {oi : Oper} {v : Value} {fuel : Nat} {listed : Array Bool} (dst : Option Tmp) (D : List Nat) (hD : waitB md ops i D = true) (hm : D.contains m = true) (hiD : D.contains i = true) (hmi : m ≠ i) (hu : unlB listed D = true) (hi : ops[i]? = some oi) (hd : oi.dst = dst)
    (hs : Region.noSelect ops = true) (hf : Region.free md ops listed i = true) (hr : (Region.ready md ops listed).contains i = true)
    (hQ : ∀ c a w, Q (.panic c) (a.put dst v) w → Q (.panic c) a w) (hy : YieldsIf P ops S oi v a) (hS : S w)
    (h : wpAnyM P md ops Q S m fuel (listed.setIfInBounds i true) (a.put dst v) w) : wpAnyM P md ops Q S m (fuel + 1) listed a w := by
  subst hd
  exact wpAnyM_first D hD (by simpa using hm) (by simpa using hiD) hmi hi (Region.noSelect_spec hs) hQ fuel listed a w hu (Region.free_spec hi hf) (by simpa using hr) hy hS h
/-- What yields in whatever world is taken first, whoever waits for it. -/
theorem mAnyTake {m i : Nat} {oi : Oper} {v : Value} {fuel : Nat} {listed : Array Bool} (dst : Option Tmp) (D : List Nat) (hD : waitB md ops i D = true) (hm : D.contains m = true) (hiD : D.contains i = true) (hmi : m ≠ i) (hu : unlB listed D = true) (hi : ops[i]? = some oi) (hd : oi.dst = dst)
    (hs : Region.noSelect ops = true) (hf : Region.free md ops listed i = true) (hr : (Region.ready md ops listed).contains i = true)
    (hQ : ∀ c a w, Q (.panic c) (a.put dst v) w → Q (.panic c) a w) (hy : Yields P ops oi v a) (hS : S w)
    (h : wpAnyM P md ops Q S m fuel (listed.setIfInBounds i true) (a.put dst v) w) : wpAnyM P md ops Q S m (fuel + 1) listed a w :=
  mTake dst D hD hm hiD hmi hu hi hd hs hf hr hQ hy.yieldsIf hS h
theorem mOne {m i : Nat} {fuel : Nat} {listed : Array Bool} (hr : Region.ready md ops listed = [i]) (ho : ops[i]? = some o)
    (h : ∀ K' : Act → World → Prop, (∀ a w, (i = m ∨ S w) → wpAnyM P md ops Q S m fuel (listed.setIfInBounds i true) a w → K' a w) → if Region.wanted o (yielded ops a.tmps) = true then Oper.wp P o a w K' Q else K' (a.put o.dst undef) w) : wpAnyM P md ops Q S m (fuel + 1) listed a w := by
  refine ⟨fun h0 => absurd (hr ▸ h0) (by simp), hr ▸ ?_⟩
  intro j hj
  simp only [List.mem_singleton] at hj
  subst hj
  exact wpOp_step ho (fun K' hK => h K' (fun a w hS hW => hK a w ⟨hS, hW⟩))
theorem mTwo {m i j : Nat} {oi oj : Oper} {fuel : Nat} {listed : Array Bool} (hr : Region.ready md ops listed = [i, j]) (hoi : ops[i]? = some oi) (hoj : ops[j]? = some oj)
    (h : ∀ K' : Act → World → Prop, (∀ a w, (i = m ∨ S w) → wpAnyM P md ops Q S m fuel (listed.setIfInBounds i true) a w → K' a w) → if Region.wanted oi (yielded ops a.tmps) = true then Oper.wp P oi a w K' Q else K' (a.put oi.dst undef) w)
    (h' : ∀ K' : Act → World → Prop, (∀ a w, (j = m ∨ S w) → wpAnyM P md ops Q S m fuel (listed.setIfInBounds j true) a w → K' a w) → if Region.wanted oj (yielded ops a.tmps) = true then Oper.wp P oj a w K' Q else K' (a.put oj.dst undef) w) : wpAnyM P md ops Q S m (fuel + 1) listed a w := by
  refine ⟨fun h0 => absurd (hr ▸ h0) (by simp), hr ▸ ?_⟩
  intro k hk
  simp only [List.mem_cons, List.mem_nil_iff, or_false] at hk
  rcases hk with rfl | rfl
  · exact wpOp_step hoi (fun K' hK => h K' (fun a w hS hW => hK a w ⟨hS, hW⟩))
  · exact wpOp_step hoj (fun K' hK => h' K' (fun a w hS hW => hK a w ⟨hS, hW⟩))
theorem mDone {m : Nat} {listed : Array Bool} (hr : Region.ready md ops listed = []) (h : Q .normal a w) : ∀ fuel, wpAnyM P md ops Q S m fuel listed a w
  | 0 => ⟨hr, h⟩
  | _ + 1 => ⟨fun _ => h, by rw [hr]; simp⟩
theorem wp_region_M {id : Nat} (S : World → Prop) (m : Nat) (hm : P.follows .mixedOrders = true)
    (h : wpAnyM P .any ops Q S m ops.size (Array.replicate ops.size false) a w.drew) : (Code.region id ops true).wp P Q a w :=
  wp_region_any hm (wpAny_of_M _ _ _ _ h)
end
end Go.Proofs.YtcgjejpekefjdaaDoor
