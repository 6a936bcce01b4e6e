/- For the rows: how an argument of ints reads. -/
import Derived.Test.YtehigfpdeoebdaaRowKit
namespace Go.Proofs.Ytehigfpdeoebdaa
open Go.RowKit Go.ChangeShapes Go.WideShapes
def Ints (W : World) (A : Option Addr) (l : List Int) : Prop := ∀ i, (hi : i < l.length) → ∃ ad, A = some ad ∧ W.cell? (ad.add i) = some (.int .i64 l[i]) ∧ -9223372036854775808 ≤ l[i] ∧ l[i] ≤ 9223372036854775807
theorem open_i64s {H : Type} {enc : TypeId × Value → H} {P : Program} {W : World} {base : Nat} {spare : Nat → Bool} {held : Bool} {t e : TypeId} {a : Option Addr} {len cap : Nat} {d : DataW H} {ps : List MemPlace} {ts : List TypeId} {ds : List (DataW H)} {j : Nat}
    (hsz : (DataW.weightsEach P ts ds).all (· ≤ reachBytes) = true) (ht : ts[j]? = some t) (hd : ds[j]? = some d) (hu : P.underlying t = some (.slice e)) (he : P.underlying e = some (.int .i64)) (hc : P.cellsOf e = 1) (hB : P.bytesOf e = 8)
    (h : DataW.Trod enc P W base spare held t (.slice a len cap) d ps) :
    ∃ l : List Int, len = l.length ∧ Ints W a l ∧ (a = none → cap = 0) ∧ l.length ≤ cap ∧ l.length ≤ 140737488351232 := by
  obtain ⟨fuel, hf⟩ := h
  rcases open_ints hu he hc hf with ⟨hcs, _⟩ | ⟨x, l, c, zs, hcs, _, hl, _, hz, hx, hcell, hwz⟩
  · simp [Value.cells] at hcs
    obtain ⟨rfl, rfl, rfl⟩ := hcs
    exact ⟨[], rfl, fun i hi => absurd hi (by simp), fun _ => rfl, Nat.le_refl _, by simp⟩
  · simp [Value.cells] at hcs
    obtain ⟨rfl, rfl, rfl⟩ := hcs
    obtain ⟨hx, _⟩ := Prod.mk.inj hx
    subst hx
    have z := sized_slice hsz ht hd hu
    rw [hB] at z
    have hl2 : len ≤ zs.length := by
      rw [hz]
      split
      · exact hl
      · exact Nat.le_refl _
    have h1 : (lits (H := H) .i64 (zs.take len)).length + (lits (H := H) .i64 (zs.drop len)).length = zs.length := by
      simp [lits]
      omega
    rw [h1] at z
    have hlen : (zs.take len).length = len := by simp; omega
    refine ⟨zs.take len, hlen.symm, ?_, (fun h => by cases h), (by rw [hlen]; exact hl), ?_⟩
    · intro i hi
      rw [hlen] at hi
      have hi2 : i < zs.length := by omega
      refine ⟨x, rfl, ?_, ?_⟩
      · rw [hcell i (by omega), List.getD_eq_getElem?_getD, List.getElem?_eq_getElem hi2]
        simp
      · have hw := hwz (zs[i]) (List.getElem_mem hi2)
        simp [Lit.wf, IntKind.min, IntKind.max, IntKind.signed, IntKind.bits] at hw
        simp
        omega
    · rw [hlen]
      have : reachBytes = 140737488351232 := by decide
      omega
theorem open_agg3 {P : Program} {w : World} {r : Reach} {base : Nat} {t : TypeId} {v : Value} {fs : Array Field} (hu : P.underlying t = some (.struct fs)) (hc : P.cellsOf t = 3) (h : Value.okWide P w r base t v) : ∃ x y z, v = .agg #[x, y, z] := by
  unfold Value.okWide at h
  rw [hu] at h
  obtain ⟨cs, rfl, hs, _⟩ := h
  rw [hc] at hs
  obtain ⟨l⟩ := cs
  match l, hs with
  | [x, y, z], _ => exact ⟨x, y, z, rfl⟩
end Go.Proofs.Ytehigfpdeoebdaa
