/- For the rows: how an argument of numbers of 64 bits, and one of lists of them, reads. -/
import Derived.Test.YtcgjejpekefjdaaDoorRowKit
import Derived.Test.YtcgjejpekefjdaaDoorRowU
import Derived.Deep.Matrix
set_option linter.unusedSimpArgs false
set_option linter.unusedVariables false
namespace Go.Proofs.YtcgjejpekefjdaaDoor
open Go.RowKit Go.ChangeShapes Go.WideShapes
theorem open_u64s {H : Type} {enc : TypeId × Value → H} {P : Program} {W : World} {base : Nat} {spare : Nat → Bool} {held : Bool} {t e : TypeId} {a : Option Addr} {len cap : Nat} {d : DataW H} {ps : List MemPlace} {ts : List TypeId} {ds : List (DataW H)} {j : Nat}
    (hsz : (DataW.weightsEach P ts ds).all (· ≤ reachBytes) = true) (ht : ts[j]? = some t) (hd : ds[j]? = some d) (hu : P.underlying t = some (.slice e)) (he : P.underlying e = some (.int .u64)) (hc : P.cellsOf e = 1) (hB : P.bytesOf e = 8)
    (h : DataW.Trod enc P W base spare held t (.slice a len cap) d ps) :
    ∃ l : List Nat, len = l.length ∧ U64s W a l ∧ (a = none → cap = 0) ∧ l.length ≤ cap ∧ l.length ≤ 140737488351232 ∧ ∀ f ∈ l, f < 18446744073709551616 := by
  obtain ⟨fuel, hf⟩ := h
  rcases open_ints hu he hc hf with ⟨hcs, _⟩ | ⟨x, l, c, zs, hcs, _, hl, _, hz, hx, hcell, hwz⟩
  · simp [Value.cells] at hcs
    obtain ⟨rfl, rfl, rfl⟩ := hcs
    exact ⟨[], rfl, fun i hi => absurd hi (by simp), fun _ => rfl, Nat.le_refl _, by simp, by simp⟩
  · simp [Value.cells] at hcs
    obtain ⟨rfl, rfl, rfl⟩ := hcs
    obtain ⟨hx, _⟩ := Prod.mk.inj hx
    subst hx
    have z := sized_slice hsz ht hd hu
    rw [hB] at z
    have hl2 : len ≤ zs.length := by
      rw [hz]
      split
      · exact hl
      · exact Nat.le_refl _
    have h1 : (lits (H := H) .u64 (zs.take len)).length + (lits (H := H) .u64 (zs.drop len)).length = zs.length := by
      simp [lits]
      omega
    rw [h1] at z
    have hlen : ((zs.take len).map Int.toNat).length = len := by simp; omega
    refine ⟨(zs.take len).map Int.toNat, hlen.symm, ?_, (fun h => by cases h), (by rw [hlen]; exact hl), ?_, ?_⟩
    · intro i hi
      rw [hlen] at hi
      have hi2 : i < zs.length := by omega
      refine ⟨x, rfl, ?_⟩
      rw [hcell i (by omega), List.getD_eq_getElem?_getD, List.getElem?_eq_getElem hi2]
      have hw := hwz (zs[i]) (List.getElem_mem hi2)
      simp [Lit.wf, IntKind.min, IntKind.max, IntKind.signed, IntKind.bits] at hw
      simp
      omega
    · rw [hlen]
      have : reachBytes = 140737488351232 := by decide
      omega
    · intro f hf
      obtain ⟨z0, hz0, rfl⟩ := List.mem_map.1 hf
      have hw := hwz z0 (List.mem_of_mem_take hz0)
      simp [Lit.wf, IntKind.min, IntKind.max, IntKind.signed, IntKind.bits] at hw
      omega
/-- Lists of numbers that lie in rows. -/
def RowsU (w : World) (A : Option Addr) (ls : List (List Nat)) : Prop :=
  ∀ i, (hi : i < ls.length) → ∃ ad B c, A = some ad ∧ w.cell? (ad.add i) = some (.slice B ls[i].length c) ∧ U64s w B ls[i] ∧ (B = none → c = 0) ∧ ls[i].length ≤ c ∧ c ≤ 9223372036854775807 ∧ ∀ f ∈ ls[i], f < 18446744073709551616
theorem open_rowsU {H : Type} {enc : TypeId × Value → H} {P : Program} {W : World} {base : Nat} {held : Bool} {t e q : TypeId} {a : Option Addr} {len cap : Nat} {d : DataW H} {ps : List MemPlace}
    (hu : P.underlying t = some (.slice e)) (he : P.underlying e = some (.slice q)) (hq : P.underlying q = some (.int .u64)) (ce : P.cellsOf e = 1) (cq : P.cellsOf q = 1)
    (h : DataW.Trod enc P W base (fun _ => true) held t (.slice a len cap) d ps) :
    ∃ ls : List (List Nat), len = ls.length ∧ RowsU W a ls ∧ (a = none → cap = 0) ∧ ls.length ≤ cap ∧ ls.length ≤ 9223372036854775807 := by
  obtain ⟨fuel, hf⟩ := h
  rcases Deep.open_int_rows hu he hq ce cq hf with ⟨hcs, _⟩ | ⟨x, l, c, A, L, C, Z, hcs, _, hl, hm, _, hrow⟩
  · simp [Value.cells] at hcs
    obtain ⟨rfl, rfl, rfl⟩ := hcs
    exact ⟨[], rfl, fun i hi => absurd hi (by simp), fun _ => rfl, Nat.le_refl _, by simp⟩
  · simp [Value.cells] at hcs
    obtain ⟨rfl, rfl, rfl⟩ := hcs
    unfold maxLen at hm
    refine ⟨(List.range len).map fun r => ((Z r).take (L r)).map Int.toNat, by simp, ?_, (fun h => by cases h), by simpa using hl, by simp; omega⟩
    intro i hi
    have hi2 : i < len := by simpa using hi
    obtain ⟨hc, hLC, hCm, hZ, hw, hnil, hcell⟩ := hrow i (by omega)
    unfold maxLen at hCm
    have hlen : (((Z i).take (L i)).map Int.toNat).length = L i := by simp; omega
    refine ⟨x, A i, C i, rfl, ?_, ?_⟩
    · simp only [List.getElem_map, List.getElem_range]
      rw [hlen]; exact hc
    · simp only [List.getElem_map, List.getElem_range]
      rw [hlen]
      refine ⟨?_, hnil, hLC, by omega, ?_⟩
      · intro j hj
        rw [hlen] at hj
        cases hA : A i with
        | none => have := hnil hA; omega
        | some ad =>
          refine ⟨ad, rfl, ?_⟩
          have hx := (hcell ad hA).2 j (by omega)
          rw [hx]
          have hj2 : j < (Z i).length := by omega
          have hwf := hw (Z i)[j] (List.getElem_mem hj2)
          rw [List.getD_eq_getElem?_getD, List.getElem?_eq_getElem hj2]
          simp [Lit.wf, IntKind.min, IntKind.max, IntKind.signed, IntKind.bits] at hwf
          simp
          omega
      · intro f hf
        obtain ⟨z0, hz0, rfl⟩ := List.mem_map.1 hf
        have hwf := hw z0 (List.mem_of_mem_take hz0)
        simp [Lit.wf, IntKind.min, IntKind.max, IntKind.signed, IntKind.bits] at hwf
        omega
end Go.Proofs.YtcgjejpekefjdaaDoor
