/- For the rows: how an argument of slices of bytes reads. -/
import Derived.Test.YtibhoekbjgoanaaDoorRowKit
import Derived.Test.YtibhoekbjgoanaaDoorPageK
import Derived.Deep.Matrix
set_option linter.unusedSimpArgs false
set_option linter.unusedVariables false
namespace Go.Proofs.YtibhoekbjgoanaaDoor
open Go.RowKit Go.Proofs.YtibhoekbjgoanaaDoor.Crc
open Go.ChangeShapes Go.WideShapes
theorem addr_spot {w : World} {a : Addr} {v : Value} (h : w.cell? (a.add 0) = some v) : a.spot = none := by
  obtain ⟨b, o, s⟩ := a
  cases s with
  | none => rfl
  | some s => simp [World.cell?, Addr.add] at h; split at h <;> simp at h
theorem open_rows {H : Type} {enc : TypeId × Value → H} {P : Program} {W : World} {base : Nat} {held : Bool} {t e q : TypeId} {a : Option Addr} {len cap : Nat} {d : DataW H} {ps : List MemPlace}
    (hu : P.underlying t = some (.slice e)) (he : P.underlying e = some (.slice q)) (hq : P.underlying q = some (.int .u8)) (ce : P.cellsOf e = 1) (cq : P.cellsOf q = 1)
    (h : DataW.Trod enc P W base (fun _ => true) held t (.slice a len cap) d ps) :
    ∃ ls : List (List UInt8), len = ls.length ∧ RowsB W a ls ∧ (a = none → cap = 0) ∧ ls.length ≤ cap ∧ ls.length ≤ 9223372036854775807 := by
  obtain ⟨fuel, hf⟩ := h
  rcases Deep.open_int_rows hu he hq ce cq hf with ⟨hcs, _⟩ | ⟨x, l, c, A, L, C, Z, hcs, _, hl, hm, _, hrow⟩
  · simp [Value.cells] at hcs
    obtain ⟨rfl, rfl, rfl⟩ := hcs
    exact ⟨[], rfl, fun i hi => absurd hi (by simp), fun _ => rfl, Nat.le_refl _, by simp⟩
  · simp [Value.cells] at hcs
    obtain ⟨rfl, rfl, rfl⟩ := hcs
    unfold maxLen at hm
    refine ⟨(List.range len).map fun r => ((Z r).take (L r)).map fun n => UInt8.ofNat n.toNat, by simp, ?_, (fun h => by cases h), by simpa using hl, by simp; omega⟩
    intro i hi
    have hi2 : i < len := by simpa using hi
    obtain ⟨hc, hLC, hCm, hZ, hw, hnil, hcell⟩ := hrow i (by omega)
    unfold maxLen at hCm
    have hlen : (((Z i).take (L i)).map fun n => UInt8.ofNat n.toNat).length = L i := by simp; omega
    refine ⟨x, A i, C i, rfl, ?_, ?_⟩
    · simp only [List.getElem_map, List.getElem_range]
      rw [hlen]; exact hc
    · simp only [List.getElem_map, List.getElem_range]
      rw [hlen]
      refine ⟨hlen.symm, ?_, hLC, by omega, hnil⟩
      intro j hj
      rw [hlen] at hj
      cases hA : A i with
      | none => have := hnil hA; omega
      | some ad =>
        refine ⟨ad, rfl, ?_⟩
        have hx := (hcell ad hA).2 j (by omega)
        rw [hx]
        have hj2 : j < (Z i).length := by omega
        have hwf := hw (Z i)[j] (List.getElem_mem hj2)
        have hb : 0 ≤ (Z i)[j] ∧ (Z i)[j] < 256 := by
          simp [Lit.wf, IntKind.min, IntKind.max, IntKind.signed, IntKind.bits] at hwf
          omega
        have e2 : at8 (((Z i).take (L i)).map fun n => UInt8.ofNat n.toNat) j = UInt8.ofNat ((Z i)[j]).toNat := by
          rw [at8_eq _ _ (by rw [hlen]; exact hj)]
          simp
        rw [e2, List.getD_eq_getElem?_getD, List.getElem?_eq_getElem hj2]
        simp only [Option.getD_some, UInt8.toNat_ofNat']
        congr 3
        omega
end Go.Proofs.YtibhoekbjgoanaaDoor
