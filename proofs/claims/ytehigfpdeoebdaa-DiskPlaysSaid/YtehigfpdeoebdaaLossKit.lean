/- For the rows: how an argument of the form 'bools, two ints' reads. -/
import Derived.Test.YtehigfpdeoebdaaIntKit
import Derived.Test.YtehigfpdeoebdaaDiskL
import Derived.Deep.Grids
import Derived.Lib.SmallJoins
namespace Go.Proofs.Ytehigfpdeoebdaa
open Go.RowKit Go.ChangeShapes Go.WideShapes Go.Proofs.Ytehigfpdeoebdaa.Dsk
theorem open_loss {H : Type} {enc : TypeId × Value → H} {P : Program} {W : World} {base b0 : Nat} {held : Bool} {r : Reach} {t ts te ti : TypeId} {v : Value} {d : DataW H} {ps : List MemPlace} {Ts : List TypeId} {Ds : List (DataW H)} {j : Nat} {fs : Array Field}
    (hsz : (DataW.weightsEach P Ts Ds).all (· ≤ reachBytes) = true) (ht : Ts[j]? = some t) (hd : Ds[j]? = some d) (hs : P.underlying t = some (.struct fs)) (hty : fs.map (·.type) = #[ts, ti, ti]) (hone : Deep.oneCellFields P fs = true) (hC : P.cellsOf t = 3)
    (hts : P.underlying ts = some (.slice te)) (hte : P.underlying te = some .bool) (hce : P.cellsOf te = 1) (hbe : P.bytesOf te = 1) (hti : P.underlying ti = some (.int .i64))
    (hv : Value.okWide P W r b0 t v) (h : DataW.Trod enc P W base (fun _ => true) held t v d ps) :
    ∃ (A : Option Addr) (c : Nat) (K : List Bool) (x y : Int), v = .agg #[.slice A K.length c, .int .i64 x, .int .i64 y] ∧ Bools W A K ∧ K.length ≤ 140737488351232 ∧
      (-9223372036854775808 ≤ x ∧ x ≤ 9223372036854775807) ∧ (-9223372036854775808 ≤ y ∧ y ≤ 9223372036854775807) := by
  have hsize : fs.size = 3 := by have := congrArg Array.size hty; simpa using this
  obtain ⟨f0, f1, f2, rfl⟩ := Joins.array3 hsize
  simp only [List.map_toArray, List.map_cons, List.map_nil, Array.mk.injEq, List.cons.injEq, and_true] at hty
  obtain ⟨e0, e1, e2⟩ := hty
  obtain ⟨v0, v1, v2, y0, y1, y2, n, rfl, rfl, rfl, h0, h1, h2⟩ := Joins.open_agg3 hs hone hC hv h
  rw [e0] at h0
  rw [e1] at h1
  rw [e2] at h2
  obtain ⟨x, hx1, hx2, hx3⟩ := DataW.trod_int hti h1
  obtain ⟨y, hy1, hy2, hy3⟩ := DataW.trod_int hti h2
  obtain rfl : v1 = .int .i64 x := by simpa using hx1
  obtain rfl : v2 = .int .i64 y := by simpa using hy1
  have wx : -9223372036854775808 ≤ x ∧ x ≤ 9223372036854775807 := by simpa [Lit.wf, IntKind.min, IntKind.max, IntKind.signed, IntKind.bits] using hx3
  have wy : -9223372036854775808 ≤ y ∧ y ≤ 9223372036854775807 := by simpa [Lit.wf, IntKind.min, IntKind.max, IntKind.signed, IntKind.bits] using hy3
  rcases Deep.open_bools hts hte hce h0 with ⟨hc, _⟩ | ⟨a, len, cap, B, hc, _, hl, _, hy0, hcell⟩
  · obtain rfl : v0 = .slice none 0 0 := by simpa using hc
    exact ⟨none, 0, [], x, y, rfl, fun k hk => absurd hk (by simp), by simp, wx, wy⟩
  · obtain rfl : v0 = .slice (some a) len cap := by simpa using hc
    refine ⟨some a, cap, (List.range len).map B, x, y, by simp, fun k hk => ⟨a, rfl, ?_⟩, ?_, wx, wy⟩
    · have hk' : k < len := by simpa using hk
      rw [hcell k (by omega)]; simp
    · have hm := List.all_eq_true.1 hsz _ (DataW.weights_mem_each ht hd ((((List.range len).map fun i => (DataW.lit (.bool (B i)) : DataW H)).length + ((List.range (cap - len)).map fun j => (DataW.lit (.bool (B (len + j))) : DataW H)).length) * P.bytesOf te) (by
        rw [hy0]
        simp only [Deep.boolRow, DataW.weights, hs, List.map_cons, List.map_nil, e0, DataW.weightsEach, hts, List.mem_append, List.mem_cons]
        simp))
      rw [hbe] at hm
      simp only [List.length_map, List.length_range, Nat.mul_one, decide_eq_true_eq] at hm
      have : reachBytes = 140737488351232 := by decide
      simp only [List.length_map, List.length_range]
      omega
theorem fields25 : Try.prog.underlying 33 = some (.struct (Try.prog.fieldsOf 33)) := by kernel_rfl
theorem types25 : (Try.prog.fieldsOf 33).map (·.type) = #[31, 3, 3] := by kernel_rfl
theorem one25 : Deep.oneCellFields Try.prog (Try.prog.fieldsOf 33) = true := by kernel_rfl
end Go.Proofs.Ytehigfpdeoebdaa
