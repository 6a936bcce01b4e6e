/- Pages: words that are set, plain. -/
import Derived.Test.YtibhoekbjgoanaaDoorPageE
set_option linter.unusedSimpArgs false
set_option linter.unusedVariables false
namespace Go.Proofs.YtibhoekbjgoanaaDoor
open Go.RowKit Go.Proofs.YtibhoekbjgoanaaDoor.Crc
theorem setW_len (l : List UInt8) (i n : Nat) : (setW l i n).length = l.length := by unfold setW; simp
theorem at8_set_ne (l : List UInt8) (i j : Nat) (x : UInt8) (h : i ≠ j) : at8 (l.set i x) j = at8 l j := by
  unfold at8; simp [List.getElem?_set_ne h]
theorem at8_set_eq (l : List UInt8) (i : Nat) (x : UInt8) (h : i < l.length) : at8 (l.set i x) i = x := by
  unfold at8; simp [h]
theorem wordB_setW_ne (l : List UInt8) (i j n : Nat) (h : j + 1 < i ∨ i + 1 < j) : wordB (setW l i n) j = wordB l j := by
  unfold wordB setW
  rw [at8_set_ne _ _ _ _ (by omega), at8_set_ne _ _ _ _ (by omega), at8_set_ne _ _ _ _ (by omega), at8_set_ne _ _ _ _ (by omega)]
theorem wordB_setW_eq (l : List UInt8) (i n : Nat) (h : i + 1 < l.length) (hn : n < 65536) : wordB (setW l i n) i = n := by
  unfold wordB setW
  rw [at8_set_ne _ _ _ _ (by omega), at8_set_eq _ _ _ (by omega), at8_set_eq _ _ _ (by rw [List.length_set]; omega)]
  simp only [UInt8.toNat_ofNat']
  omega
/-- The ends from i on, m of them, moved by d. -/
def shiftB (l : List UInt8) (i : Nat) (d : Int) : Nat → List UInt8
  | 0 => l
  | m + 1 => setW (shiftB l i d m) (8 + 2 * (i + m)) ((endB l ((i + m : Nat) : Int) : Int) + d).toNat
theorem shiftB_len (l : List UInt8) (i : Nat) (d : Int) (m : Nat) : (shiftB l i d m).length = l.length := by
  induction m with
  | zero => rfl
  | succ m ih => show (setW _ _ _).length = _; rw [setW_len, ih]
theorem shiftB_word (l : List UInt8) (i : Nat) (d : Int) (m j : Nat) (h : j + 1 < 8 + 2 * i ∨ 8 + 2 * (i + m) ≤ j) : wordB (shiftB l i d m) j = wordB l j := by
  induction m with
  | zero => rfl
  | succ m ih => show wordB (setW _ _ _) j = _; rw [wordB_setW_ne _ _ _ _ (by omega), ih (by omega)]
end Go.Proofs.YtibhoekbjgoanaaDoor
