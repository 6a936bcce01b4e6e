/- What a torn write of a sector is opened as (plain). -/
import Derived.Test.YtibhoekbjgoanaaDoorStampL
import Derived.Test.YtibhoekbjgoanaaDoorStampT
import Derived.Test.YtibhoekbjgoanaaDoorStampR
set_option linter.unusedSimpArgs false
set_option linter.unusedVariables false
namespace Go.Proofs.YtibhoekbjgoanaaDoor
open Go.RowKit Go.Proofs.YtibhoekbjgoanaaDoor.Crc
theorem tornN_le (at_ : Int) : tornN at_ ≤ 256 := by unfold tornN; omega
theorem torn_length (x y : List UInt8) (at_ : Int) (hx : x.length = 256) (hy : y.length = 256) : (tornB x y at_).length = 256 := by
  have := tornN_le at_
  unfold tornB
  rw [List.length_append, List.length_take, List.length_drop, hx, hy]
  omega
/-- A sector that was written before: of a stamp, or of bytes 0. -/
def Was (st : Nat) (a x : List UInt8) : Prop := (st = 0 ∧ x = zsec) ∨ (st ≠ 0 ∧ st < 18446744073709551616 ∧ a.length ≤ 233 ∧ x = wrapB st 1 a)
theorem fixB_zero : fixB 0 8 = List.replicate 8 0 := by decide
theorem Was.length {st : Nat} {a x : List UInt8} (h : Was st a x) : x.length = 256 := by
  rcases h with ⟨_, rfl⟩ | ⟨_, _, ha, rfl⟩
  · exact zsec_length
  · exact wrapB_length st 1 a (by omega)
theorem Was.ends {st : Nat} {a x : List UInt8} (h : Was st a x) : x.take 8 = fixB st 8 ∧ x.drop 248 = fixB st 8 := by
  rcases h with ⟨rfl, rfl⟩ | ⟨_, _, ha, rfl⟩
  · rw [fixB_zero]; exact ⟨by unfold zsec; rw [List.take_replicate]; rfl, by unfold zsec; rw [List.drop_replicate]⟩
  · exact ⟨wrap_take8 _ _ _, wrap_drop248 _ _ _ (by omega)⟩
theorem openS_apart (l : List UInt8) (hl : l.length = 256) (h : l.take 8 ≠ l.drop 248) : ∃ e : Int, e ≠ 0 ∧ openS l = (0, 0, [], e) := by
  unfold openS
  rw [if_neg (by simpa using hl)]
  split
  · exact ⟨40, by decide, rfl⟩
  · rw [if_pos (beq_eq_false_iff_ne.2 h)]
    exact ⟨23, by decide, rfl⟩
/-- WHAT A TORN WRITE OF A SECTOR IS OPENED AS. -/
theorem whole_law (so sy : Nat) (a b x y : List UInt8) (at_ : Int) (hx : Was so a x) (hy : y = wrapB sy 2 b) (h0 : sy ≠ 0) (h1 : sy < 18446744073709551616) (hso : so < 18446744073709551616) (hb : b.length ≤ 233) (hne : so ≠ sy) :
    (tornB x y at_ = y → openS (tornB x y at_) = (sy, 2, b, 0)) ∧ (tornB x y at_ = x → (so = 0 → openS (tornB x y at_) = (0, 0, [], 40)) ∧ (so ≠ 0 → openS (tornB x y at_) = (so, 1, a, 0))) ∧
      (tornB x y at_ ≠ y → tornB x y at_ ≠ x → ∃ e : Int, e ≠ 0 ∧ openS (tornB x y at_) = (0, 0, [], e)) := by
  have hyl : y.length = 256 := by rw [hy]; exact wrapB_length sy 2 b (by omega)
  have hxl := hx.length
  refine ⟨fun h => by rw [h, hy]; exact open_wrap sy 2 b h0 h1 (by decide) hb, fun h => ⟨fun hz => ?_, fun hz => ?_⟩, fun n1 n2 => ?_⟩
  · rw [h]
    rcases hx with ⟨_, rfl⟩ | ⟨hn, _⟩
    · exact open_zero
    · exact absurd hz hn
  · rw [h]
    rcases hx with ⟨hn, _⟩ | ⟨hn, hlt, ha, rfl⟩
    · exact absurd hn hz
    · exact open_wrap so 1 a hn hlt (by decide) ha
  · refine openS_apart _ (torn_length x y at_ hxl hyl) (fun he => ?_)
    obtain ⟨hx8, hx248⟩ := hx.ends
    have hy8 : y.take 8 = fixB sy 8 := by rw [hy]; exact wrap_take8 _ _ _
    have hy248 : y.drop 248 = fixB sy 8 := by rw [hy]; exact wrap_drop248 _ _ _ (by omega)
    have hk := tornN_le at_
    unfold tornB at he n1 n2
    generalize tornN at_ = k at he n1 n2 hk
    have hapart : fixB so 8 ≠ fixB sy 8 := fun h => by
      have := congrArg natB h
      rw [fixB_natB, fixB_natB, Nat.mod_eq_of_lt (by simpa using hso), Nat.mod_eq_of_lt (by simpa using h1)] at this
      exact hne this
    by_cases hk8 : k < 8
    · -- the ends differ, or nothing was written
      have e1 : (y.take k ++ x.drop k).drop 248 = fixB so 8 := by
        rw [List.drop_append, List.drop_eq_nil_of_le (by rw [List.length_take]; omega), List.nil_append, List.length_take, hyl, List.drop_drop, ← hx248]
        congr 1; omega
      have e2 : (y.take k ++ x.drop k).take k = (fixB so 8).take k := by
        rw [← e1, ← he, List.take_take, Nat.min_eq_left (by omega)]
      have e3 : y.take k = x.take k := by
        rw [List.take_append_of_le_length (by rw [List.length_take]; omega), List.take_take, Nat.min_self, ← hx8, List.take_take, Nat.min_eq_left (by omega)] at e2
        exact e2
      exact n2 (by rw [e3, List.take_append_drop])
    · have e0 : (y.take k ++ x.drop k).take 8 = fixB sy 8 := by
        rw [List.take_append_of_le_length (by rw [List.length_take]; omega), List.take_take, Nat.min_eq_left (by omega), hy8]
      by_cases hk248 : k ≤ 248
      · have e1 : (y.take k ++ x.drop k).drop 248 = fixB so 8 := by
          rw [List.drop_append, List.drop_eq_nil_of_le (by rw [List.length_take]; omega), List.nil_append, List.length_take, hyl, List.drop_drop, ← hx248]
          congr 1; omega
        rw [e0, e1] at he
        exact hapart he.symm
      · -- all but a part of the end was written
        have e1 : (y.take k ++ x.drop k).drop 248 = (y.take k).drop 248 ++ x.drop k := List.drop_append_of_le_length (by rw [List.length_take]; omega)
        rw [e0, e1, ← hy248] at he
        have e2 : x.drop k = y.drop k := by
          have h3 : y.drop 248 = (y.take k).drop 248 ++ y.drop k := by
            conv => lhs; rw [← List.take_append_drop k y]
            rw [List.drop_append_of_le_length (by rw [List.length_take]; omega)]
          rw [h3] at he
          exact (List.append_cancel_left he).symm
        exact n1 (by rw [e2, List.take_append_drop])
end Go.Proofs.YtibhoekbjgoanaaDoor
