/- Sectors of a master, whole and torn (plain). -/
import Derived.Test.YtcgjejpekefjdaaDoorMasterO
import Derived.Test.YtcgjejpekefjdaaDoorStampL
set_option linter.unusedSimpArgs false
set_option linter.unusedVariables false
namespace Go.Proofs.YtcgjejpekefjdaaDoor
open Go.RowKit Go.Proofs.YtcgjejpekefjdaaDoor.Crc
open Go.Proofs.YtcgjejpekefjdaaDoor.Dsk
/-- What Save writes. -/
def secU (ep : Nat) (fs : List Nat) : List UInt8 := wrapB ep 3 (bodyU fs)
/-- A sector of a master's: bytes 0, or a slot. -/
def SecOf (l : List UInt8) (ep : Nat) (fs : List Nat) : Prop :=
  (ep = 0 ∧ fs = [] ∧ l = zsec) ∨ (0 < ep ∧ l = secU ep fs ∧ ep ≤ 1000000000 ∧ fs.length ≤ 20 ∧ ∀ f ∈ fs, f < 18446744073709551616)
theorem SecOf.zero : SecOf zsec 0 [] := .inl ⟨rfl, rfl, rfl⟩
theorem SecOf.par {l : List UInt8} {ep : Nat} {fs : List Nat} (h : SecOf l ep fs) : ParS l ep fs := by
  rcases h with ⟨rfl, rfl, rfl⟩ | ⟨h0, rfl, h1, h2, h3⟩
  · exact .inl ⟨rfl, rfl, by rw [open_zero]; decide⟩
  · have := bodyU_len fs h3 h2
    exact .inr ⟨open_wrap ep 3 _ (by omega) (by omega) (by decide) (by omega), h1, h2, h3⟩
theorem SecOf.lt {l : List UInt8} {ep : Nat} {fs : List Nat} (h : SecOf l ep fs) : ep < 18446744073709551616 := by
  rcases h with ⟨rfl, _⟩ | ⟨_, _, h1, _⟩ <;> omega
theorem fixZ8 : fixB 0 8 = List.replicate 8 0 := by decide
theorem SecOf.ends {l : List UInt8} {ep : Nat} {fs : List Nat} (h : SecOf l ep fs) : l.length = 256 ∧ l.take 8 = fixB ep 8 ∧ l.drop 248 = fixB ep 8 := by
  rcases h with ⟨rfl, rfl, rfl⟩ | ⟨h0, rfl, h1, h2, h3⟩
  · rw [fixZ8]; exact ⟨zsec_length, by unfold zsec; rw [List.take_replicate]; rfl, by unfold zsec; rw [List.drop_replicate]⟩
  · have := bodyU_len fs h3 h2
    exact ⟨wrapB_length ep 3 _ (by omega), wrap_take8 _ _ _, wrap_drop248 _ _ _ (by omega)⟩
/-- A mix of two sectors of unlike stamps is one of them, or its ends differ. -/
theorem mix_apart (x y : List UInt8) (so sy k : Nat) (hxl : x.length = 256) (hyl : y.length = 256) (hx8 : x.take 8 = fixB so 8) (hx248 : x.drop 248 = fixB so 8) (hy8 : y.take 8 = fixB sy 8) (hy248 : y.drop 248 = fixB sy 8) (hso : so < 18446744073709551616) (h1 : sy < 18446744073709551616) (hne : so ≠ sy) (hk : k ≤ 256) :
    y.take k ++ x.drop k = x ∨ y.take k ++ x.drop k = y ∨ (y.take k ++ x.drop k).take 8 ≠ (y.take k ++ x.drop k).drop 248 := by
  by_cases he : ¬ (y.take k ++ x.drop k).take 8 = (y.take k ++ x.drop k).drop 248
  · exact .inr (.inr he)
  replace he := Classical.not_not.1 he
  have hapart : fixB so 8 ≠ fixB sy 8 := fun h => by
    have := congrArg natB h
    rw [fixB_natB, fixB_natB, Nat.mod_eq_of_lt (by simpa using hso), Nat.mod_eq_of_lt (by simpa using h1)] at this
    exact hne this
  by_cases hk8 : k < 8
  · have e1 : (y.take k ++ x.drop k).drop 248 = fixB so 8 := by
      rw [List.drop_append, List.drop_eq_nil_of_le (by rw [List.length_take]; omega), List.nil_append, List.length_take, hyl, List.drop_drop, ← hx248]
      congr 1; omega
    have e2 : (y.take k ++ x.drop k).take k = (fixB so 8).take k := by
      rw [← e1, ← he, List.take_take, Nat.min_eq_left (by omega)]
    have e3 : y.take k = x.take k := by
      rw [List.take_append_of_le_length (by rw [List.length_take]; omega), List.take_take, Nat.min_self, ← hx8, List.take_take, Nat.min_eq_left (by omega)] at e2
      exact e2
    exact .inl (by rw [e3, List.take_append_drop])
  · have e0 : (y.take k ++ x.drop k).take 8 = fixB sy 8 := by
      rw [List.take_append_of_le_length (by rw [List.length_take]; omega), List.take_take, Nat.min_eq_left (by omega), hy8]
    by_cases hk248 : k ≤ 248
    · have e1 : (y.take k ++ x.drop k).drop 248 = fixB so 8 := by
        rw [List.drop_append, List.drop_eq_nil_of_le (by rw [List.length_take]; omega), List.nil_append, List.length_take, hyl, List.drop_drop, ← hx248]
        congr 1; omega
      rw [e0, e1] at he
      exact absurd he.symm hapart
    · have e1 : (y.take k ++ x.drop k).drop 248 = (y.take k).drop 248 ++ x.drop k := List.drop_append_of_le_length (by rw [List.length_take]; omega)
      rw [e0, e1, ← hy248] at he
      have e2 : x.drop k = y.drop k := by
        have h3 : y.drop 248 = (y.take k).drop 248 ++ y.drop k := by
          conv => lhs; rw [← List.take_append_drop k y]
          rw [List.drop_append_of_le_length (by rw [List.length_take]; omega)]
        rw [h3] at he
        exact (List.append_cancel_left he).symm
      exact .inr (.inl (by rw [e2, List.take_append_drop]))
theorem openS_apart' (l : List UInt8) (hl : l.length = 256) (h : l.take 8 ≠ l.drop 248) : ¬ (openS l).2.2.2 = 0 := by
  unfold openS
  rw [if_neg (by simpa using hl)]
  split
  · decide
  · rw [if_pos (beq_eq_false_iff_ne.2 h)]
    decide
/-- What is left of a sector that is torn. -/
theorem SecOf.mix {x y : List UInt8} {e1 e2 : Nat} {f1 f2 : List Nat} (hx : SecOf x e1 f1) (hy : SecOf y e2 f2) (hne : e1 ≠ e2) (k : Nat) (hk : k ≤ 256) :
    ParS (y.take k ++ x.drop k) e1 f1 ∨ ParS (y.take k ++ x.drop k) e2 f2 ∨ ParS (y.take k ++ x.drop k) 0 [] := by
  obtain ⟨a1, a2, a3⟩ := hx.ends
  obtain ⟨b1, b2, b3⟩ := hy.ends
  rcases mix_apart x y e1 e2 k a1 b1 a2 a3 b2 b3 hx.lt hy.lt hne hk with h | h | h
  · rw [h]; exact .inl hx.par
  · rw [h]; exact .inr (.inl hy.par)
  · exact .inr (.inr (.inl ⟨rfl, rfl, openS_apart' _ (by rw [List.length_append, List.length_take, List.length_drop, a1, b1]; omega) h⟩))
end Go.Proofs.YtcgjejpekefjdaaDoor
