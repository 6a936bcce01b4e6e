/- A copy of bytes as one step of a region. -/
import Derived.Test.YtibhoekbjgoanaaDoorArr
import Derived.Deep.RegionHeld3
set_option linter.unusedSimpArgs false
set_option linter.unusedVariables false
namespace Go.Proofs.YtibhoekbjgoanaaDoor
open Go.RowKit Go.Proofs.YtibhoekbjgoanaaDoor.Crc
theorem step_copyB {ops : Array Oper} {o : Oper} {a : Act} {w : World} {K : Act → World → Prop} {Q : Exit → Act → World → Prop} {E : Prop} (hgd : o.guard = none) (d s : Operand)
    (ho : o.op = .call { callee := .builtin .copy, args := #[d, s], argTypes := #[23, 23] })
    (g off dLen dCap : Nat) (sp : Option Addr) (sLen sCap : Nat) (hd : a.eval d = .slice (some ⟨g, off, none⟩) dLen dCap) (hs : a.eval s = .slice sp sLen sCap)
    (t : TypeId) (cur l : List UInt8) (hb : BlkB w g t cur) (hl : sLen = l.length) (hsrc : Bytes w sp l) (hfit : off + Nat.min dLen l.length ≤ cur.length)
    (h : ∀ w', Hid (BlkB w' g t (splice cur off (l.take dLen)) ∧ Kept (· = g) w w') → K (a.put o.dst (goInt (l.take dLen).length)) w') : if Region.wanted o (yielded ops a.tmps) = true then Oper.wp Tryd.prog o a w K Q else E := by
  subst hl
  have hw : Region.wanted o (yielded ops a.tmps) = true := by simp [Region.wanted, hgd]
  rw [if_pos hw]
  have hlen : (cells8 (l.take dLen)).length = Nat.min l.length dLen := by rw [cells8_length, List.length_take, Nat.min_comm]
  have hlen2 : (l.take dLen).length = (cells8 (l.take dLen)).length := by rw [cells8_length]
  by_cases h0 : (l.take dLen).length = 0
  · have hrun := run_copy_none (P := Tryd.prog) w 23 23 o.type 5 (some ⟨g, off, none⟩) sp dLen dCap l.length sCap Tryd.underlying23 (by kernel_rfl) (by rw [← hlen, cells8_length]; exact h0)
    have e : l.take dLen = [] := List.eq_nil_of_length_eq_zero h0
    have := h w ⟨by rw [e]; simpa [splice] using hb, Kept.refl _ _⟩
    rw [h0] at this
    unfold Oper.wp
    simp [execOp, ho, resolve, invoke, builtin, hd, hs, hrun, Result.andThen]
    exact this
  · obtain ⟨ad, rfl, _⟩ := hsrc 0 (by rw [List.length_take] at h0; omega)
    rw [hlen2] at h
    have hrun := run_copy_row (P := Tryd.prog) w 23 23 o.type 5 g off dLen dCap ad l.length sCap (cells8 cur).toArray t (cells8 (l.take dLen)) Tryd.underlying23 (by kernel_rfl) hb hlen (by
      intro j v hj
      have hlt : j < (l.take dLen).length := by have := (List.getElem?_eq_some_iff.1 hj).1; rwa [cells8_length] at this
      obtain ⟨ad', hA, hc⟩ := hsrc.take dLen j hlt
      cases hA
      rw [cells8_get _ j hlt] at hj
      rw [hc, hj]) (by
      rw [hlen, show Nat.min l.length dLen = Nat.min dLen l.length from Nat.min_comm _ _]
      simpa [cells8_length] using hfit) (cells8_one _)
    have hh : ∀ w', w' = w.setRow g ((cells8 cur).take off ++ (cells8 (l.take dLen) ++ (cells8 cur).drop (off + (cells8 (l.take dLen)).length))).toArray → K (a.put o.dst (goInt (cells8 (l.take dLen)).length)) w' := by
      rintro w' rfl
      refine h _ ⟨?_, Kept.setRow w _⟩
      have := setRow_heap w g (cells8 cur).toArray (splice (cells8 cur) off (cells8 (l.take dLen))).toArray t (0, 0) hb
      unfold BlkB
      rw [← cells8_splice]
      simpa [splice] using this
    unfold Oper.wp
    simp [execOp, ho, resolve, invoke, builtin, hd, hs, hrun, Result.andThen]
    exact hh _ rfl
end Go.Proofs.YtibhoekbjgoanaaDoor
