/- Pages, plain: a cell taken out. -/
import Derived.Test.YtibhoekbjgoanaaDoorPageF
set_option linter.unusedSimpArgs false
set_option linter.unusedVariables false
namespace Go.Proofs.YtibhoekbjgoanaaDoor
open Go.RowKit Go.Proofs.YtibhoekbjgoanaaDoor.Crc
/-- The bytes of Remove ahead of the shift. -/
def remS (l : List UInt8) (i : Nat) : List UInt8 :=
  splice (splice ((splice (splice zsec 0 (l.take (8 + 2 * i))) (8 + 2 * i) ((l.drop (8 + 2 * i + 2)).take (8 + 2 * cntB l - (8 + 2 * i + 2)))).set 5 (at8 l 5 - 1))
    (8 + 2 * cntB l - 2) ((l.drop (8 + 2 * cntB l)).take (endB l ((i : Int) - 1)))) (8 + 2 * cntB l - 2 + endB l ((i : Int) - 1)) ((l.drop (8 + 2 * cntB l + endB l (i : Int))).take (sizB l - endB l (i : Int)))
def remH (no : Nat) (k : UInt8) (xs ys : List (List UInt8)) (c : List UInt8) : List UInt8 := fixB no 4 ++ (k :: UInt8.ofNat (xs.length + ys.length) :: w2 (sizC xs + (c.length + sizC ys)))
theorem remH_length (no : Nat) (k : UInt8) (xs ys : List (List UInt8)) (c : List UInt8) : (remH no k xs ys c).length = 8 := by unfold remH; rw [List.length_append, fixB_length]; rfl
def remR (xs ys : List (List UInt8)) : List UInt8 := xs.flatten ++ (ys.flatten ++ List.replicate (248 - (2 * (xs.length + ys.length) + (sizC xs + sizC ys))) 0)
theorem u8_ofNat_pred (n : Nat) : UInt8.ofNat (n + 1) - 1 = UInt8.ofNat n := by
  apply UInt8.toNat_inj.1; simp
theorem splice_zero (s : List UInt8) : splice zsec 0 s = s ++ zsec.drop s.length := by unfold splice; simp
theorem rem_mid {l : List UInt8} {no : Nat} {k : UInt8} {xs ys : List (List UInt8)} {c : List UInt8} (h : PgL l no k (xs ++ c :: ys)) :
    remS l xs.length = (remH no k xs ys c ++ endsB 0 xs) ++ (endsB (sizC xs + c.length) ys ++ remR xs ys) := by
  have hN : cntB l = xs.length + ys.length + 1 := by rw [h.count, List.length_append, List.length_cons]; omega
  have hwas : endB l ((xs.length : Int) - 1) = sizC xs := by rw [h.endAt _ (by simp), List.take_left' rfl]
  have hto : endB l (xs.length : Int) = sizC xs + c.length := by
    have := h.endAt (xs.length + 1) (by simp)
    rw [show ((xs.length + 1 : Nat) : Int) - 1 = (xs.length : Int) by omega] at this
    rw [this, List.take_append, List.take_of_length_le (by omega), show xs.length + 1 - xs.length = 1 by omega, List.take_succ_cons, List.take_zero, sizC_append, sizC_cons, sizC_nil, Nat.add_zero]
  have hsz : sizB l = sizC xs + (c.length + sizC ys) := by rw [h.size, sizC_append, sizC_cons]
  have h5 : at8 l 5 = UInt8.ofNat (xs.length + ys.length + 1) := by
    apply UInt8.toNat_inj.1
    have : (at8 l 5).toNat = xs.length + ys.length + 1 := hN
    rw [this, u8_ofNat]
    have := h.1
    unfold fitC at this
    rw [List.length_append, List.length_cons] at this
    omega
  obtain ⟨hf, t, ht, hl⟩ := h
  unfold fitC at hf
  simp only [List.length_append, sizC_append, List.length_cons, sizC_cons] at hf
  obtain ⟨Z, hZ⟩ : ∃ Z, List.replicate (244 - (2 * (xs.length + (ys.length + 1)) + (sizC xs + (c.length + sizC ys)))) (0 : UInt8) ++ t = Z := ⟨_, rfl⟩
  have hl2 : l = (headPg no k (xs.length + (ys.length + 1)) (sizC xs + (c.length + sizC ys)) ++ endsB 0 xs) ++ (w2 (sizC xs + c.length) ++ (endsB (sizC xs + c.length) ys ++ (xs.flatten ++ (c ++ (ys.flatten ++ Z))))) := by
    rw [hl, ← hZ]; unfold bodyB; rw [endsB_append, Nat.zero_add, endsB, List.length_append, List.length_cons, sizC_append, sizC_cons, List.flatten_append, List.flatten_cons]; simp only [List.append_assoc]
  obtain ⟨H, hH⟩ : ∃ H, headPg no k (xs.length + (ys.length + 1)) (sizC xs + (c.length + sizC ys)) = H := ⟨_, rfl⟩
  have hHl : H.length = 8 := by rw [← hH, headPg_length]
  rw [hH] at hl2
  unfold remS
  simp only [hN, hwas, hto, hsz, h5, u8_ofNat_pred]
  have c0 : l.take (8 + 2 * xs.length) = H ++ endsB 0 xs := by
    rw [hl2]; exact List.take_left' (by rw [List.length_append, hHl, endsB_length])
  have c1 : (l.drop (8 + 2 * xs.length + 2)).take (8 + 2 * (xs.length + ys.length + 1) - (8 + 2 * xs.length + 2)) = endsB (sizC xs + c.length) ys := by
    rw [hl2, ← List.append_assoc]; exact take_drop_mid _ _ _ _ _ (by simp only [List.length_append, hHl, endsB_length, w2_length]) (by rw [endsB_length]; omega)
  have c2 : (l.drop (8 + 2 * (xs.length + ys.length + 1))).take (sizC xs) = xs.flatten := by
    rw [hl2, ← List.append_assoc, ← List.append_assoc]; exact take_drop_mid _ _ _ _ _ (by simp only [List.length_append, hHl, endsB_length, w2_length]; omega) (by rw [sizC_flatten])
  have c3 : (l.drop (8 + 2 * (xs.length + ys.length + 1) + (sizC xs + c.length))).take (sizC xs + (c.length + sizC ys) - (sizC xs + c.length)) = ys.flatten := by
    rw [hl2, ← List.append_assoc, ← List.append_assoc, ← List.append_assoc, ← List.append_assoc]; exact take_drop_mid _ _ _ _ _ (by simp only [List.length_append, hHl, endsB_length, w2_length, sizC_flatten]; omega) (by rw [sizC_flatten]; omega)
  rw [c0, c1, c2, c3]
  clear c0 c1 c2 c3 hl2 hl
  rw [splice_zero, splice_step _ _ _ _ _ (by rw [List.length_append, hHl, endsB_length])]
  rw [← hH]
  rw [show headPg no k (xs.length + (ys.length + 1)) (sizC xs + (c.length + sizC ys)) ++ endsB 0 xs ++ endsB (sizC xs + c.length) ys ++ zsec.drop ((headPg no k (xs.length + (ys.length + 1)) (sizC xs + (c.length + sizC ys)) ++ endsB 0 xs).length + (endsB (sizC xs + c.length) ys).length) = headPg no k (xs.length + (ys.length + 1)) (sizC xs + (c.length + sizC ys)) ++ (endsB 0 xs ++ (endsB (sizC xs + c.length) ys ++ zsec.drop ((headPg no k (xs.length + (ys.length + 1)) (sizC xs + (c.length + sizC ys)) ++ endsB 0 xs).length + (endsB (sizC xs + c.length) ys).length))) by simp only [List.append_assoc]]
  rw [set_head]
  rw [show fixB no 4 ++ (k :: UInt8.ofNat (xs.length + ys.length) :: w2 (sizC xs + (c.length + sizC ys))) = remH no k xs ys c from rfl]
  rw [← List.append_assoc, ← List.append_assoc]
  have hR := remH_length no k xs ys c
  rw [splice_step _ _ _ _ _ (by simp only [List.length_append, hR, endsB_length]; omega)]
  rw [splice_step _ _ _ _ _ (by simp only [List.length_append, hR, endsB_length, sizC_flatten]; omega)]
  unfold remR
  have e : zsec.drop ((headPg no k (xs.length + (ys.length + 1)) (sizC xs + (c.length + sizC ys)) ++ endsB 0 xs).length + (endsB (sizC xs + c.length) ys).length + xs.flatten.length + ys.flatten.length) = List.replicate (248 - (2 * (xs.length + ys.length) + (sizC xs + sizC ys))) 0 := by
    unfold zsec
    rw [List.drop_replicate]
    congr 1
    simp only [List.length_append, headPg_length, endsB_length, sizC_flatten]; omega
  rw [e]
  simp only [List.append_assoc]
theorem rem_facts {no : Nat} {k : UInt8} {xs ys : List (List UInt8)} (c : List UInt8) (hfit : fitC (xs ++ c :: ys)) (M : List UInt8) (hM : M = (remH no k xs ys c ++ endsB 0 xs) ++ (endsB (sizC xs + c.length) ys ++ remR xs ys)) :
    M.length = 256 ∧ (at8 M 5).toNat = xs.length + ys.length ∧ wordB M 6 = sizC xs + (c.length + sizC ys) ∧ (∀ j : Nat, xs.length ≤ j → j < xs.length + ys.length → endB M (j : Int) ≤ 244 ∧ sizC xs + c.length ≤ endB M (j : Int)) := by
  unfold fitC at hfit
  simp only [List.length_append, sizC_append, List.length_cons, sizC_cons] at hfit
  refine ⟨?_, ?_, ?_, ?_⟩
  · rw [hM]; unfold remR
    simp only [List.length_append, remH_length, endsB_length, List.length_cons, sizC_flatten, List.length_replicate]
    omega
  · rw [hM]; unfold remH
    have := at8_append_right (fixB no 4) ((k :: UInt8.ofNat (xs.length + ys.length) :: w2 (sizC xs + (c.length + sizC ys))) ++ (endsB 0 xs ++ (endsB (sizC xs + c.length) ys ++ remR xs ys))) 1
    rw [fixB_length] at this
    simp only [List.append_assoc] at this ⊢
    rw [this]
    show (UInt8.ofNat (xs.length + ys.length)).toNat = _
    rw [u8_ofNat]; omega
  · rw [hM]; unfold remH
    rw [show fixB no 4 ++ (k :: UInt8.ofNat (xs.length + ys.length) :: w2 (sizC xs + (c.length + sizC ys))) ++ endsB 0 xs ++ (endsB (sizC xs + c.length) ys ++ remR xs ys) = (fixB no 4 ++ [k, UInt8.ofNat (xs.length + ys.length)]) ++ (w2 (sizC xs + (c.length + sizC ys)) ++ (endsB 0 xs ++ (endsB (sizC xs + c.length) ys ++ remR xs ys))) by simp]
    exact wordB_mid _ _ _ (by omega) _ (by rw [List.length_append, fixB_length]; rfl)
  · intro j h1 h2
    have hlt : j - xs.length < ys.length := by omega
    have hzs : ys = ys.take (j - xs.length) ++ (ys[j - xs.length] :: ys.drop (j - xs.length + 1)) := by rw [← List.drop_eq_getElem_cons hlt, List.take_append_drop]
    have hsum := congrArg sizC hzs
    rw [sizC_append, sizC_cons] at hsum
    obtain ⟨d, hd⟩ : ∃ d, ys[j - xs.length] = d := ⟨_, rfl⟩
    rw [hd] at hzs hsum
    have hlen : (ys.take (j - xs.length)).length = j - xs.length := by rw [List.length_take]; omega
    have h3 : endB M (j : Int) = sizC xs + c.length + sizC (ys.take (j - xs.length)) + d.length := by
      rw [hM, endB_nat]
      have e : endsB (sizC xs + c.length) ys = endsB (sizC xs + c.length) (ys.take (j - xs.length)) ++ (w2 (sizC xs + c.length + sizC (ys.take (j - xs.length)) + d.length) ++ endsB (sizC xs + c.length + sizC (ys.take (j - xs.length)) + d.length) (ys.drop (j - xs.length + 1))) := by
        conv => lhs; rw [hzs]
        rw [endsB_append, endsB]
      rw [e]
      rw [show remH no k xs ys c ++ endsB 0 xs ++ (endsB (sizC xs + c.length) (ys.take (j - xs.length)) ++ (w2 (sizC xs + c.length + sizC (ys.take (j - xs.length)) + d.length) ++ endsB (sizC xs + c.length + sizC (ys.take (j - xs.length)) + d.length) (ys.drop (j - xs.length + 1))) ++ remR xs ys) = (remH no k xs ys c ++ endsB 0 xs ++ endsB (sizC xs + c.length) (ys.take (j - xs.length))) ++ (w2 (sizC xs + c.length + sizC (ys.take (j - xs.length)) + d.length) ++ (endsB (sizC xs + c.length + sizC (ys.take (j - xs.length)) + d.length) (ys.drop (j - xs.length + 1)) ++ remR xs ys)) by simp]
      exact wordB_mid _ _ _ (by omega) _ (by simp only [List.length_append, remH_length, endsB_length, hlen]; omega)
    rw [h3]
    omega
theorem rem_page {no : Nat} {k : UInt8} {xs ys : List (List UInt8)} (c : List UInt8) (hfit : fitC (xs ++ c :: ys)) (M : List UInt8) (hM : M = (remH no k xs ys c ++ endsB 0 xs) ++ (endsB (sizC xs + c.length) ys ++ remR xs ys)) :
    setW (shiftB M xs.length (-(c.length : Int)) ys.length) 6 (sizC xs + sizC ys) = pageB no k (xs ++ ys) := by
  unfold fitC at hfit
  simp only [List.length_append, sizC_append, List.length_cons, sizC_cons] at hfit
  rw [hM, shift_mid _ _ _ (sizC xs) _ (by omega) _ (by rw [List.length_append, remH_length, endsB_length]) _ (by omega) (by omega)]
  unfold remH remR
  rw [show fixB no 4 ++ (k :: UInt8.ofNat (xs.length + ys.length) :: w2 (sizC xs + (c.length + sizC ys))) ++ endsB 0 xs ++ (endsB (sizC xs) ys ++ (xs.flatten ++ (ys.flatten ++ List.replicate (248 - (2 * (xs.length + ys.length) + (sizC xs + sizC ys))) 0))) = (fixB no 4 ++ [k, UInt8.ofNat (xs.length + ys.length)]) ++ (w2 (sizC xs + (c.length + sizC ys)) ++ (endsB 0 xs ++ (endsB (sizC xs) ys ++ (xs.flatten ++ (ys.flatten ++ List.replicate (248 - (2 * (xs.length + ys.length) + (sizC xs + sizC ys))) 0))))) by simp]
  rw [setW_two _ _ _ _ _ (by rw [List.length_append, fixB_length]; rfl) (w2_length _)]
  unfold pageB bodyB headPg
  rw [endsB_append, Nat.zero_add, List.flatten_append, List.length_append, sizC_append]
  have e5 : List.replicate (248 - (2 * (xs.length + ys.length) + (sizC xs + sizC ys))) (0 : UInt8) = List.replicate (244 - (2 * (xs.length + ys.length) + (sizC xs + sizC ys))) 0 ++ [0, 0, 0, 0] := by
    rw [show [(0 : UInt8), 0, 0, 0] = List.replicate 4 0 from rfl, List.replicate_append_replicate]
    congr 1; omega
  rw [e5]
  simp
end Go.Proofs.YtibhoekbjgoanaaDoor
