/- Pages, plain: a cell put in. -/
import Derived.Test.YtibhoekbjgoanaaDoorPageP
set_option linter.unusedSimpArgs false
set_option linter.unusedVariables false
namespace Go.Proofs.YtibhoekbjgoanaaDoor
open Go.RowKit Go.Proofs.YtibhoekbjgoanaaDoor.Crc
theorem splice_step (p R s : List UInt8) (n q : Nat) (hq : q = p.length) : splice (p ++ R.drop n) q s = (p ++ s) ++ R.drop (n + s.length) := by
  subst hq
  unfold splice
  rw [List.take_left' rfl, ← List.drop_drop, List.drop_left' rfl, List.drop_drop, List.append_assoc]
theorem setW_mid (P Y : List UInt8) (x y : UInt8) (i n : Nat) (hi : i = P.length) : setW (P ++ (x :: y :: Y)) i n = P ++ (w2 n ++ Y) := by
  subst hi
  unfold setW
  rw [List.set_append_right _ _ (by omega), List.set_append_right _ _ (by omega)]
  rw [show P.length - P.length = 0 by omega, show P.length + 1 - P.length = 1 by omega]
  rfl
theorem setW_two (P Y u : List UInt8) (i n : Nat) (hi : i = P.length) (hu : u.length = 2) : setW (P ++ (u ++ Y)) i n = P ++ (w2 n ++ Y) := by
  match u, hu with
  | [x, y], _ => exact setW_mid P Y x y i n hi
theorem shift_mid (P R : List UInt8) (t t' : Nat) (d : Int) (htt : (t' : Int) = t + d) (i : Nat) (hP : P.length = 8 + 2 * i) (ys : List (List UInt8)) (hs : t + sizC ys < 65536) (hs' : t' + sizC ys < 65536) :
    shiftB (P ++ (endsB t ys ++ R)) i d ys.length = P ++ (endsB t' ys ++ R) := by
  have key : ∀ m (xs zs : List (List UInt8)), xs.length = m → xs ++ zs = ys → shiftB (P ++ (endsB t ys ++ R)) i d m = P ++ (endsB t' xs ++ (endsB (t + sizC xs) zs ++ R)) := by
    intro m
    induction m with
    | zero =>
      intro xs zs hx he
      have := List.eq_nil_of_length_eq_zero hx
      subst this
      subst he
      rfl
    | succ m ih =>
      intro xs zs hx he
      have hne : xs ≠ [] := by intro h; rw [h] at hx; simp at hx
      obtain ⟨es, c, rfl⟩ : ∃ es c, xs = es ++ [c] := ⟨xs.dropLast, xs.getLast hne, (List.dropLast_concat_getLast hne).symm⟩
      have hm : es.length = m := by simpa using hx
      have he2 : es ++ (c :: zs) = ys := by rw [← he, List.append_assoc]; rfl
      have hsz : sizC es + (c.length + sizC zs) = sizC ys := by rw [← he2, sizC_append, sizC_cons]
      have hI := ih es (c :: zs) hm he2
      have hend : endB (P ++ (endsB t ys ++ R)) ((i + m : Nat) : Int) = t + sizC es + c.length := by
        rw [endB_nat, ← he2, endsB_append, endsB]
        rw [show P ++ (endsB t es ++ (w2 (t + sizC es + c.length) ++ endsB (t + sizC es + c.length) zs) ++ R) = (P ++ endsB t es) ++ (w2 (t + sizC es + c.length) ++ (endsB (t + sizC es + c.length) zs ++ R)) by simp]
        exact wordB_mid _ _ _ (by omega) _ (by rw [List.length_append, hP, endsB_length, hm]; omega)
      show setW _ _ _ = _
      rw [hI, hend, endsB]
      have e3 : (((t + sizC es + c.length : Nat) : Int) + d).toNat = t' + sizC es + c.length := by omega
      rw [e3]
      rw [show P ++ (endsB t' es ++ (w2 (t + sizC es + c.length) ++ endsB (t + sizC es + c.length) zs ++ R)) = (P ++ endsB t' es) ++ (w2 (t + sizC es + c.length) ++ (endsB (t + sizC es + c.length) zs ++ R)) by simp]
      rw [setW_two _ _ _ _ _ (by rw [List.length_append, hP, endsB_length, hm]; omega) rfl]
      rw [endsB_append, sizC_append, sizC_cons, sizC_nil, Nat.add_zero, endsB, endsB]
      simp [Nat.add_assoc]
  have := key ys.length ys [] rfl (by simp)
  rw [this, endsB, List.nil_append]
/-- The bytes of Insert ahead of the shift, and after it. -/
def insS (l : List UInt8) (i : Nat) (b : List UInt8) : List UInt8 :=
  splice (splice (splice (setW (splice ((ownP l).set 5 (at8 l 5 + 1)) (8 + 2 * i + 2) ((l.drop (8 + 2 * i)).take (8 + 2 * cntB l - (8 + 2 * i)))) (8 + 2 * i) (endB l ((i : Int) - 1)))
    (8 + 2 * cntB l + 2) ((l.drop (8 + 2 * cntB l)).take (endB l ((i : Int) - 1)))) (8 + 2 * cntB l + 2 + endB l ((i : Int) - 1)) b)
    (8 + 2 * cntB l + 2 + endB l ((i : Int) - 1) + b.length) ((l.drop (8 + 2 * cntB l + endB l ((i : Int) - 1))).take (sizB l - endB l ((i : Int) - 1)))
def insB (l : List UInt8) (i : Nat) (b : List UInt8) : List UInt8 :=
  setW (shiftB (insS l i b) i b.length (cntB l + 1 - i)) 6 (sizB l + b.length)
theorem take_drop_mid (a b c : List UInt8) (n m : Nat) (hn : n = a.length) (hm : m = b.length) : ((a ++ (b ++ c)).drop n).take m = b := by
  subst hn; subst hm; rw [List.drop_left' rfl, List.take_left' rfl]
theorem set_head (no : Nat) (k : UInt8) (n s : Nat) (x : UInt8) (R : List UInt8) : (headPg no k n s ++ R).set 5 x = (fixB no 4 ++ (k :: x :: w2 s)) ++ R := by
  unfold headPg
  rw [List.append_assoc, List.set_append_right _ _ (by rw [fixB_length]; decide), fixB_length, List.append_assoc]
  rfl
theorem u8_ofNat_succ (n : Nat) : UInt8.ofNat n + 1 = UInt8.ofNat (n + 1) := by
  apply UInt8.toNat_inj.1; simp
/-- What lies behind the ends, in Insert. -/
def insR (xs ys : List (List UInt8)) (b : List UInt8) : List UInt8 := (xs.flatten ++ (b ++ (ys.flatten ++ List.replicate (248 - (2 * (xs.length + ys.length + 1) + (sizC xs + (b.length + sizC ys)))) 0)))
def insH (no : Nat) (k : UInt8) (xs ys : List (List UInt8)) : List UInt8 := fixB no 4 ++ (k :: UInt8.ofNat (xs.length + ys.length + 1) :: w2 (sizC xs + sizC ys))
theorem insH_length (no : Nat) (k : UInt8) (xs ys : List (List UInt8)) : (insH no k xs ys).length = 8 := by unfold insH; rw [List.length_append, fixB_length]; rfl
theorem ins_mid {l : List UInt8} {no : Nat} {k : UInt8} {xs ys : List (List UInt8)} (h : PgL l no k (xs ++ ys)) (b : List UInt8) (hfit : fitC (xs ++ b :: ys)) :
    insS l xs.length b = (insH no k xs ys ++ endsB 0 xs) ++ (endsB (sizC xs) ([] :: ys) ++ insR xs ys b) := by
  have hN : cntB l = xs.length + ys.length := by rw [h.count, List.length_append]
  have hwas : endB l ((xs.length : Int) - 1) = sizC xs := by rw [h.endAt _ (by simp), List.take_left' rfl]
  have hsz : sizB l = sizC xs + sizC ys := by rw [h.size, sizC_append]
  have hown := h.own
  have h5 : at8 l 5 = UInt8.ofNat (xs.length + ys.length) := by
    apply UInt8.toNat_inj.1
    have : (at8 l 5).toNat = xs.length + ys.length := hN
    rw [this, u8_ofNat]
    have := h.1
    unfold fitC at this
    rw [List.length_append] at this
    omega
  obtain ⟨hf, t, ht, hl⟩ := h
  unfold fitC at hf hfit
  simp only [List.length_append, sizC_append, List.length_cons, sizC_cons] at hf hfit
  obtain ⟨Z, hZ⟩ : ∃ Z, List.replicate (244 - (2 * (xs.length + ys.length) + (sizC xs + sizC ys))) (0 : UInt8) ++ [0, 0, 0, 0] = Z := ⟨_, rfl⟩
  have hZr : Z = List.replicate (248 - (2 * (xs.length + ys.length) + (sizC xs + sizC ys))) 0 := by
    rw [← hZ, show [(0 : UInt8), 0, 0, 0] = List.replicate 4 0 from rfl, List.replicate_append_replicate]
    congr 1; omega
  have hl2 : l = (headPg no k (xs.length + ys.length) (sizC xs + sizC ys) ++ endsB 0 xs) ++ (endsB (sizC xs) ys ++ (xs.flatten ++ (ys.flatten ++ (List.replicate (244 - (2 * (xs.length + ys.length) + (sizC xs + sizC ys))) 0 ++ t)))) := by
    rw [hl]; unfold bodyB; rw [endsB_append, Nat.zero_add, List.length_append, sizC_append, List.flatten_append]; simp only [List.append_assoc]
  unfold insS
  simp only [hN, hwas, hsz, hown, h5, u8_ofNat_succ]
  -- the pieces that are copied
  have c1 : (l.drop (8 + 2 * xs.length)).take (8 + 2 * (xs.length + ys.length) - (8 + 2 * xs.length)) = endsB (sizC xs) ys := by
    rw [hl2]; exact take_drop_mid _ _ _ _ _ (by rw [List.length_append, headPg_length, endsB_length]) (by rw [endsB_length]; omega)
  have c2 : (l.drop (8 + 2 * (xs.length + ys.length))).take (sizC xs) = xs.flatten := by
    rw [hl2, ← List.append_assoc]; exact take_drop_mid _ _ _ _ _ (by simp only [List.length_append, headPg_length, endsB_length]; omega) (by rw [sizC_flatten])
  have c3 : (l.drop (8 + 2 * (xs.length + ys.length) + sizC xs)).take (sizC xs + sizC ys - sizC xs) = ys.flatten := by
    rw [hl2, ← List.append_assoc, ← List.append_assoc]; exact take_drop_mid _ _ _ _ _ (by simp only [List.length_append, headPg_length, endsB_length, sizC_flatten]; omega) (by rw [sizC_flatten]; omega)
  rw [c1, c2, c3]
  clear c1 c2 c3 hl2 hl
  -- the head, and what lies behind it
  have e1 : pageB no k (xs ++ ys) = headPg no k (xs.length + ys.length) (sizC xs + sizC ys) ++ (endsB 0 xs ++ (endsB (sizC xs) ys ++ (xs.flatten ++ (ys.flatten ++ Z)))) := by
    rw [← hZ]; unfold pageB bodyB; rw [endsB_append, Nat.zero_add, List.length_append, sizC_append, List.flatten_append]; simp only [List.append_assoc]
  rw [e1, set_head]
  obtain ⟨R, hR⟩ : ∃ R, endsB (sizC xs) ys ++ (xs.flatten ++ (ys.flatten ++ Z)) = R := ⟨_, rfl⟩
  obtain ⟨H, hH⟩ : ∃ H, fixB no 4 ++ (k :: UInt8.ofNat (xs.length + ys.length + 1) :: w2 (sizC xs + sizC ys)) = H := ⟨_, rfl⟩
  have hHl : H.length = 8 := by rw [← hH, List.length_append, fixB_length]; rfl
  have hRl : R.length = 248 - 2 * xs.length := by
    rw [← hR, hZr]; simp only [List.length_append, endsB_length, sizC_flatten, List.length_replicate]; omega
  rw [hR, hH]
  have e2 : H ++ (endsB 0 xs ++ R) = ((H ++ endsB 0 xs) ++ R.take 2) ++ R.drop 2 := by
    rw [List.append_assoc _ (R.take 2), List.take_append_drop, List.append_assoc]
  have hu : (R.take 2).length = 2 := by rw [List.length_take]; omega
  rw [e2, splice_step _ _ _ _ _ (by simp only [List.length_append, hHl, endsB_length, hu])]
  rw [List.append_assoc (H ++ endsB 0 xs), List.append_assoc (H ++ endsB 0 xs), List.append_assoc (R.take 2), setW_two _ _ _ _ _ (by simp only [List.length_append, hHl, endsB_length]) hu]
  rw [show (H ++ endsB 0 xs) ++ (w2 (sizC xs) ++ (endsB (sizC xs) ys ++ R.drop (2 + (endsB (sizC xs) ys).length))) = (H ++ endsB 0 xs ++ w2 (sizC xs) ++ endsB (sizC xs) ys) ++ R.drop (2 + (endsB (sizC xs) ys).length) by simp]
  rw [splice_step _ _ _ _ _ (by simp only [List.length_append, hHl, endsB_length, w2_length]; omega)]
  rw [splice_step _ _ _ _ _ (by simp only [List.length_append, hHl, endsB_length, w2_length, sizC_flatten]; omega)]
  rw [splice_step _ _ _ _ _ (by simp only [List.length_append, hHl, endsB_length, w2_length, sizC_flatten]; omega)]
  have hrest : R.drop (2 + (endsB (sizC xs) ys).length + xs.flatten.length + b.length + ys.flatten.length) = List.replicate (248 - (2 * (xs.length + ys.length + 1) + (sizC xs + (b.length + sizC ys)))) 0 := by
    rw [← hR, ← List.append_assoc, ← List.append_assoc, hZr]
    rw [List.drop_append, List.drop_of_length_le (by simp only [List.length_append]; omega), List.nil_append, List.drop_replicate]
    congr 1
    simp only [List.length_append, endsB_length, sizC_flatten]; omega
  rw [hrest]
  unfold insR insH
  rw [endsB, hH]; simp only [List.append_assoc, List.length_nil, Nat.add_zero]
theorem ins_page {l : List UInt8} {no : Nat} {k : UInt8} {xs ys : List (List UInt8)} (h : PgL l no k (xs ++ ys)) (b : List UInt8) (hfit : fitC (xs ++ b :: ys)) :
    insB l xs.length b = pageB no k (xs ++ b :: ys) := by
  have hN : cntB l = xs.length + ys.length := by rw [h.count, List.length_append]
  have hwas : endB l ((xs.length : Int) - 1) = sizC xs := by rw [h.endAt _ (by simp), List.take_left' rfl]
  have hsz : sizB l = sizC xs + sizC ys := by rw [h.size, sizC_append]
  have hmid := ins_mid h b hfit
  obtain ⟨hf, _⟩ := h
  unfold fitC at hf hfit
  simp only [List.length_append, sizC_append, List.length_cons, sizC_cons] at hf hfit
  unfold insB
  rw [hmid, hN, hsz, show xs.length + ys.length + 1 - xs.length = ([] :: ys).length by rw [List.length_cons]; omega]
  rw [shift_mid _ _ _ (sizC xs + b.length) _ (by omega) _ (by rw [List.length_append, insH_length, endsB_length]) _ (by rw [sizC_cons, List.length_nil]; omega) (by rw [sizC_cons, List.length_nil]; omega)]
  unfold insH insR
  rw [show fixB no 4 ++ (k :: UInt8.ofNat (xs.length + ys.length + 1) :: w2 (sizC xs + sizC ys)) ++ endsB 0 xs ++ (endsB (sizC xs + b.length) ([] :: ys) ++ (xs.flatten ++ (b ++ (ys.flatten ++ List.replicate (248 - (2 * (xs.length + ys.length + 1) + (sizC xs + (b.length + sizC ys)))) 0)))) = (fixB no 4 ++ [k, UInt8.ofNat (xs.length + ys.length + 1)]) ++ (w2 (sizC xs + sizC ys) ++ (endsB 0 xs ++ (endsB (sizC xs + b.length) ([] :: ys) ++ (xs.flatten ++ (b ++ (ys.flatten ++ List.replicate (248 - (2 * (xs.length + ys.length + 1) + (sizC xs + (b.length + sizC ys)))) 0)))))) by simp]
  rw [setW_two _ _ _ _ _ (by rw [List.length_append, fixB_length]; rfl) (w2_length _)]
  unfold pageB bodyB headPg
  rw [endsB_append, Nat.zero_add, endsB, endsB, List.flatten_append, List.flatten_cons, List.length_append, List.length_cons, sizC_append, sizC_cons, List.length_nil, Nat.add_zero]
  have e5 : List.replicate (248 - (2 * (xs.length + ys.length + 1) + (sizC xs + (b.length + sizC ys)))) (0 : UInt8) = List.replicate (244 - (2 * (xs.length + (ys.length + 1)) + (sizC xs + (b.length + sizC ys)))) 0 ++ [0, 0, 0, 0] := by
    rw [show [(0 : UInt8), 0, 0, 0] = List.replicate 4 0 from rfl, List.replicate_append_replicate]
    congr 1; omega
  rw [e5, show sizC xs + sizC ys + b.length = sizC xs + (b.length + sizC ys) by omega, show xs.length + ys.length + 1 = xs.length + (ys.length + 1) by omega]
  simp
theorem ins_facts {no : Nat} {k : UInt8} {xs ys : List (List UInt8)} (b : List UInt8) (hfit : fitC (xs ++ b :: ys)) (M : List UInt8) (hM : M = (insH no k xs ys ++ endsB 0 xs) ++ (endsB (sizC xs) ([] :: ys) ++ insR xs ys b)) :
    M.length = 256 ∧ (at8 M 5).toNat = xs.length + ys.length + 1 ∧ wordB M 6 = sizC xs + sizC ys ∧ (∀ j : Nat, xs.length ≤ j → j < xs.length + ys.length + 1 → endB M (j : Int) ≤ 244) := by
  unfold fitC at hfit
  simp only [List.length_append, sizC_append, List.length_cons, sizC_cons] at hfit
  refine ⟨?_, ?_, ?_, ?_⟩
  · rw [hM]; unfold insR
    simp only [List.length_append, insH_length, endsB_length, List.length_cons, sizC_flatten, List.length_replicate]
    omega
  · rw [hM]; unfold insH
    have := at8_append_right (fixB no 4) ((k :: UInt8.ofNat (xs.length + ys.length + 1) :: w2 (sizC xs + sizC ys)) ++ (endsB 0 xs ++ (endsB (sizC xs) ([] :: ys) ++ insR xs ys b))) 1
    rw [fixB_length] at this
    simp only [List.append_assoc] at this ⊢
    rw [this]
    show (UInt8.ofNat (xs.length + ys.length + 1)).toNat = _
    rw [u8_ofNat]; omega
  · rw [hM]; unfold insH
    rw [show fixB no 4 ++ (k :: UInt8.ofNat (xs.length + ys.length + 1) :: w2 (sizC xs + sizC ys)) ++ endsB 0 xs ++ (endsB (sizC xs) ([] :: ys) ++ insR xs ys b) = (fixB no 4 ++ [k, UInt8.ofNat (xs.length + ys.length + 1)]) ++ (w2 (sizC xs + sizC ys) ++ (endsB 0 xs ++ (endsB (sizC xs) ([] :: ys) ++ insR xs ys b))) by simp]
    exact wordB_mid _ _ _ (by omega) _ (by rw [List.length_append, fixB_length]; rfl)
  · intro j h1 h2
    have hzs : ([] :: ys : List (List UInt8)) = ([] :: ys).take (j - xs.length) ++ (([] :: ys : List (List UInt8)).getD (j - xs.length) [] :: ([] :: ys).drop (j - xs.length + 1)) := by
      have hlt : j - xs.length < ([] :: ys : List (List UInt8)).length := by rw [List.length_cons]; omega
      rw [List.getD_eq_getElem?_getD, List.getElem?_eq_getElem hlt, Option.getD_some, ← List.drop_eq_getElem_cons hlt, List.take_append_drop]
    have hsum := congrArg sizC hzs
    rw [sizC_append, sizC_cons, sizC_cons, List.length_nil] at hsum
    have hlt : (([] :: ys : List (List UInt8)).take (j - xs.length)).length = j - xs.length := by rw [List.length_take, List.length_cons]; omega
    have hlen : (xs ++ ([] :: ys : List (List UInt8)).take (j - xs.length)).length = j := by rw [List.length_append, hlt]; omega
    have h3 := end_mid (insH no k xs ys) (insH_length _ _ _ _) 0 (xs ++ ([] :: ys).take (j - xs.length)) (([] :: ys : List (List UInt8)).getD (j - xs.length) []) (([] :: ys).drop (j - xs.length + 1)) (insR xs ys b) (by rw [sizC_append]; omega)
    rw [hlen, List.append_assoc xs, ← hzs, endsB_append, Nat.zero_add] at h3
    rw [hM]
    have e : insH no k xs ys ++ endsB 0 xs ++ (endsB (sizC xs) ([] :: ys) ++ insR xs ys b) = insH no k xs ys ++ (endsB 0 xs ++ endsB (sizC xs) ([] :: ys) ++ insR xs ys b) := by simp
    rw [e, h3, sizC_append]
    omega
end Go.Proofs.YtibhoekbjgoanaaDoor
