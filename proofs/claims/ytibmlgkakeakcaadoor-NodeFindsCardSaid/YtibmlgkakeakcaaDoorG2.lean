/- Pages, plain: a cell put in. -/
import Derived.Test.YtibmlgkakeakcaaDoorG1
import Derived.StillTailTactics
import Derived.WalkMore
import Derived.Lib.AppendStr
set_option linter.unusedSimpArgs false
set_option linter.unusedVariables false
namespace Go.Proofs.YtibmlgkakeakcaaDoor
open Go.RowKit Go.Proofs.YtibmlgkakeakcaaDoor.Crc
theorem splice_step (p R s : List UInt8) (n q : Nat) (hq : q = p.length) : splice (p ++ R.drop n) q s = (p ++ s) ++ R.drop (n + s.length) := by
  subst hq
  unfold splice
  rw [List.take_left' rfl, ← List.drop_drop, List.drop_left' rfl, List.drop_drop, List.append_assoc]
theorem setW_mid (P Y : List UInt8) (x y : UInt8) (i n : Nat) (hi : i = P.length) : setW (P ++ (x :: y :: Y)) i n = P ++ (w2 n ++ Y) := by
  subst hi
  unfold setW
  rw [List.set_append_right _ _ (by omega), List.set_append_right _ _ (by omega)]
  rw [show P.length - P.length = 0 by omega, show P.length + 1 - P.length = 1 by omega]
  rfl
theorem setW_two (P Y u : List UInt8) (i n : Nat) (hi : i = P.length) (hu : u.length = 2) : setW (P ++ (u ++ Y)) i n = P ++ (w2 n ++ Y) := by
  match u, hu with
  | [x, y], _ => exact setW_mid P Y x y i n hi
theorem shift_mid (P R : List UInt8) (t t' : Nat) (d : Int) (htt : (t' : Int) = t + d) (i : Nat) (hP : P.length = 8 + 2 * i) (ys : List (List UInt8)) (hs : t + sizC ys < 65536) (hs' : t' + sizC ys < 65536) :
    shiftB (P ++ (endsB t ys ++ R)) i d ys.length = P ++ (endsB t' ys ++ R) := by
  have key : ∀ m (xs zs : List (List UInt8)), xs.length = m → xs ++ zs = ys → shiftB (P ++ (endsB t ys ++ R)) i d m = P ++ (endsB t' xs ++ (endsB (t + sizC xs) zs ++ R)) := by
    intro m
    induction m with
    | zero =>
      intro xs zs hx he
      have := List.eq_nil_of_length_eq_zero hx
      subst this
      subst he
      rfl
    | succ m ih =>
      intro xs zs hx he
      have hne : xs ≠ [] := by intro h; rw [h] at hx; simp at hx
      obtain ⟨es, c, rfl⟩ : ∃ es c, xs = es ++ [c] := ⟨xs.dropLast, xs.getLast hne, (List.dropLast_concat_getLast hne).symm⟩
      have hm : es.length = m := by simpa using hx
      have he2 : es ++ (c :: zs) = ys := by rw [← he, List.append_assoc]; rfl
      have hsz : sizC es + (c.length + sizC zs) = sizC ys := by rw [← he2, sizC_append, sizC_cons]
      have hI := ih es (c :: zs) hm he2
      have hend : endB (P ++ (endsB t ys ++ R)) ((i + m : Nat) : Int) = t + sizC es + c.length := by
        rw [endB_nat, ← he2, endsB_append, endsB]
        rw [show P ++ (endsB t es ++ (w2 (t + sizC es + c.length) ++ endsB (t + sizC es + c.length) zs) ++ R) = (P ++ endsB t es) ++ (w2 (t + sizC es + c.length) ++ (endsB (t + sizC es + c.length) zs ++ R)) by simp]
        exact wordB_mid _ _ _ (by omega) _ (by rw [List.length_append, hP, endsB_length, hm]; omega)
      show setW _ _ _ = _
      rw [hI, hend, endsB]
      have e3 : (((t + sizC es + c.length : Nat) : Int) + d).toNat = t' + sizC es + c.length := by omega
      rw [e3]
      rw [show P ++ (endsB t' es ++ (w2 (t + sizC es + c.length) ++ endsB (t + sizC es + c.length) zs ++ R)) = (P ++ endsB t' es) ++ (w2 (t + sizC es + c.length) ++ (endsB (t + sizC es + c.length) zs ++ R)) by simp]
      rw [setW_two _ _ _ _ _ (by rw [List.length_append, hP, endsB_length, hm]; omega) rfl]
      rw [endsB_append, sizC_append, sizC_cons, sizC_nil, Nat.add_zero, endsB, endsB]
      simp [Nat.add_assoc]
  have := key ys.length ys [] rfl (by simp)
  rw [this, endsB, List.nil_append]
/-- The bytes of Insert ahead of the shift, and after it. -/
def insS (l : List UInt8) (i : Nat) (b : List UInt8) : List UInt8 :=
  splice (splice (splice (setW (splice ((ownP l).set 5 (at8 l 5 + 1)) (8 + 2 * i + 2) ((l.drop (8 + 2 * i)).take (8 + 2 * cntB l - (8 + 2 * i)))) (8 + 2 * i) (endB l ((i : Int) - 1)))
    (8 + 2 * cntB l + 2) ((l.drop (8 + 2 * cntB l)).take (endB l ((i : Int) - 1)))) (8 + 2 * cntB l + 2 + endB l ((i : Int) - 1)) b)
    (8 + 2 * cntB l + 2 + endB l ((i : Int) - 1) + b.length) ((l.drop (8 + 2 * cntB l + endB l ((i : Int) - 1))).take (sizB l - endB l ((i : Int) - 1)))
def insB (l : List UInt8) (i : Nat) (b : List UInt8) : List UInt8 :=
  setW (shiftB (insS l i b) i b.length (cntB l + 1 - i)) 6 (sizB l + b.length)
theorem take_drop_mid (a b c : List UInt8) (n m : Nat) (hn : n = a.length) (hm : m = b.length) : ((a ++ (b ++ c)).drop n).take m = b := by
  subst hn; subst hm; rw [List.drop_left' rfl, List.take_left' rfl]
theorem set_head (no : Nat) (k : UInt8) (n s : Nat) (x : UInt8) (R : List UInt8) : (headPg no k n s ++ R).set 5 x = (fixB no 4 ++ (k :: x :: w2 s)) ++ R := by
  unfold headPg
  rw [List.append_assoc, List.set_append_right _ _ (by rw [fixB_length]; decide), fixB_length, List.append_assoc]
  rfl
theorem u8_ofNat_succ (n : Nat) : UInt8.ofNat n + 1 = UInt8.ofNat (n + 1) := by
  apply UInt8.toNat_inj.1; simp
/-- What lies behind the ends, in Insert. -/
def insR (xs ys : List (List UInt8)) (b : List UInt8) : List UInt8 := (xs.flatten ++ (b ++ (ys.flatten ++ List.replicate (248 - (2 * (xs.length + ys.length + 1) + (sizC xs + (b.length + sizC ys)))) 0)))
def insH (no : Nat) (k : UInt8) (xs ys : List (List UInt8)) : List UInt8 := fixB no 4 ++ (k :: UInt8.ofNat (xs.length + ys.length + 1) :: w2 (sizC xs + sizC ys))
theorem insH_length (no : Nat) (k : UInt8) (xs ys : List (List UInt8)) : (insH no k xs ys).length = 8 := by unfold insH; rw [List.length_append, fixB_length]; rfl
theorem ins_mid {l : List UInt8} {no : Nat} {k : UInt8} {xs ys : List (List UInt8)} (h : PgL l no k (xs ++ ys)) (b : List UInt8) (hfit : fitC (xs ++ b :: ys)) :
    insS l xs.length b = (insH no k xs ys ++ endsB 0 xs) ++ (endsB (sizC xs) ([] :: ys) ++ insR xs ys b) := by
  have hN : cntB l = xs.length + ys.length := by rw [h.count, List.length_append]
  have hwas : endB l ((xs.length : Int) - 1) = sizC xs := by rw [h.endAt _ (by simp), List.take_left' rfl]
  have hsz : sizB l = sizC xs + sizC ys := by rw [h.size, sizC_append]
  have hown := h.own
  have h5 : at8 l 5 = UInt8.ofNat (xs.length + ys.length) := by
    apply UInt8.toNat_inj.1
    have : (at8 l 5).toNat = xs.length + ys.length := hN
    rw [this, u8_ofNat]
    have := h.1
    unfold fitC at this
    rw [List.length_append] at this
    omega
  obtain ⟨hf, t, ht, hl⟩ := h
  unfold fitC at hf hfit
  simp only [List.length_append, sizC_append, List.length_cons, sizC_cons] at hf hfit
  obtain ⟨Z, hZ⟩ : ∃ Z, List.replicate (244 - (2 * (xs.length + ys.length) + (sizC xs + sizC ys))) (0 : UInt8) ++ [0, 0, 0, 0] = Z := ⟨_, rfl⟩
  have hZr : Z = List.replicate (248 - (2 * (xs.length + ys.length) + (sizC xs + sizC ys))) 0 := by
    rw [← hZ, show [(0 : UInt8), 0, 0, 0] = List.replicate 4 0 from rfl, List.replicate_append_replicate]
    congr 1; omega
  have hl2 : l = (headPg no k (xs.length + ys.length) (sizC xs + sizC ys) ++ endsB 0 xs) ++ (endsB (sizC xs) ys ++ (xs.flatten ++ (ys.flatten ++ (List.replicate (244 - (2 * (xs.length + ys.length) + (sizC xs + sizC ys))) 0 ++ t)))) := by
    rw [hl]; unfold bodyB; rw [endsB_append, Nat.zero_add, List.length_append, sizC_append, List.flatten_append]; simp only [List.append_assoc]
  unfold insS
  simp only [hN, hwas, hsz, hown, h5, u8_ofNat_succ]
  -- the pieces that are copied
  have c1 : (l.drop (8 + 2 * xs.length)).take (8 + 2 * (xs.length + ys.length) - (8 + 2 * xs.length)) = endsB (sizC xs) ys := by
    rw [hl2]; exact take_drop_mid _ _ _ _ _ (by rw [List.length_append, headPg_length, endsB_length]) (by rw [endsB_length]; omega)
  have c2 : (l.drop (8 + 2 * (xs.length + ys.length))).take (sizC xs) = xs.flatten := by
    rw [hl2, ← List.append_assoc]; exact take_drop_mid _ _ _ _ _ (by simp only [List.length_append, headPg_length, endsB_length]; omega) (by rw [sizC_flatten])
  have c3 : (l.drop (8 + 2 * (xs.length + ys.length) + sizC xs)).take (sizC xs + sizC ys - sizC xs) = ys.flatten := by
    rw [hl2, ← List.append_assoc, ← List.append_assoc]; exact take_drop_mid _ _ _ _ _ (by simp only [List.length_append, headPg_length, endsB_length, sizC_flatten]; omega) (by rw [sizC_flatten]; omega)
  rw [c1, c2, c3]
  clear c1 c2 c3 hl2 hl
  -- the head, and what lies behind it
  have e1 : pageB no k (xs ++ ys) = headPg no k (xs.length + ys.length) (sizC xs + sizC ys) ++ (endsB 0 xs ++ (endsB (sizC xs) ys ++ (xs.flatten ++ (ys.flatten ++ Z)))) := by
    rw [← hZ]; unfold pageB bodyB; rw [endsB_append, Nat.zero_add, List.length_append, sizC_append, List.flatten_append]; simp only [List.append_assoc]
  rw [e1, set_head]
  obtain ⟨R, hR⟩ : ∃ R, endsB (sizC xs) ys ++ (xs.flatten ++ (ys.flatten ++ Z)) = R := ⟨_, rfl⟩
  obtain ⟨H, hH⟩ : ∃ H, fixB no 4 ++ (k :: UInt8.ofNat (xs.length + ys.length + 1) :: w2 (sizC xs + sizC ys)) = H := ⟨_, rfl⟩
  have hHl : H.length = 8 := by rw [← hH, List.length_append, fixB_length]; rfl
  have hRl : R.length = 248 - 2 * xs.length := by
    rw [← hR, hZr]; simp only [List.length_append, endsB_length, sizC_flatten, List.length_replicate]; omega
  rw [hR, hH]
  have e2 : H ++ (endsB 0 xs ++ R) = ((H ++ endsB 0 xs) ++ R.take 2) ++ R.drop 2 := by
    rw [List.append_assoc _ (R.take 2), List.take_append_drop, List.append_assoc]
  have hu : (R.take 2).length = 2 := by rw [List.length_take]; omega
  rw [e2, splice_step _ _ _ _ _ (by simp only [List.length_append, hHl, endsB_length, hu])]
  rw [List.append_assoc (H ++ endsB 0 xs), List.append_assoc (H ++ endsB 0 xs), List.append_assoc (R.take 2), setW_two _ _ _ _ _ (by simp only [List.length_append, hHl, endsB_length]) hu]
  rw [show (H ++ endsB 0 xs) ++ (w2 (sizC xs) ++ (endsB (sizC xs) ys ++ R.drop (2 + (endsB (sizC xs) ys).length))) = (H ++ endsB 0 xs ++ w2 (sizC xs) ++ endsB (sizC xs) ys) ++ R.drop (2 + (endsB (sizC xs) ys).length) by simp]
  rw [splice_step _ _ _ _ _ (by simp only [List.length_append, hHl, endsB_length, w2_length]; omega)]
  rw [splice_step _ _ _ _ _ (by simp only [List.length_append, hHl, endsB_length, w2_length, sizC_flatten]; omega)]
  rw [splice_step _ _ _ _ _ (by simp only [List.length_append, hHl, endsB_length, w2_length, sizC_flatten]; omega)]
  have hrest : R.drop (2 + (endsB (sizC xs) ys).length + xs.flatten.length + b.length + ys.flatten.length) = List.replicate (248 - (2 * (xs.length + ys.length + 1) + (sizC xs + (b.length + sizC ys)))) 0 := by
    rw [← hR, ← List.append_assoc, ← List.append_assoc, hZr]
    rw [List.drop_append, List.drop_of_length_le (by simp only [List.length_append]; omega), List.nil_append, List.drop_replicate]
    congr 1
    simp only [List.length_append, endsB_length, sizC_flatten]; omega
  rw [hrest]
  unfold insR insH
  rw [endsB, hH]; simp only [List.append_assoc, List.length_nil, Nat.add_zero]
theorem ins_page {l : List UInt8} {no : Nat} {k : UInt8} {xs ys : List (List UInt8)} (h : PgL l no k (xs ++ ys)) (b : List UInt8) (hfit : fitC (xs ++ b :: ys)) :
    insB l xs.length b = pageB no k (xs ++ b :: ys) := by
  have hN : cntB l = xs.length + ys.length := by rw [h.count, List.length_append]
  have hwas : endB l ((xs.length : Int) - 1) = sizC xs := by rw [h.endAt _ (by simp), List.take_left' rfl]
  have hsz : sizB l = sizC xs + sizC ys := by rw [h.size, sizC_append]
  have hmid := ins_mid h b hfit
  obtain ⟨hf, _⟩ := h
  unfold fitC at hf hfit
  simp only [List.length_append, sizC_append, List.length_cons, sizC_cons] at hf hfit
  unfold insB
  rw [hmid, hN, hsz, show xs.length + ys.length + 1 - xs.length = ([] :: ys).length by rw [List.length_cons]; omega]
  rw [shift_mid _ _ _ (sizC xs + b.length) _ (by omega) _ (by rw [List.length_append, insH_length, endsB_length]) _ (by rw [sizC_cons, List.length_nil]; omega) (by rw [sizC_cons, List.length_nil]; omega)]
  unfold insH insR
  rw [show fixB no 4 ++ (k :: UInt8.ofNat (xs.length + ys.length + 1) :: w2 (sizC xs + sizC ys)) ++ endsB 0 xs ++ (endsB (sizC xs + b.length) ([] :: ys) ++ (xs.flatten ++ (b ++ (ys.flatten ++ List.replicate (248 - (2 * (xs.length + ys.length + 1) + (sizC xs + (b.length + sizC ys)))) 0)))) = (fixB no 4 ++ [k, UInt8.ofNat (xs.length + ys.length + 1)]) ++ (w2 (sizC xs + sizC ys) ++ (endsB 0 xs ++ (endsB (sizC xs + b.length) ([] :: ys) ++ (xs.flatten ++ (b ++ (ys.flatten ++ List.replicate (248 - (2 * (xs.length + ys.length + 1) + (sizC xs + (b.length + sizC ys)))) 0)))))) by simp]
  rw [setW_two _ _ _ _ _ (by rw [List.length_append, fixB_length]; rfl) (w2_length _)]
  unfold pageB bodyB headPg
  rw [endsB_append, Nat.zero_add, endsB, endsB, List.flatten_append, List.flatten_cons, List.length_append, List.length_cons, sizC_append, sizC_cons, List.length_nil, Nat.add_zero]
  have e5 : List.replicate (248 - (2 * (xs.length + ys.length + 1) + (sizC xs + (b.length + sizC ys)))) (0 : UInt8) = List.replicate (244 - (2 * (xs.length + (ys.length + 1)) + (sizC xs + (b.length + sizC ys)))) 0 ++ [0, 0, 0, 0] := by
    rw [show [(0 : UInt8), 0, 0, 0] = List.replicate 4 0 from rfl, List.replicate_append_replicate]
    congr 1; omega
  rw [e5, show sizC xs + sizC ys + b.length = sizC xs + (b.length + sizC ys) by omega, show xs.length + ys.length + 1 = xs.length + (ys.length + 1) by omega]
  simp
theorem ins_facts {no : Nat} {k : UInt8} {xs ys : List (List UInt8)} (b : List UInt8) (hfit : fitC (xs ++ b :: ys)) (M : List UInt8) (hM : M = (insH no k xs ys ++ endsB 0 xs) ++ (endsB (sizC xs) ([] :: ys) ++ insR xs ys b)) :
    M.length = 256 ∧ (at8 M 5).toNat = xs.length + ys.length + 1 ∧ wordB M 6 = sizC xs + sizC ys ∧ (∀ j : Nat, xs.length ≤ j → j < xs.length + ys.length + 1 → endB M (j : Int) ≤ 244) := by
  unfold fitC at hfit
  simp only [List.length_append, sizC_append, List.length_cons, sizC_cons] at hfit
  refine ⟨?_, ?_, ?_, ?_⟩
  · rw [hM]; unfold insR
    simp only [List.length_append, insH_length, endsB_length, List.length_cons, sizC_flatten, List.length_replicate]
    omega
  · rw [hM]; unfold insH
    have := at8_append_right (fixB no 4) ((k :: UInt8.ofNat (xs.length + ys.length + 1) :: w2 (sizC xs + sizC ys)) ++ (endsB 0 xs ++ (endsB (sizC xs) ([] :: ys) ++ insR xs ys b))) 1
    rw [fixB_length] at this
    simp only [List.append_assoc] at this ⊢
    rw [this]
    show (UInt8.ofNat (xs.length + ys.length + 1)).toNat = _
    rw [u8_ofNat]; omega
  · rw [hM]; unfold insH
    rw [show fixB no 4 ++ (k :: UInt8.ofNat (xs.length + ys.length + 1) :: w2 (sizC xs + sizC ys)) ++ endsB 0 xs ++ (endsB (sizC xs) ([] :: ys) ++ insR xs ys b) = (fixB no 4 ++ [k, UInt8.ofNat (xs.length + ys.length + 1)]) ++ (w2 (sizC xs + sizC ys) ++ (endsB 0 xs ++ (endsB (sizC xs) ([] :: ys) ++ insR xs ys b))) by simp]
    exact wordB_mid _ _ _ (by omega) _ (by rw [List.length_append, fixB_length]; rfl)
  · intro j h1 h2
    have hzs : ([] :: ys : List (List UInt8)) = ([] :: ys).take (j - xs.length) ++ (([] :: ys : List (List UInt8)).getD (j - xs.length) [] :: ([] :: ys).drop (j - xs.length + 1)) := by
      have hlt : j - xs.length < ([] :: ys : List (List UInt8)).length := by rw [List.length_cons]; omega
      rw [List.getD_eq_getElem?_getD, List.getElem?_eq_getElem hlt, Option.getD_some, ← List.drop_eq_getElem_cons hlt, List.take_append_drop]
    have hsum := congrArg sizC hzs
    rw [sizC_append, sizC_cons, sizC_cons, List.length_nil] at hsum
    have hlt : (([] :: ys : List (List UInt8)).take (j - xs.length)).length = j - xs.length := by rw [List.length_take, List.length_cons]; omega
    have hlen : (xs ++ ([] :: ys : List (List UInt8)).take (j - xs.length)).length = j := by rw [List.length_append, hlt]; omega
    have h3 := end_mid (insH no k xs ys) (insH_length _ _ _ _) 0 (xs ++ ([] :: ys).take (j - xs.length)) (([] :: ys : List (List UInt8)).getD (j - xs.length) []) (([] :: ys).drop (j - xs.length + 1)) (insR xs ys b) (by rw [sizC_append]; omega)
    rw [hlen, List.append_assoc xs, ← hzs, endsB_append, Nat.zero_add] at h3
    rw [hM]
    have e : insH no k xs ys ++ endsB 0 xs ++ (endsB (sizC xs) ([] :: ys) ++ insR xs ys b) = insH no k xs ys ++ (endsB 0 xs ++ endsB (sizC xs) ([] :: ys) ++ insR xs ys b) := by simp
    rw [e, h3, sizC_append]
    omega
end Go.Proofs.YtibmlgkakeakcaaDoor
/- Pages: the walk of page.Insert, for cells that fit. -/
set_option linter.unusedSimpArgs false
set_option linter.unusedVariables false
namespace Go.Proofs.YtibmlgkakeakcaaDoor
open Go.RowKit Go.Proofs.YtibmlgkakeakcaaDoor.Crc
/-- What stands while a page is made of another one: the page that is read, the cell, the new page's bytes. -/
def InsI (w0 : World) (A Ab : Option Addr) (l b : List UInt8) (r : Nat) (cur : List UInt8) (w : World) : Prop :=
  Bytes w A l ∧ Bytes w Ab b ∧ BlkB w r 5 cur ∧ Below w0.heap.size w0 w ∧ w0.heap.size ≤ r ∧ Bytes w0 A l ∧ Bytes w0 Ab b
theorem InsI.drewN {w0 : World} {A Ab : Option Addr} {l b cur : List UInt8} {r : Nat} {w : World} (h : InsI w0 A Ab l b r cur w) (m : Nat) : InsI w0 A Ab l b r cur (w.drewN m) :=
  ⟨h.1.below (kept_drewN w m), h.2.1.below (kept_drewN w m), h.2.2.1.below (kept_drewN w m), h.2.2.2.1.trans ((kept_drewN w m).mono h.2.2.2.1.size), h.2.2.2.2⟩
theorem InsI.next {w0 : World} {A Ab : Option Addr} {l b cur cur' : List UInt8} {r : Nat} {w w' : World} (h : InsI w0 A Ab l b r cur w) (hb : BlkB w' r 5 cur') (hk : Kept (· = r) w w') : InsI w0 A Ab l b r cur' w' := by
  have hB : Below w0.heap.size w0 w' := h.2.2.2.1.trans (hk.below h.2.2.2.1.size (fun k hk e => by have := h.2.2.2.2.1; omega))
  exact ⟨h.2.2.2.2.2.1.below hB, h.2.2.2.2.2.2.below hB, hb, hB, h.2.2.2.2⟩
theorem Bytes.lt {w : World} {A : Option Addr} {l : List UInt8} (h : Bytes w A l) (hl : 0 < l.length) : ∀ ad, A = some ad → ad.block < w.heap.size := fun ad e => by
  obtain ⟨ad', e', hx⟩ := h 0 hl
  rw [e] at e'; cases e'
  have := World.block_lt_of_cell? w _ hx
  rwa [add_block] at this
section
variable {ops : Array Oper} {rest : List Oper} {o : Oper} {a : Act} {Q : Exit → Act → World → Prop} {w : World}
/-- copy of bytes into the page that is made. -/
theorem wpList_copyI (hg : o.guard = none) (d s : Operand) (ho : o.op = .call { callee := .builtin .copy, args := #[d, s], argTypes := #[30, 30] })
    (r off dLen dCap : Nat) (sp : Option Addr) (sLen sCap : Nat) (hd : a.eval d = .slice (some ⟨r, off, none⟩) dLen dCap) (hs : a.eval s = .slice sp sLen sCap)
    {w0 : World} {A Ab : Option Addr} {l b cur : List UInt8} (hI : Hid (InsI w0 A Ab l b r cur w)) (src : List UInt8) (hl : sLen = src.length) (hsrc : Bytes w sp src) (hle : src.length ≤ dLen) (hfit : off + src.length ≤ cur.length)
    (h : ∀ z w', Hid (InsI w0 A Ab l b r (splice cur off src) w') → wpList Tryd.prog ops Q rest (a.put o.dst z) w') : wpList Tryd.prog ops Q (o :: rest) a w := by
  refine wpList_copyB hg d s ho r off dLen dCap sp sLen sCap hd hs _ cur src hI.out.2.2.1 hl hsrc (by rw [show Nat.min dLen src.length = src.length from Nat.min_eq_right hle]; exact hfit) ?_
  intro w' hA hk
  rw [List.take_of_length_le hle] at hA
  exact h _ w' (hI.out.next hA hk)
end
/-- The same, as one step of a region. -/
theorem step_copyI {ops : Array Oper} {o : Oper} {a : Act} {w : World} {K : Act → World → Prop} {Q : Exit → Act → World → Prop} {E : Prop} (hg : o.guard = none) (d s : Operand) (ho : o.op = .call { callee := .builtin .copy, args := #[d, s], argTypes := #[30, 30] })
    (r off dLen dCap : Nat) (sp : Option Addr) (sLen sCap : Nat) (hd : a.eval d = .slice (some ⟨r, off, none⟩) dLen dCap) (hs : a.eval s = .slice sp sLen sCap)
    {w0 : World} {A Ab : Option Addr} {l b cur : List UInt8} (hI : Hid (InsI w0 A Ab l b r cur w)) (src : List UInt8) (hl : sLen = src.length) (hsrc : Bytes w sp src) (hle : src.length ≤ dLen) (hfit : off + src.length ≤ cur.length)
    (h : ∀ z w', Hid (InsI w0 A Ab l b r (splice cur off src) w') → K (a.put o.dst z) w') : if Region.wanted o (yielded ops a.tmps) = true then Oper.wp Tryd.prog o a w K Q else E := by
  refine step_copyB hg d s ho r off dLen dCap sp sLen sCap hd hs _ cur src hI.out.2.2.1 hl hsrc (by rw [show Nat.min dLen src.length = src.length from Nat.min_eq_right hle]; exact hfit) ?_
  intro w' hA
  rw [List.take_of_length_le hle] at hA
  exact h _ w' (hI.out.next hA.out.1 hA.out.2)
set_option maxRecDepth 100000 in
set_option maxHeartbeats 1000000 in
theorem Insert_calls (A : Option Addr) (c : Nat) (l : List UInt8) (no : Nat) (k : UInt8) (xs ys : List (List UInt8)) (Ab : Option Addr) (m cb : Nat) (b : List UInt8) (w : World)
    (hb : Bytes w A l) (hP : PgL l no k (xs ++ ys)) (hno : no ≤ 2147483647) (hk : k ≠ 0) (hc : 256 ≤ c) (hcm : c ≤ 9223372036854775807)
    (hm : m = b.length) (hbb : Bytes w Ab b) (hfit : fitC (xs ++ b :: ys)) :
    Calls Tryd.prog 65 #[.slice A 256 c, .int .i64 (xs.length : Int), .slice Ab m cb] w fun e w' => ∃ r, e = .returned (.tuple #[.slice (some ⟨r, 0, none⟩) 256 256, .int .i64 0]) ∧ w.heap.size ≤ r ∧ BlkB w' r 5 (pageB no k (xs ++ b :: ys)) ∧ Below w.heap.size w w' := by
  have hS := hP.sound hno hk
  have hl := hP.len
  obtain ⟨bk, o, rfl⟩ := hb.spot (by omega)
  have hN : cntB l = xs.length + ys.length := by rw [hP.count, List.length_append]
  have hW : endB l ((xs.length : Int) - 1) = sizC xs := by rw [hP.endAt _ (by simp), List.take_left' rfl]
  have hsz : sizB l = sizC xs + sizC ys := by rw [hP.size, sizC_append]
  have hmid := ins_mid hP b hfit
  have hres := ins_page hP b hfit
  obtain ⟨mf1, mf2, mf3, mf4⟩ := ins_facts b hfit _ hmid
  have hfit' := hfit
  unfold fitC at hfit'
  simp only [List.length_append, sizC_append, List.length_cons, sizC_cons] at hfit'
  have hleft : leftP l = 244 - (2 * (xs.length + ys.length) + (sizC xs + sizC ys)) := by unfold leftP; rw [hN, hsz]
  -- the callees
  have HS := sound_calls (some ⟨bk, o, none⟩) 256 c l w hl.symm hb hc hcm (by decide)
  rw [hS] at HS
  have hLe := fun n => left_calls (some ⟨bk, o, none⟩) 256 c l (w.drewN n) hl.symm (hb.below (kept_drewN w n)) hS
  rw [hleft] at hLe
  have hOw := fun n => own_calls (some ⟨bk, o, none⟩) 256 c l (w.drewN n) hl.symm (hb.below (kept_drewN w n)) (by decide) hc hcm
  obtain ⟨i, hi⟩ : ∃ i, xs.length = i := ⟨_, rfl⟩
  obtain ⟨N, hNN⟩ : ∃ N, xs.length + ys.length = N := ⟨_, rfl⟩
  obtain ⟨W, hWW⟩ : ∃ W, sizC xs = W := ⟨_, rfl⟩
  obtain ⟨S, hSS⟩ : ∃ S, sizC xs + sizC ys = S := ⟨_, rfl⟩
  have hiN : i ≤ N := by omega
  have hWS : W ≤ S := by omega
  have hrm : 2 * N + S + 2 + m ≤ 244 := by omega
  rw [hNN] at hN mf2 hleft hLe
  rw [hNN] at mf4
  rw [hSS] at hsz mf3 hleft hLe
  rw [hWW] at hW
  rw [hi] at hW hmid hres mf1 mf2 mf3 mf4 ⊢
  have HN : Hid (cntB l = N) := hN
  have HSz : Hid (sizB l = S) := hsz
  have HW : Hid (endB l ((i : Int) - 1) = W) := hW
  have x5 : (w.cell? ⟨bk, o + 5, none⟩) = some (.int .u8 (N : Int)) := by
    obtain ⟨ad, h, hx⟩ := hb 5 (by omega)
    cases h
    rw [Addr.add_lit] at hx
    rw [← hN]; exact hx
  have hd : ∀ n, (w.drewN n).cell? ⟨bk, o + 5, none⟩ = some (.int .u8 (N : Int)) := fun n => (kept_drewN w n).cell (World.block_lt_of_cell? w _ x5) ▸ x5
  have HD := Lib.hid hd
  have d1 : decide ((i : Int) < 0) = false := by simp
  have d2 : decide ((i : Int) > (N : Int)) = false := by simp; omega
  have d3 : decide ((m : Int) > ((244 - (2 * N + S) : Nat) : Int) - 2) = false := by simp; omega
  have f1 : IntKind.i64.wrap (N : Int) = (N : Int) := IntWalk.i64_in _ (by omega)
  have hl2 : (256 : Nat) = l.length := hl.symm
  have HL := Lib.hid hl
  have HM := Lib.hid hmid
  have HR := Lib.hid hres
  have HMF := Lib.hid (And.intro mf1 (And.intro mf2 (And.intro mf3 mf4)))
  have HB := Lib.hid hb
  have HBB := Lib.hid hbb
  have HHS := Lib.hid HS
  have HLe := Lib.hid hLe
  have HOw := Lib.hid hOw
  have Hm := Lib.hid hm
  have HP := Lib.hid hP
  clear HS hLe hOw hN hsz hW hNN hWW hSS hmid hres mf1 mf2 mf3 mf4 hb hbb hm hP hS hl hl2 hd x5 hleft hfit hfit' hi
  go_enter Tryd.func65, Tryd.ntmps65
  go_wp2_with (go_at_call 73; refine HHS.out.mono ?_; rintro e w2 ⟨rfl, m2, rfl⟩; refine park ?_; intro q hq)
  have x5 := HD.out m2
  refine hq.out ?_
  clear hq
  go_wp2_with (go_at_call 87; refine (HLe.out _).mono ?_; rintro e w3 ⟨rfl, m3, rfl⟩; rw [World.drewN_drewN]; refine park ?_; intro q hq)
  refine hq.out ?_
  clear hq
  go_wp2_with (go_at_call 88; refine (HOw.out _).mono ?_; rintro e w4 ⟨r, rfl, hr4, hA4, hb4⟩; refine park ?_; intro q hq)
  have hI4 : InsI w (some ⟨bk, o, none⟩) Ab l b r (ownP l) w4 :=
    ⟨(HB.out.below (kept_drewN w _)).below hb4, (HBB.out.below (kept_drewN w _)).below hb4, hA4, (kept_drewN w _).trans (hb4.mono (kept_drewN w _).size), Nat.le_trans (kept_drewN w _).size hr4, HB.out, HBB.out⟩
  have HI4 := Lib.hid hI4
  have HCe := Lib.hid (fun (w' : World) (h : Bytes w' (some ⟨bk, o, none⟩) l) => cellsAt_calls (some ⟨bk, o, none⟩) 256 c l w' HL.out.symm h (by decide) (by decide))
  have HEn := Lib.hid (fun (w' : World) (h : Bytes w' (some ⟨bk, o, none⟩) l) => end_calls (some ⟨bk, o, none⟩) 256 c l ((i : Int) - 1) w' HL.out.symm h (by omega) (by omega) (by decide))
  clear hr4 hA4 hb4 hI4 HLe HOw HHS HD x5 d1 d2 d3 
  refine hq.out ?_
  clear hq
  go_wp2_with (go_at_call 89; refine (HCe.out _ HI4.out.1).mono ?_; rintro e w5 ⟨rfl, rfl⟩; refine park ?_; intro q hq)
  refine hq.out ?_
  clear hq
  rw [show ((at8 l 5).toNat : Int) = (N : Int) by rw [← HN.out]; rfl]
  go_wp2_with (go_at_call 90; refine (HEn.out _ HI4.out.1).mono ?_; rintro e w5 ⟨rfl, m5, rfl⟩; refine park ?_; intro q hq)
  refine hq.out ?_
  clear hq
  rw [HW.out]
  have HI5 := Lib.hid (HI4.out.drewN m5)
  obtain ⟨w5, hw5⟩ : ∃ w5, w4.drewN m5 = w5 := ⟨_, rfl⟩
  rw [hw5] at HI5 ⊢
  clear hw5 HI4 HEn HCe
  have h5 : at8 l 5 = at8 (ownP l) 5 := by unfold ownP; rw [at8_append_left _ _ _ (by rw [List.length_take, HL.out]; decide), at8_take _ _ _ (by decide)]
  have hol : (ownP l).length = 256 := ownP_len l (by rw [HL.out]; decide)
  obtain ⟨x5, y5⟩ := HI5.out.2.2.1.cell 5 (by rw [hol]; decide)
  have e5 : (at8 l 5).toNat = N := HN.out
  rw [← h5, e5] at x5
  have e5b : ((at8 l 5 + 1).toNat : Int) = (N : Int) + 1 := by rw [UInt8.toNat_add, e5]; simp; omega
  have hI6 := HI5.out.next (HI5.out.2.2.1.set 5 (at8 l 5 + 1)) (Kept.set1 w5 r 5 _)
  rw [e5b] at hI6
  have HI6 := Lib.hid hI6
  clear h5 hol e5 e5b hI6 f1
  have g1 : ((N : Int) + 1) % 256 = (N : Int) + 1 := by omega
  have k1 : IntKind.i64.wrap (2 * (i : Int)) = 2 * (i : Int) := IntWalk.i64_in _ (by omega)
  have k2 : IntKind.i64.wrap (8 + 2 * (i : Int)) = 8 + 2 * (i : Int) := IntWalk.i64_in _ (by omega)
  have k3 : IntKind.i64.wrap (8 + 2 * (i : Int) + 2) = 8 + 2 * (i : Int) + 2 := IntWalk.i64_in _ (by omega)
  have k4 : (8 + 2 * (i : Int) + 2).toNat = 8 + 2 * i + 2 := by omega
  have k5 : (8 + 2 * (i : Int)).toNat = 8 + 2 * i := by omega
  have k6 : (8 + 2 * (N : Int)).toNat = 8 + 2 * N := by omega
  have k7 : 8 + 2 * (i : Int) + 2 ≤ 256 := by omega
  have k8 : 8 + 2 * (N : Int) ≤ (c : Int) := by omega
  have k9 : 8 + 2 * (i : Int) ≤ 8 + 2 * (N : Int) := by omega
  have k10 : ¬ c = 8 + 2 * i := by omega
  have k12 : 0 ≤ 8 + 2 * (i : Int) + 2 := by omega
  have k13 : 0 ≤ 8 + 2 * (i : Int) := by omega
  have k14 : 0 ≤ 8 + 2 * (N : Int) := by omega
  have k11 : ¬ 256 = 8 + 2 * i + 2 := by omega
  go_wp2_with fail
  go_still_tail 12, (by kernel_rfl)
  have HI7 := Lib.hid (HI6.out.drewN 1)
  change wpList _ _ _ _ _ ((w5.setCell ⟨r, 5, none⟩ (.int .u8 ((N : Int) + 1))).drewN 1)
  obtain ⟨w6, hw6⟩ : ∃ w6, (w5.setCell ⟨r, 5, none⟩ (.int .u8 ((N : Int) + 1))).drewN 1 = w6 := ⟨_, rfl⟩
  rw [hw6] at HI7 ⊢
  clear hw6 HI6 x5 y5 HI5 
  obtain ⟨c1, hc1⟩ : ∃ c1, (ownP l).set 5 (at8 l 5 + 1) = c1 := ⟨_, rfl⟩
  have hcl : c1.length = 256 := by rw [← hc1, List.length_set]; exact ownP_len l (by rw [HL.out]; decide)
  rw [hc1] at HI7
  have HC1 := Lib.hid hc1
  have t1 : ((l.drop (8 + 2 * i)).take (8 + 2 * N - (8 + 2 * i))).length = 8 + 2 * N - (8 + 2 * i) := by rw [List.length_take, List.length_drop, HL.out]; omega
  refine wpList_copyI rfl _ _ rfl r _ _ _ _ _ _ rfl rfl HI7 ((l.drop (8 + 2 * i)).take (8 + 2 * N - (8 + 2 * i))) (by rw [t1]) ((HI7.out.1.drop (8 + 2 * i)).take _) (by rw [t1]; omega) (by rw [t1, hcl]; omega) ?_
  intro z7 w7 HI8
  obtain ⟨c2, hc2⟩ : ∃ c2, splice c1 (8 + 2 * i + 2) ((l.drop (8 + 2 * i)).take (8 + 2 * N - (8 + 2 * i))) = c2 := ⟨_, rfl⟩
  have hcl2 : c2.length = 256 := by rw [← hc2, length_splice _ _ _ (by rw [t1, hcl]; omega)]; exact hcl
  rw [hc2] at HI8
  have HC2 := Lib.hid hc2
  have hs := fun (w' : World) (h : BlkB w' r 5 c2) => setWord_calls r c2 (8 + 2 * i) W w' h hcl2 (by omega) (by omega)
  rw [show ((8 + 2 * i : Nat) : Int) = 8 + 2 * (i : Int) by omega] at hs
  have HSw := Lib.hid hs
  clear hc1 hcl t1 hc2 hs HI7
  go_wp2_with (go_at_call 91; refine (HSw.out _ HI8.out.2.2.1).mono ?_; rintro e w8 ⟨rfl, hA8, hk8⟩; refine park ?_; intro q hq)
  have HI9 := Lib.hid (HI8.out.next hA8 hk8)
  obtain ⟨c3, hc3⟩ : ∃ c3, setW c2 (8 + 2 * i) W = c3 := ⟨_, rfl⟩
  have hcl3 : c3.length = 256 := by rw [← hc3, setW_len]; exact hcl2
  rw [hc3] at HI9
  have HC3 := Lib.hid hc3
  clear hc3 hcl2 HSw hA8 hk8 HI8
  refine hq.out ?_
  clear hq k1 k2 k3 k4 k5 k6 k7 k8 k9 k10 k11 k12 k13 k14
  have k1 : IntKind.i64.wrap (8 + 2 * (N : Int) + 2) = 8 + 2 * (N : Int) + 2 := IntWalk.i64_in _ (by omega)
  have k2 : IntKind.i64.wrap (8 + 2 * (N : Int) + (W : Int)) = 8 + 2 * (N : Int) + (W : Int) := IntWalk.i64_in _ (by omega)
  have k3 : (8 + 2 * (N : Int) + 2).toNat = 8 + 2 * N + 2 := by omega
  have k4 : (8 + 2 * (N : Int) + (W : Int)).toNat = 8 + 2 * N + W := by omega
  have k5 : (8 + 2 * (N : Int)).toNat = 8 + 2 * N := by omega
  have k6 : 8 + 2 * (N : Int) + 2 ≤ 256 := by omega
  have k7 : 8 + 2 * (N : Int) + (W : Int) ≤ (c : Int) := by omega
  have k8 : 0 ≤ 8 + 2 * (N : Int) + (W : Int) := by omega
  have k9 : 0 ≤ 8 + 2 * (N : Int) + 2 := by omega
  have k10 : 0 ≤ 8 + 2 * (N : Int) := by omega
  have k11 : ¬ c = 8 + 2 * N := by omega
  have k12 : ¬ 256 = 8 + 2 * N + 2 := by omega
  have k13 : 8 + 2 * (N : Int) ≤ 8 + 2 * (N : Int) + (W : Int) := by omega
  go_wp2_with fail
  go_still_tail 10, (by kernel_rfl)
  have t1 : ((l.drop (8 + 2 * N)).take W).length = W := by rw [List.length_take, List.length_drop, HL.out]; omega
  have HI10 := Lib.hid (HI9.out.drewN 1)
  change wpList _ _ _ _ _ (w8.drewN 1)
  obtain ⟨w9, hw9⟩ : ∃ w9, w8.drewN 1 = w9 := ⟨_, rfl⟩
  rw [hw9] at HI10 ⊢
  clear hw9 HI9
  refine wpList_copyI rfl _ _ rfl r _ _ _ _ _ _ rfl rfl HI10 ((l.drop (8 + 2 * N)).take W) (by rw [t1]) ((HI10.out.1.drop (8 + 2 * N)).take _) (by rw [t1]; omega) (by rw [t1, hcl3]; omega) ?_
  intro z10 w10 HI11
  obtain ⟨c4, hc4⟩ : ∃ c4, splice c3 (8 + 2 * N + 2) ((l.drop (8 + 2 * N)).take W) = c4 := ⟨_, rfl⟩
  have hcl4 : c4.length = 256 := by rw [← hc4, length_splice _ _ _ (by rw [t1, hcl3]; omega)]; exact hcl3
  rw [hc4] at HI11
  have HC4 := Lib.hid hc4
  clear hc4 t1 HI10 hcl3
  clear k2 k4 k7 k8 k13
  have k2 : IntKind.i64.wrap (8 + 2 * (N : Int) + 2 + (W : Int)) = 8 + 2 * (N : Int) + 2 + (W : Int) := IntWalk.i64_in _ (by omega)
  have k4 : (8 + 2 * (N : Int) + 2 + (W : Int)).toNat = 8 + 2 * N + 2 + W := by omega
  have k7 : 8 + 2 * (N : Int) + 2 + (W : Int) ≤ 256 := by omega
  have k8 : 0 ≤ 8 + 2 * (N : Int) + 2 + (W : Int) := by omega
  have k13 : ¬ 256 = 8 + 2 * N + 2 + W := by omega
  go_wp2_with (with_reducible refine park_copy ?_; intro q hq)
  refine hq.out ?_
  clear hq
  refine wpList_copyI rfl _ _ rfl r _ _ _ _ _ _ rfl rfl HI11 b Hm.out HI11.out.2.1 (by rw [← Hm.out]; omega) (by rw [← Hm.out, hcl4]; omega) ?_
  intro z11 w11 HI12
  obtain ⟨c5, hc5⟩ : ∃ c5, splice c4 (8 + 2 * N + 2 + W) b = c5 := ⟨_, rfl⟩
  have hcl5 : c5.length = 256 := by rw [← hc5, length_splice _ _ _ (by rw [← Hm.out, hcl4]; omega)]; exact hcl4
  rw [hc5] at HI12
  have HC5 := Lib.hid hc5
  clear hc5 HI11 hcl4
  clear k1 k3 k5 k6 k9 k10 k11 k12
  have hwd := fun (w' : World) (h : Bytes w' (some ⟨bk, o, none⟩) l) => word_calls (some ⟨bk, o, none⟩) 256 c l 6 w' HL.out.symm h (by decide) (by decide)
  rw [show wordB l 6 = S from HSz.out, show ((6 : Nat) : Int) = 6 from rfl] at hwd
  have HWd : Hid (∀ w', Hid (InsI w (some ⟨bk, o, none⟩) Ab l b r c5 w') → Calls Tryd.prog 92 #[.slice (some ⟨bk, o, none⟩) 256 c, .int .i64 6] w' fun e w'' => e = .returned (.int .i64 (S : Int)) ∧ Hid (InsI w (some ⟨bk, o, none⟩) Ab l b r c5 w'')) :=
    fun w' h => (hwd w' h.out.1).mono fun e w'' ⟨he, n, hn⟩ => ⟨he, by rw [hn]; exact h.out.drewN n⟩
  have HI13 : Hid (InsI w (some ⟨bk, o, none⟩) Ab l b r c5 w11.drew) := HI12.out.drewN 1
  have k1 : IntKind.i64.wrap (8 + 2 * (N : Int) + 2 + (W : Int) + (m : Int)) = 8 + 2 * (N : Int) + 2 + (W : Int) + (m : Int) := IntWalk.i64_in _ (by omega)
  have k3 : (8 + 2 * (N : Int) + 2 + (W : Int) + (m : Int)).toNat = 8 + 2 * N + 2 + W + m := by omega
  have k5 : 8 + 2 * (N : Int) + 2 + (W : Int) + (m : Int) ≤ 252 := by omega
  have k6 : 0 ≤ 8 + 2 * (N : Int) + 2 + (W : Int) + (m : Int) := by omega
  have k9 : IntKind.i64.wrap (8 + 2 * (N : Int) + (W : Int)) = 8 + 2 * (N : Int) + (W : Int) := IntWalk.i64_in _ (by omega)
  have k10 : IntKind.i64.wrap (8 + 2 * (N : Int) + (S : Int)) = 8 + 2 * (N : Int) + (S : Int) := IntWalk.i64_in _ (by omega)
  have k11 : (8 + 2 * (N : Int) + (W : Int)).toNat = 8 + 2 * N + W := by omega
  have k12 : (8 + 2 * (N : Int) + (S : Int)).toNat = 8 + 2 * N + S := by omega
  have k14 : 0 ≤ 8 + 2 * (N : Int) + (W : Int) := by omega
  have k15 : 8 + 2 * (N : Int) + (W : Int) ≤ 8 + 2 * (N : Int) + (S : Int) := by omega
  have k16 : 8 + 2 * (N : Int) + (S : Int) ≤ (c : Int) := by omega
  have k17 : ¬ c = 8 + 2 * N + W := by omega
  have k18 : ¬ 256 = 8 + 2 * N + 2 + W + m := by omega
  have k19 : IntKind.i64.wrap (8 + 2 * (N : Int) + 2) = 8 + 2 * (N : Int) + 2 := IntWalk.i64_in _ (by omega)
  have k20 : 0 ≤ 8 + 2 * (N : Int) + (S : Int) := by omega
  have t1 : Hid (((l.drop (8 + 2 * N + W)).take (8 + 2 * N + S - (8 + 2 * N + W))).length = 8 + 2 * N + S - (8 + 2 * N + W)) := by show _ = _; rw [List.length_take, List.length_drop, HL.out]; omega
  obtain ⟨src, hsrc⟩ : ∃ src, (l.drop (8 + 2 * N + W)).take (8 + 2 * N + S - (8 + 2 * N + W)) = src := ⟨_, rfl⟩
  have HSrc : Hid (∀ w', Hid (InsI w (some ⟨bk, o, none⟩) Ab l b r c5 w') → Bytes w' (some ⟨bk, o + (8 + 2 * N + W), none⟩) src) := fun w' h => by rw [← hsrc]; exact (h.out.1.drop _).take _
  rw [hsrc] at t1
  have T2 : Hid (src.length ≤ 252 - (8 + 2 * N + 2 + W + m)) := by show _ ≤ _; rw [t1.out]; omega
  have T3 : Hid (8 + 2 * N + 2 + W + m + src.length ≤ c5.length) := by show _ ≤ _; rw [t1.out, hcl5]; omega
  obtain ⟨c6, hc6⟩ : ∃ c6, splice c5 (8 + 2 * N + 2 + W + m) src = c6 := ⟨_, rfl⟩
  have HC6 := Lib.hid hc6
  have HSc := Lib.hid hsrc
  clear hwd hcl5 HI12 hc6 hsrc
  go_wp2_with fail
  go_region_law (first | (refine step_copyI (by rfl) _ _ (by rfl) r _ _ _ _ _ _ (by rfl) (by rfl) (by assumption) src t1.out.symm (HSrc.out _ (by assumption)) T2.out T3.out ?_; rw [HC6.out]; intro z15 w15 HI15) | (go_simp; go_at_call 92; (with_reducible refine (HWd.out _ (by assumption)).mono ?_); rintro e w' ⟨rfl, HI14⟩))
  all_goals
    have h6 : c6 = insS l i b := by
      have n1 : cntB l = N := HN.out
      have n2 : sizB l = S := HSz.out
      have n3 : endB l ((i : Int) - 1) = W := HW.out
      unfold insS
      rw [n1, n2, n3, HC1.out, HC2.out, HC3.out, HC4.out, HC5.out, ← Hm.out, show S - W = 8 + 2 * N + S - (8 + 2 * N + W) by omega, HSc.out]
      exact HC6.out.symm
    have hq := HMF.out
    rw [← h6] at hq
    obtain ⟨q1, q2, q3, q4⟩ := hq
    have hsh := fun (w' : World) (h : BlkB w' r 5 c6) => shift_calls r c6 i (N + 1) (m : Int) w' h q1 q2 (by omega) (by omega) (fun j h1 h2 => by have := q4 j h1 h2; omega) (by rw [q3]; omega)
    have hfin : setW (shiftB c6 i (m : Int) (N + 1 - i)) 6 ((wordB c6 6 : Int) + (m : Int)).toNat = pageB no k (xs ++ b :: ys) := by
      rw [← HR.out]
      have n1 : cntB l = N := HN.out
      have n2 : sizB l = S := HSz.out
      unfold insB
      rw [n1, n2, ← h6, q3, Hm.out]
      congr 1
    rw [hfin] at hsh
    have HSh := Lib.hid hsh
    clear q1 q2 q3 q4 hsh hfin h6 k1 k2 k3 k4 k5 k6 k7 k8 k9 k10 k11 k12 k13 k14 k15 k16 k17 k18 k19 k20
    go_wp2_with (go_at_call 93; refine (HSh.out _ HI15.out.2.2.1).mono ?_; rintro e w16 ⟨rfl, hA16, hk16⟩)
    go_ret2
    have hI := HI15.out.next hA16 hk16
    exact ⟨r, rfl, hI.2.2.2.2.1, hI.2.2.1, hI.2.2.2.1⟩
end Go.Proofs.YtibmlgkakeakcaaDoor
/- Pages: the walks of Insert and New where they refuse, Seal, Open. -/
set_option linter.unusedSimpArgs false
set_option linter.unusedVariables false
namespace Go.Proofs.YtibmlgkakeakcaaDoor
open Go.RowKit Go.Proofs.YtibmlgkakeakcaaDoor.Crc
theorem OwnB.of_blk {w : World} {base r : Nat} {l : List UInt8} (h : BlkB w r 5 l) (hl : l.length = 256) (hb : base ≤ r) : OwnB w base (.slice (some ⟨r, 0, none⟩) 256 256) l := by
  unfold OwnB World.ownsRow
  rw [hl]
  refine ⟨by rw [cells8_length, hl], .inr ⟨r, 256, (cells8 l).toArray, rfl, hb, h, Nat.le_refl _, by unfold maxLen; decide, by simp [cells8_length, hl], ?_⟩⟩
  rw [Nat.mul_one]
  exact List.take_of_length_le (by simp [cells8_length, hl])
set_option maxRecDepth 100000 in
set_option maxHeartbeats 400000 in
theorem Insert_room (A : Option Addr) (c : Nat) (l : List UInt8) (no : Nat) (k : UInt8) (cs : List (List UInt8)) (i : Nat) (Ab : Option Addr) (m cb : Nat) (w : World)
    (hb : Bytes w A l) (hP : PgL l no k cs) (hno : no ≤ 2147483647) (hk : k ≠ 0) (hc : 256 ≤ c) (hcm : c ≤ 9223372036854775807) (hi : i ≤ cs.length) (hm : m ≤ 9223372036854775807) (hfit : 244 < 2 * cs.length + sizC cs + 2 + m) :
    Calls Tryd.prog 65 #[.slice A 256 c, .int .i64 (i : Int), .slice Ab m cb] w fun e w' => e = .returned (.tuple #[.slice none 0 0, .int .i64 32]) ∧ Below w.heap.size w w' := by
  have hS := hP.sound hno hk
  have hl := hP.len
  obtain ⟨bk, o, rfl⟩ := hb.spot (by omega)
  have hN : cntB l = cs.length := hP.count
  have hsz : sizB l = sizC cs := hP.size
  have hleft : leftP l = 244 - (2 * cs.length + sizC cs) := by unfold leftP; rw [hN, hsz]
  have HS := sound_calls (some ⟨bk, o, none⟩) 256 c l w hl.symm hb hc hcm (by decide)
  rw [hS] at HS
  have hLe := fun n => left_calls (some ⟨bk, o, none⟩) 256 c l (w.drewN n) hl.symm (hb.below (kept_drewN w n)) hS
  rw [hleft] at hLe
  have hf2 : 2 * cs.length + sizC cs ≤ 244 := hP.1
  obtain ⟨N, hNN⟩ : ∃ N, cs.length = N := ⟨_, rfl⟩
  obtain ⟨S, hSS⟩ : ∃ S, sizC cs = S := ⟨_, rfl⟩
  rw [hNN] at hN hLe hfit hi hf2
  rw [hSS] at hLe hfit hf2
  have x5 : (w.cell? ⟨bk, o + 5, none⟩) = some (.int .u8 (N : Int)) := by
    obtain ⟨ad, h, hx⟩ := hb 5 (by omega)
    cases h
    rw [Addr.add_lit] at hx
    rw [← hN]; exact hx
  have HD := Lib.hid (fun n => (kept_drewN w n).cell (World.block_lt_of_cell? w _ x5) ▸ x5 : ∀ n, (w.drewN n).cell? ⟨bk, o + 5, none⟩ = some (.int .u8 (N : Int)))
  have d1 : decide ((i : Int) < 0) = false := by simp
  have d2 : decide (N < i) = false := by simp; omega
  obtain ⟨L, hL⟩ : ∃ L, 244 - (2 * N + S) = L := ⟨_, rfl⟩
  rw [hL] at hLe
  have hL2 : L ≤ 244 := by omega
  have d3 : decide ((m : Int) > (L : Int) - 2) = true := by simp; omega
  have f1 : IntKind.i64.wrap (N : Int) = (N : Int) := IntWalk.i64_in _ (by omega)
  have HHS := Lib.hid HS
  have HLe := Lib.hid hLe
  clear HS hLe hN hsz hNN hSS hb hP hS hl x5 hleft hL
  go_enter Tryd.func65, Tryd.ntmps65
  go_wp2_with (go_at_call 73; refine HHS.out.mono ?_; rintro e w2 ⟨rfl, m2, rfl⟩; refine park ?_; intro q hq)
  have x5 := HD.out m2
  refine hq.out ?_
  clear hq
  go_wp2_with (go_at_call 87; refine (HLe.out _).mono ?_; rintro e w3 ⟨rfl, m3, rfl⟩; rw [World.drewN_drewN]; refine park ?_; intro q hq)
  refine hq.out ?_
  clear hq x5
  go_wp2_with fail
  go_ret2
  exact ⟨rfl, kept_drewN _ _⟩
theorem newP_bad (no : Int) (k : UInt8) (h : no < 0 ∨ 2147483647 < no ∨ k = 0) : newP no k = ([], 2) := by unfold newP; rw [if_pos h]
set_option maxHeartbeats 400000 in
theorem New_bad (no : Int) (k : UInt8) (w : World) (h : no < 0 ∨ 2147483647 < no ∨ k = 0) :
    Calls Tryd.prog 64 #[.int .i64 no, .int .u8 (k.toNat : Int)] w fun e w' => e = .returned (.tuple #[.slice none 0 0, .int .i64 2]) ∧ w = w' := by
  by_cases h1 : no < 0
  · have d1 : decide (no < 0) = true := by simpa using h1
    clear h h1
    go_enter Tryd.func64, Tryd.ntmps64
    go_wp2_with fail
    go_ret2
    exact ⟨rfl, rfl⟩
  · have d1 : decide (no < 0) = false := by simpa using h1
    by_cases h2 : 2147483647 < no
    · have d2 : decide (no > 2147483647) = true := by simpa using h2
      clear h h1 h2
      go_enter Tryd.func64, Tryd.ntmps64
      go_wp2_with fail
      go_ret2
      exact ⟨rfl, rfl⟩
    · have d2 : decide (no > 2147483647) = false := by simpa using h2
      have h3 : k = 0 := by rcases h with h | h | h
                            · exact absurd h h1
                            · exact absurd h h2
                            · exact h
      subst h3
      clear h h1 h2
      go_enter Tryd.func64, Tryd.ntmps64
      go_wp2_with fail
      go_ret2
      exact ⟨rfl, rfl⟩
end Go.Proofs.YtibmlgkakeakcaaDoor
/- Pages: the walk of the laws' made. -/
set_option linter.unusedSimpArgs false
set_option linter.unusedVariables false
namespace Go.Proofs.YtibmlgkakeakcaaDoor
open Go.RowKit Go.Proofs.YtibmlgkakeakcaaDoor.Crc
/-- A slice of bytes that came in. -/
def SlB (w : World) (A : Option Addr) (n c : Nat) (l : List UInt8) : Prop := n = l.length ∧ Bytes w A l ∧ n ≤ c ∧ n ≤ 9223372036854775807 ∧ (A = none → c = 0)
theorem SlB.below {w w' : World} {A : Option Addr} {n c : Nat} {l : List UInt8} (h : SlB w A n c l) (hb : Below w.heap.size w w') : SlB w' A n c l := ⟨h.1, h.2.1.below hb, h.2.2⟩
/-- A slice of slices of bytes. -/
def RowsB (w : World) (A : Option Addr) (ls : List (List UInt8)) : Prop := ∀ (i : Nat) (h : i < ls.length), ∃ ad Ai ci, A = some ad ∧ w.cell? (ad.add i) = some (.slice Ai ls[i].length ci) ∧ SlB w Ai ls[i].length ci ls[i]
theorem RowsB.below {w w' : World} {A : Option Addr} {ls : List (List UInt8)} (h : RowsB w A ls) (hb : Below w.heap.size w w') : RowsB w' A ls := fun i hi => by
  obtain ⟨ad, Ai, ci, hA, hc, hs⟩ := h i hi
  exact ⟨ad, Ai, ci, hA, (hb.cell (World.block_lt_of_cell? w _ hc)).trans hc, hs.below hb⟩
theorem RowsB.spot {w : World} {A : Option Addr} {ls : List (List UInt8)} (h : RowsB w A ls) (hl : 0 < ls.length) : ∃ b o, A = some ⟨b, o, none⟩ := by
  obtain ⟨ad, Ai, ci, hA, hx, _⟩ := h 0 hl
  obtain ⟨b, o, s⟩ := ad
  refine ⟨b, o, ?_⟩
  rw [hA]
  cases s with
  | none => rfl
  | some s => simp [World.cell?, Addr.add] at hx; split at hx <;> simp at hx
theorem RowsB.at {w : World} {b o : Nat} {ls : List (List UInt8)} (h : RowsB w (some ⟨b, o, none⟩) ls) (i : Nat) (hi : i < ls.length) : ∃ Ai ci, w.cell? ⟨b, o + i, none⟩ = some (.slice Ai ls[i].length ci) ∧ SlB w Ai ls[i].length ci ls[i] := by
  obtain ⟨ad, Ai, ci, hA, hx, hs⟩ := h i hi
  cases hA
  rw [Addr.add_lit] at hx
  exact ⟨Ai, ci, hx, hs⟩
theorem fit_nil : fitC [] := by unfold fitC; decide
theorem newB_page (no : Nat) (k : UInt8) : newB no k = pageB no k [] := by
  have h : List.replicate 251 (0 : UInt8) = UInt8.ofNat 0 :: (w2 0 ++ (List.replicate 244 0 ++ [0, 0, 0, 0])) := by decide +kernel
  unfold newB pageB bodyB headPg
  rw [h, List.append_assoc, List.append_assoc]
  rfl
/-- The page after one more cell: the cell is put at the end, if it has room. -/
def addC (cs : List (List UInt8)) (b : List UInt8) : List (List UInt8) := if 2 * cs.length + sizC cs + 2 + b.length ≤ 244 then cs ++ [b] else cs
def madeC (ls : List (List UInt8)) : List (List UInt8) := (ls.take 100).foldl (fun cs b => addC cs (b.take 60)) []
theorem addC_fit (cs : List (List UInt8)) (b : List UInt8) (h : fitC cs) : fitC (addC cs b) := by
  unfold addC
  split
  · unfold fitC; rw [List.length_append, sizC_append, sizC_cons, sizC_nil, List.length_singleton]; omega
  · exact h
theorem madeC_step (ls : List (List UInt8)) (i : Nat) (h : i < ls.length) : (ls.take (i + 1)).foldl (fun cs b => addC cs (b.take 60)) [] = addC ((ls.take i).foldl (fun cs b => addC cs (b.take 60)) []) (ls[i].take 60) := by
  rw [List.take_succ_eq_append_getElem h, List.foldl_append]; rfl
theorem madeK_fit (ls : List (List UInt8)) : fitC (ls.foldl (fun cs b => addC cs (b.take 60)) []) := by
  suffices h : ∀ (ls cs : List (List UInt8)), fitC cs → fitC (ls.foldl (fun cs b => addC cs (b.take 60)) cs) from h ls [] fit_nil
  intro ls
  induction ls with
  | nil => intro cs h; exact h
  | cons b ls ih => intro cs h; exact ih _ (addC_fit cs _ h)
theorem madeC_fit (ls : List (List UInt8)) : fitC (madeC ls) := madeK_fit _
theorem PgL.cnt {l : List UInt8} {no : Nat} {k : UInt8} {cs : List (List UInt8)} (h : PgL l no k cs) (hno : no ≤ 2147483647) (hk : k ≠ 0) : countP l = cs.length := by
  unfold countP; rw [if_pos (h.sound hno hk), h.count]
theorem PgL.free {l : List UInt8} {no : Nat} {k : UInt8} {cs : List (List UInt8)} (h : PgL l no k cs) (hno : no ≤ 2147483647) (hk : k ≠ 0) : freeP l = (if 244 - (2 * cs.length + sizC cs) < 2 then -1 else ((244 - (2 * cs.length + sizC cs) : Nat) : Int) - 2) := by
  unfold freeP leftP; rw [if_pos (h.sound hno hk), h.count, h.size]
theorem SlB.take60 {w : World} {A : Option Addr} {c : Nat} {l : List UInt8} (h : SlB w A l.length c l) (h60 : 60 < l.length) : SlB w A 60 c (l.take 60) :=
  ⟨by rw [List.length_take]; omega, h.2.1.take 60, by have := h.2.2.1; omega, by decide, h.2.2.2.2⟩
/-- What a call of Insert at the end of a page does. -/
theorem Ins_end (r : Nat) (cs : List (List UInt8)) (no : Nat) (k : UInt8) (Ab : Option Addr) (m cb : Nat) (b : List UInt8) (w : World) (hA : BlkB w r 5 (pageB no k cs)) (hf : fitC cs) (hno : no ≤ 2147483647) (hk : k ≠ 0) (hs : SlB w Ab m cb b) :
    Calls Tryd.prog 65 #[.slice (some ⟨r, 0, none⟩) 256 256, .int .i64 (cs.length : Int), .slice Ab m cb] w fun e w' => ∃ v n, e = .returned (.tuple #[v, .int .i64 n]) ∧ Below w.heap.size w w' ∧ ((n ≠ 0 ∧ addC cs b = cs ∧ BlkB w' r 5 (pageB no k cs)) ∨ (n = 0 ∧ ∃ r', v = .slice (some ⟨r', 0, none⟩) 256 256 ∧ BlkB w' r' 5 (pageB no k (addC cs b)) ∧ w.heap.size ≤ r')) := by
  by_cases h : 2 * cs.length + sizC cs + 2 + b.length ≤ 244
  · have e : addC cs b = cs ++ [b] := by unfold addC; rw [if_pos h]
    have hfit : fitC (cs ++ [b]) := by have := addC_fit cs b hf; rwa [e] at this
    have hP : PgL (pageB no k cs) no k (cs ++ []) := by rw [List.append_nil]; exact pgl_page no k cs hf
    refine (Insert_calls (some ⟨r, 0, none⟩) 256 (pageB no k cs) no k cs [] Ab m cb b w hA.bytes hP hno hk (Nat.le_refl _) (by decide) hs.1 hs.2.1 hfit).mono ?_
    rintro e' w' ⟨r', rfl, hr', hA', hb'⟩
    exact ⟨_, 0, rfl, hb', .inr ⟨rfl, r', rfl, by rw [e]; exact hA', hr'⟩⟩
  · have e : addC cs b = cs := by unfold addC; rw [if_neg h]
    refine (Insert_room (some ⟨r, 0, none⟩) 256 (pageB no k cs) no k cs cs.length Ab m cb w hA.bytes (pgl_page no k cs hf) hno hk (Nat.le_refl _) (by decide) (Nat.le_refl _) (by have := hs.2.2.1; have := hs.2.2.2.1; omega) (by have := hs.1; omega)).mono ?_
    rintro e' w' ⟨rfl, hb'⟩
    exact ⟨_, 32, rfl, hb', .inl ⟨by decide, e, hA.below hb'⟩⟩
theorem Cnt_calls (r : Nat) (cs : List (List UInt8)) (no : Nat) (k : UInt8) (w : World) (hA : BlkB w r 5 (pageB no k cs)) (hf : fitC cs) (hno : no ≤ 2147483647) (hk : k ≠ 0) :
    Calls Tryd.prog 74 #[.slice (some ⟨r, 0, none⟩) 256 256] w fun e w' => e = .returned (.int .i64 (cs.length : Int)) ∧ ∃ m, w' = w.drewN m := by
  have h := Count_calls (some ⟨r, 0, none⟩) 256 256 (pageB no k cs) w (pageB_length _ _ _ hf).symm hA.bytes (Nat.le_refl _) (by decide) (by decide)
  rw [(pgl_page no k cs hf).cnt hno hk] at h
  exact h
end Go.Proofs.YtibmlgkakeakcaaDoor
/- Rows of bytes of one's own. -/
set_option linter.unusedSimpArgs false
set_option linter.unusedVariables false
namespace Go.Proofs.YtibmlgkakeakcaaDoor
open Go.RowKit Go.Proofs.YtibmlgkakeakcaaDoor.Crc
theorem ownsRow_block {w : World} {base : Nat} {e : TypeId} {size : Nat} {v : Value} {n : Nat} {xs : List Value} (h : w.ownsRow base e size v n xs) {g : Nat} (hg : v.ownBlock = some g) : ∃ cur, w.heap[g]? = some (.cells cur e (0, 0)) := by
  rcases h.2 with ⟨h1, _⟩ | ⟨g', cap, cur, h1, _, h3, _⟩
  · rw [h1] at hg; cases hg
  · rw [h1] at hg; cases hg; exact ⟨cur, h3⟩
theorem ownsRow_apart {w : World} {base base' : Nat} {e e' : TypeId} {size size' : Nat} {v v' : Value} {n n' : Nat} {xs xs' : List Value} (h : w.ownsRow base e size v n xs) (h' : w.ownsRow base' e' size' v' n' xs') (he : e ≠ e') : v.ownBlock = none ∨ v.ownBlock ≠ v'.ownBlock := by
  cases hv : v.ownBlock with
  | none => exact .inl rfl
  | some g =>
    refine .inr fun heq => ?_
    obtain ⟨c1, h1⟩ := ownsRow_block h hv
    obtain ⟨c2, h2⟩ := ownsRow_block h' heq.symm
    rw [h1] at h2
    injection h2 with h3
    injection h3 with _ h4
    exact he h4
/-- Rows of bytes, all of one's own. -/
def OwnRL (w : World) (base : Nat) (v : Value) (ls : List (List UInt8)) : Prop :=
  ∃ vs : List Value, w.ownsRow base 30 1 v ls.length vs ∧ ∀ (i : Nat) (h : i < ls.length), ∃ A c, vs[i]? = some (.slice A ls[i].length c) ∧ OwnB w base (.slice A ls[i].length c) ls[i]
theorem OwnRL.nil (w : World) (base : Nat) : OwnRL w base (.slice none 0 0) [] := ⟨[], World.ownsRow_nil _ _ _ _, fun i h => absurd h (by simp)⟩
theorem ownsRow_below {w w' : World} {base : Nat} {e : TypeId} {size : Nat} {v : Value} {n : Nat} {xs : List Value} (h : w.ownsRow base e size v n xs) (hb : Below w.heap.size w w') : w'.ownsRow base e size v n xs := by
  refine ⟨h.1, ?_⟩
  rcases h.2 with h2 | ⟨g, cap, cur, h1, h2, h3, r⟩
  · exact .inl h2
  · exact .inr ⟨g, cap, cur, h1, h2, by rw [hb.block g ((Array.getElem?_eq_some_iff.1 h3).1)]; exact h3, r⟩
theorem OwnRL.below {w w' : World} {base : Nat} {v : Value} {ls : List (List UInt8)} (h : OwnRL w base v ls) (hb : Below w.heap.size w w') : OwnRL w' base v ls := by
  obtain ⟨vs, h1, h2⟩ := h
  refine ⟨vs, ownsRow_below h1 hb, fun i hi => ?_⟩
  obtain ⟨A, c, h3, h4⟩ := h2 i hi
  exact ⟨A, c, h3, h4.below hb⟩
theorem OwnRL.form {w : World} {base : Nat} {v : Value} {ls : List (List UInt8)} (h : OwnRL w base v ls) : (v = .slice none 0 0 ∧ ls = []) ∨ ∃ g c, v = .slice (some ⟨g, 0, none⟩) ls.length c ∧ base ≤ g ∧ g < w.heap.size ∧ ls.length ≤ c ∧ c ≤ 9223372036854775807 := by
  obtain ⟨vs, h1, _⟩ := h
  rcases h1.2 with ⟨h2, h3⟩ | ⟨g, cap, cur, h2, h3, h4, h5, h6, _⟩
  · exact .inl ⟨h2, List.eq_nil_of_length_eq_zero h3⟩
  · exact .inr ⟨g, cap, h2, h3, (Array.getElem?_eq_some_iff.1 h4).1, h5, by unfold maxLen at h6; omega⟩
theorem OwnRL.rows {w : World} {base n c : Nat} {A : Option Addr} {ls : List (List UInt8)} (h : OwnRL w base (.slice A n c) ls) : RowsB w A ls := by
  intro i hi
  rcases h.form with ⟨_, h2⟩ | ⟨g, c', h1, _⟩
  · subst h2; simp at hi
  · obtain ⟨rfl, rfl, rfl⟩ : A = some ⟨g, 0, none⟩ ∧ n = ls.length ∧ c = c' := by simpa using h1
    obtain ⟨vs, h2, h3⟩ := h
    obtain ⟨Ai, ci, h4, h5⟩ := h3 i hi
    refine ⟨_, Ai, ci, rfl, World.ownsRow.cells h2 rfl i _ h4, rfl, h5.bytes, ?_, ?_, ?_⟩
    · rcases h5.form with ⟨h6, h7⟩ | ⟨g', c', h6, _, _, h7⟩
      · rw [h7]; exact Nat.zero_le _
      · injection h6 with _ _ h8; omega
    · rcases h5.2 with ⟨_, h6⟩ | ⟨g', cap, cur, h6, _, _, h8, h7, _⟩
      · omega
      · unfold maxLen at h7; omega
    · rintro rfl
      exact (h5.nilcap).2.1
theorem infoRow : (Tryd.prog.info? 30).map (fun i => (i.zero, i.size, i.bytes)) = some (some (.slice none 0 0), 1, 24) := by kernel_rfl
/-- append of one row onto rows of one's own. -/
theorem wpList_append_row {w : World} {ops : Array Oper} {rest : List Oper} {o : Oper} {a : Act} {Q : Exit → Act → World → Prop} (hgd : o.guard = none) (s x : Operand)
    (ho : o.op = .call { callee := .builtin .append, args := #[s, x], argTypes := #[23, 23] })
    (base : Nat) (v : Value) (ls : List (List UInt8)) (hs : a.eval s = v) (hown : OwnRL w base v ls)
    (ad : Addr) (cx : Nat) (A : Option Addr) (m c : Nat) (l : List UInt8) (hx : a.eval x = .slice (some ad) 1 cx) (hcell : w.cell? (ad.add 0) = some (.slice A m c)) (hb : OwnB w base (.slice A m c) l)
    (hbytes : ls.length ≤ 1000000) (hbase : base ≤ w.heap.size)
    (h : ∀ v' w', Hid (OwnRL w' base v' (ls ++ [l]) ∧ w.grownBy w' v.ownBlock) → wpList Tryd.prog ops Q rest (a.put o.dst v') w') : wpList Tryd.prog ops Q (o :: rest) a w := by
  obtain ⟨i, hi, hz0, hz1, hz2⟩ := info_parts infoRow
  obtain ⟨vs, h1, h2⟩ := hown
  have hm := hb.len
  subst hm
  refine wpList_append_own w hgd s x _ ho base 30 i (.slice none 0 0) 1 24 Tryd.underlying23 hi hz0 hz1 hz2 rfl (by decide) v ls.length vs hs h1 ad 1 cx [.slice A l.length c] hx rfl ?_ (by simp; rfl) (by unfold maxLen; omega) (by omega) hbase ?_
  · intro j u hj
    match j, hj with
    | 0, hj => simp at hj; rw [hcell, hj]
    | j + 1, hj => simp at hj
  · intro v' w' hown' hg hnn
    refine h v' w' ⟨⟨vs ++ [.slice A l.length c], by rw [List.length_append]; exact hown', ?_⟩, hg⟩
    have hvl : vs.length = ls.length := by have := h1.1; omega
    intro i hi
    rw [List.length_append, List.length_singleton] at hi
    by_cases hlt : i < ls.length
    · obtain ⟨Ai, ci, h3, h4⟩ := h2 i hlt
      refine ⟨Ai, ci, ?_, ?_⟩
      · rw [List.getElem?_append_left (by omega), h3, List.getElem_append_left hlt]
      · rw [List.getElem_append_left hlt]
        exact h4.grown hg (ownsRow_apart h4 h1 (by decide))
    · obtain rfl : i = ls.length := by omega
      refine ⟨A, c, ?_, ?_⟩
      · rw [List.getElem?_append_right (by omega), hvl]; simp
      · simp only [List.getElem_append_right (Nat.le_refl _), Nat.sub_self, List.getElem_cons_zero]
        exact hb.grown hg (ownsRow_apart hb h1 (by decide))
theorem OwnB.caps {w : World} {base n c : Nat} {A : Option Addr} {l : List UInt8} (h : OwnB w base (.slice A n c) l) : n = l.length ∧ n ≤ c ∧ c ≤ 9223372036854775807 ∧ (A = none → c = 0) := by
  refine ⟨h.len, ?_, ?_, ?_⟩
  · rcases h.form with ⟨h6, h7⟩ | ⟨g', c', h6, _, _, h7⟩
    · injection h6 with _ h8 _; omega
    · injection h6 with _ _ h8; have := h.len; omega
  · rcases h.2 with ⟨h6, _⟩ | ⟨g', cap, cur, h6, _, _, _, h7, _⟩
    · injection h6 with _ _ h8; omega
    · injection h6 with _ _ h8; unfold maxLen at h7; omega
  · rintro rfl; exact (h.nilcap).2.1
theorem OwnRL.slice {w : World} {base : Nat} {v : Value} {ls : List (List UInt8)} (h : OwnRL w base v ls) : ∃ A c, v = .slice A ls.length c ∧ RowsB w A ls ∧ ls.length ≤ c ∧ c ≤ 9223372036854775807 ∧ (A = none → c = 0) := by
  rcases h.form with ⟨rfl, rfl⟩ | ⟨g, c, rfl, _, _, h1, h2⟩
  · exact ⟨none, 0, rfl, h.rows, Nat.le_refl _, by decide, fun _ => rfl⟩
  · exact ⟨_, c, rfl, h.rows, h1, h2, fun h => by cases h⟩
theorem RowsB.takeN {w : World} {A : Option Addr} {ls : List (List UInt8)} (h : RowsB w A ls) (n : Nat) : RowsB w A (ls.take n) := by
  intro i hi
  have hi2 : i < ls.length := by rw [List.length_take] at hi; omega
  rw [List.getElem_take]
  exact h i hi2
theorem RowsB.dropN {w : World} {b o : Nat} {ls : List (List UInt8)} (h : RowsB w (some ⟨b, o, none⟩) ls) (n : Nat) : RowsB w (some ⟨b, o + n, none⟩) (ls.drop n) := by
  intro i hi
  rw [List.length_drop] at hi
  obtain ⟨Ai, ci, hx, hs⟩ := h.at (n + i) (by omega)
  refine ⟨_, Ai, ci, rfl, ?_, ?_⟩
  · rw [Addr.add_lit, List.getElem_drop, Nat.add_assoc]; exact hx
  · rw [List.getElem_drop]; exact hs
theorem RowsB.nilR (w : World) (A : Option Addr) : RowsB w A [] := fun i h => absurd h (by simp)
end Go.Proofs.YtibmlgkakeakcaaDoor
/- Pages: the walks of Cells, Fill. -/
set_option linter.unusedSimpArgs false
set_option linter.unusedVariables false
namespace Go.Proofs.YtibmlgkakeakcaaDoor
open Go.RowKit Go.Proofs.YtibmlgkakeakcaaDoor.Crc
def cellsOf (l : List UInt8) (N : Nat) (cs : List (List UInt8)) (i : Nat) : List UInt8 := (l.drop (8 + 2 * N + sizC (cs.take i))).take (sizC (cs.take (i + 1)) - sizC (cs.take i))
theorem PgL.endAt1 {l : List UInt8} {no : Nat} {k : UInt8} {cs : List (List UInt8)} (h : PgL l no k cs) (i : Nat) (hi : i < cs.length) : endB l (i : Int) = sizC (cs.take (i + 1)) := by
  have := h.endAt (i + 1) hi
  rwa [show ((i + 1 : Nat) : Int) - 1 = (i : Int) by omega] at this
theorem sizC_take_all (cs : List (List UInt8)) (i : Nat) : sizC (cs.take i) ≤ sizC cs := by
  have h := sizC_take_le cs i (max i cs.length) (by omega)
  rwa [List.take_of_length_le (by omega : cs.length ≤ max i cs.length)] at h
set_option maxRecDepth 100000 in
set_option maxHeartbeats 1000000 in
theorem Cells_calls (b o c : Nat) (l : List UInt8) (no : Nat) (k : UInt8) (cs : List (List UInt8)) (w : World) (hb : Bytes w (some ⟨b, o, none⟩) l) (hP : PgL l no k cs) (hno : no ≤ 2147483647) (hk : k ≠ 0) (hc : 256 ≤ c) (hcm : c ≤ 9223372036854775807) :
    Calls Tryd.prog 43 #[.slice (some ⟨b, o, none⟩) 256 c] w fun e w' => ∃ v, e = .returned v ∧ OwnRL w' w.heap.size v cs ∧ Below w.heap.size w w' := by
  have hl := hP.len
  have hf : 2 * cs.length + sizC cs ≤ 244 := hP.1
  have hCn := Count_calls (some ⟨b, o, none⟩) 256 c l w hl.symm hb hc hcm (by decide)
  rw [hP.cnt hno hk] at hCn
  have hCell := fun (w' : World) (h : Bytes w' (some ⟨b, o, none⟩) l) (i : Nat) (hi : i < cs.length) => cell_calls b o 256 c l i w' hl.symm h hl hc hcm (by omega) cs.length (sizC (cs.take i)) (sizC (cs.take (i + 1))) hP.count (hP.endAt i (by omega)) (hP.endAt1 i hi) (sizC_take_le _ _ _ (by omega)) (by have := sizC_take_all cs (i + 1); omega)
  have hCa := fun (i : Nat) (hi : i < cs.length) => hP.cellAt i hi
  obtain ⟨N, hN⟩ : ∃ N, cs.length = N := ⟨_, rfl⟩
  rw [hN] at hCn hf
  have HCn := Lib.hid hCn
  have HCell := Lib.hid hCell
  have HCa := Lib.hid hCa
  have HB := Lib.hid hb
  have HN := Lib.hid hN
  have HLen := Lib.hid hl
  have HGb : Hid (∀ wr : World, Below w.heap.size w wr → w.heap.size ≤ wr.heap.size) := fun wr h => h.size
  clear hCn hCell hCa hb hP hl hN hno hk
  go_enter Tryd.func43, Tryd.ntmps43
  go_wp2_with (go_at_call 74; (with_reducible refine HCn.out.mono ?_); rintro e w2 ⟨rfl, m2, rfl⟩)
  have HI : Hid (OwnRL (w.drewN m2) w.heap.size (.slice none 0 0) (cs.take 0) ∧ Below w.heap.size w (w.drewN m2)) := ⟨OwnRL.nil _ _, kept_drewN w m2⟩
  go_loopw [3, 7] (fun v i wr => ∃ k : Nat, k ≤ N ∧ i = .int .i64 (k : Int) ∧ Hid (OwnRL wr w.heap.size v (cs.take k) ∧ Below w.heap.size w wr)) (fun _ i _ => N - (intOf i).toNat)
  case atStart => exact ⟨0, Nat.zero_le _, rfl, HI⟩
  case round =>
    obtain ⟨k, hk, rfl, HR⟩ := hrel
    by_cases hlt : k < N
    · have hkc : k < cs.length := by rw [HN.out]; exact hlt
      have HBr := Lib.hid (HB.out.below HR.out.2)
      -- the empty row, and the cell
      have hAl : Below wr.heap.size wr (wr.alloc (Obj.cells #[] 5)) := (Below.refl _ _).alloc (Nat.le_refl _) _
      have hO1 : OwnB (wr.alloc (Obj.cells #[] 5)) wr.heap.size (.slice (some ⟨wr.heap.size, 0, none⟩) 0 0) [] := OwnB.lit wr wr.heap.size (Nat.le_refl _) [] [] rfl 0 rfl (by unfold maxLen; decide)
      have HO1 := Lib.hid hO1
      have HA1 := Lib.hid hAl
      have HCe := Lib.hid (HCell.out _ (HBr.out.below hAl) k hkc)
      have hck := HCa.out k hkc
      have hst : cs.take (k + 1) = cs.take k ++ [cs[k]] := List.take_succ_eq_append_getElem hkc
      obtain ⟨ck, hcke⟩ : ∃ ck, cs[k] = ck := ⟨_, rfl⟩
      rw [hcke] at hck hst
      have HCk := Lib.hid hck
      have HSt := Lib.hid hst
      clear hAl hO1 hck hst hcke
      obtain ⟨E0, hE0⟩ : ∃ E0, sizC (cs.take k) = E0 := ⟨_, rfl⟩
      obtain ⟨E1, hE1⟩ : ∃ E1, sizC (cs.take (k + 1)) = E1 := ⟨_, rfl⟩
      have hE01 : E0 ≤ E1 := by rw [← hE0, ← hE1]; exact sizC_take_le _ _ _ (by omega)
      have hE1s : 2 * N + E1 ≤ 244 := by rw [← hE1]; have := sizC_take_all cs (k + 1); omega
      rw [hE0, hE1] at HCe HCk
      rw [HN.out] at HCe HCk
      have HE := Lib.hid (And.intro hE0 hE1)
      clear hE0 hE1 hkc
      go_wp2_with (go_at_call 75; (with_reducible refine HCe.out.mono ?_); rintro e w3 ⟨rfl, m3, rfl⟩; refine park ?_; intro q hq)
      have HA3 : Hid (Below wr.heap.size wr ((wr.alloc (Obj.cells #[] 5)).drewN m3)) := HA1.out.trans ((kept_drewN _ m3).mono HA1.out.size)
      have HO3 : Hid (OwnB ((wr.alloc (Obj.cells #[] 5)).drewN m3) wr.heap.size (.slice (some ⟨wr.heap.size, 0, none⟩) 0 0) []) := HO1.out.below (kept_drewN _ m3)
      obtain ⟨g0, hg0⟩ : ∃ g0, wr.heap.size = g0 := ⟨_, rfl⟩
      obtain ⟨w3, hw3⟩ : ∃ w3, (wr.alloc (Obj.cells #[] 5)).drewN m3 = w3 := ⟨_, rfl⟩
      rw [hw3] at HA3 HO3 hq
      refine hq.out ?_
      clear hq
      go_wp2_with (with_reducible refine park_append ?_; intro q hq)
      refine hq.out ?_
      clear hq
      have hsl : ((l.drop (8 + 2 * N + E0)).take (E1 - E0)).length = E1 - E0 := by rw [List.length_take, List.length_drop, HLen.out]; omega
      refine wpList_append_bytes rfl _ _ rfl g0 _ [] rfl (by rw [← hg0]; exact HO3.out) (some ⟨b, o + (8 + 2 * N + E0), none⟩) (E1 - E0) (c - (8 + 2 * N + E0)) ck rfl (by rw [← HCk.out]; exact hsl.symm) (fun h => by cases h) (by rw [← HCk.out]; exact ((HBr.out.below HA3.out).drop _).take _) (by rw [← HCk.out, hsl]; simp; omega) (by rw [← hg0]; exact HA3.out.size) ?_
      intro v4 w4 hO4 hg4 hn4
      have hB4 : Below wr.heap.size wr w4 := HA3.out.grown hg4 HA3.out.size (fun k hk => by cases hk; exact Nat.le_refl _)
      obtain ⟨g4, c4, rfl⟩ : ∃ g4 c4, v4 = .slice (some ⟨g4, 0, none⟩) ck.length c4 := by
        rcases hO4.form with ⟨h, _⟩ | ⟨g, c', h, _⟩
        · have := (hn4.1 h).1; cases this
        · exact ⟨g, c', h⟩
      have HG0 : Hid (w.heap.size ≤ g0) := by show _ ≤ _; rw [← hg0]; exact HR.out.2.size
      have HB4 := Lib.hid hB4
      have HO4 := Lib.hid hO4
      obtain ⟨mk, hmk⟩ : ∃ mk, ck.length = mk := ⟨_, rfl⟩
      rw [hmk] at HO4 ⊢
      clear hg0 hw3 hO4 hg4 hn4 hB4 hsl hmk HCk HE
      go_wp2_with (with_reducible refine park_append ?_; intro q hq)
      refine hq.out ?_
      clear hq
      have hAl : Below w4.heap.size w4 (w4.alloc (Obj.cells #[.slice (some ⟨g4, 0, none⟩) mk c4] 30)) := (Below.refl _ _).alloc (Nat.le_refl _) _
      have hB5 : Below wr.heap.size wr (w4.alloc (Obj.cells #[.slice (some ⟨g4, 0, none⟩) mk c4] 30)) := HB4.out.trans (hAl.mono HB4.out.size)
      refine wpList_append_row rfl _ _ rfl w.heap.size _ (cs.take k) rfl (HR.out.1.below hB5) ⟨w4.heap.size, 0, none⟩ 1 (some ⟨g4, 0, none⟩) mk c4 ck rfl ?_ ((HO4.out.below hAl).base HG0.out) (by rw [List.length_take]; omega) (HR.out.2.trans (hB5.mono HR.out.2.size)).size ?_
      · rw [Addr.add_lit, cell_of_row _ _ _ _ _ _ (heap_alloc_new w4 _)]; rfl
      intro v6 w6 H6
      have HF : Hid (OwnRL w6 w.heap.size v6 (cs.take (k + 1)) ∧ Below w.heap.size w w6) := by
        refine ⟨by rw [HSt.out]; exact H6.out.1, (HR.out.2.trans (hB5.mono HR.out.2.size)).grown H6.out.2 (HR.out.2.trans (hB5.mono HR.out.2.size)).size (fun g hg => ?_)⟩
        obtain ⟨vs, h1, _⟩ := HR.out.1
        exact (World.ownsRow.lt h1 g hg).1
      clear hAl hB5 H6
      go_wp2_with fail
      go_roundw
      case rel => exact ⟨k + 1, by omega, by go_num, HF⟩
      case measure => simp [intOf]; omega
    · obtain rfl : k = N := by omega
      have HT : Hid (cs.take k = cs) := List.take_of_length_le (by rw [HN.out]; exact Nat.le_refl _)
      go_wp2_with fail
      go_ret
      exact ⟨_, rfl, by have := HR.out.1; rwa [HT.out] at this, HR.out.2⟩
/-- What Fill tells. -/
def fillP (no : Int) (k : UInt8) (ls : List (List UInt8)) : List UInt8 × Int := if no < 0 ∨ 2147483647 < no ∨ k = 0 then ([], 2) else if 2 * ls.length + sizC ls ≤ 244 then (pageB no.toNat k ls, 0) else ([], 32)
def FillI (w0 : World) (no : Int) (k : UInt8) (ls : List (List UInt8)) (j : Nat) (p e : Value) (wr : World) : Prop :=
  Below w0.heap.size w0 wr ∧ ((e = .int .i64 0 ∧ (0 ≤ no ∧ no ≤ 2147483647 ∧ k ≠ 0) ∧ fitC (ls.take j) ∧ ∃ g, w0.heap.size ≤ g ∧ p = .slice (some ⟨g, 0, none⟩) 256 256 ∧ BlkB wr g 5 (pageB no.toNat k (ls.take j))) ∨
    (∃ er : Int, er ≠ 0 ∧ e = .int .i64 er ∧ p = .slice none 0 0 ∧ fillP no k ls = ([], er)))
theorem bad_not {no : Int} {k : UInt8} (hg : 0 ≤ no ∧ no ≤ 2147483647 ∧ k ≠ 0) : ¬ (no < 0 ∨ 2147483647 < no ∨ k = 0) := by
  rintro (h | h | h)
  · omega
  · omega
  · exact hg.2.2 h
theorem fillP_room (no : Int) (k : UInt8) (ls : List (List UInt8)) (hg : 0 ≤ no ∧ no ≤ 2147483647 ∧ k ≠ 0) (j : Nat) (hj : j < ls.length) (h : 244 < 2 * j + sizC (ls.take j) + 2 + ls[j].length) : fillP no k ls = ([], 32) := by
  unfold fillP
  rw [if_neg (bad_not hg), if_neg]
  have h1 := sizC_take_all ls (j + 1)
  rw [List.take_succ_eq_append_getElem hj, sizC_append, sizC_cons, sizC_nil] at h1
  omega
set_option maxRecDepth 100000 in
set_option maxHeartbeats 1000000 in
theorem Fill_calls (no : Int) (k : UInt8) (A : Option Addr) (n c : Nat) (ls : List (List UInt8)) (w : World) (hn : n = ls.length) (hR : RowsB w A ls) (hm : n ≤ 9223372036854775807) :
    Calls Tryd.prog 32 #[.int .i64 no, .int .u8 (k.toNat : Int), .slice A n c] w (RetBN w (fillP no k ls).1 (fillP no k ls).2) := by
  have HN := Lib.hid hn
  have HR := Lib.hid hR
  have hNew : Calls Tryd.prog 64 #[.int .i64 no, .int .u8 (k.toNat : Int)] w fun e w' => ∃ p er, e = .returned (.tuple #[p, .int .i64 er]) ∧ Hid (FillI w no k ls 0 p (.int .i64 er) w') := by
    by_cases hb : no < 0 ∨ 2147483647 < no ∨ k = 0
    · refine (New_bad no k w hb).mono ?_
      rintro e w' ⟨rfl, rfl⟩
      exact ⟨_, 2, rfl, Below.refl _ _, .inr ⟨2, by decide, rfl, rfl, by unfold fillP; rw [if_pos hb]⟩⟩
    · have h1 : 0 ≤ no := by omega
      have h2 : no ≤ 2147483647 := by omega
      have h3 : ¬ k = 0 := fun h => hb (.inr (.inr h))
      obtain ⟨m, rfl⟩ := Int.eq_ofNat_of_zero_le h1
      refine (New_calls m k w (by omega) h3).mono ?_
      rintro e w' ⟨r, rfl, hr, hA, hb'⟩
      refine ⟨_, 0, rfl, hb', .inl ⟨rfl, ⟨h1, h2, h3⟩, fit_nil, r, hr, rfl, ?_⟩⟩
      rw [newB_page] at hA
      exact hA
  have HNew := Lib.hid hNew
  clear hn hR hNew
  go_enter Tryd.func32, Tryd.ntmps32
  go_wp2_with (go_at_call 64; (with_reducible refine HNew.out.mono ?_); rintro e w1 ⟨p, er, rfl, HI⟩)
  go_loopw [8, 9, 20] (fun p e i wr => ∃ j : Nat, j ≤ n ∧ i = .int .i64 (j : Int) ∧ Hid (FillI w no k ls j p e wr)) (fun _ _ i _ => n - (intOf i).toNat)
  case atStart => exact ⟨0, Nat.zero_le _, rfl, HI⟩
  case round =>
    obtain ⟨j, hj, rfl, HI2⟩ := hrel
    by_cases hlt : j < n
    · obtain ⟨b, o, rfl⟩ := HR.out.spot (by rw [← HN.out]; omega)
      obtain ⟨Ai, ci, hc, hs⟩ := (HR.out.below HI2.out.1).at j (by rw [← HN.out]; exact hlt)
      have hjl : j < ls.length := by rw [← HN.out]; exact hlt
      have hst : ls.take (j + 1) = ls.take j ++ [ls[j]] := List.take_succ_eq_append_getElem hjl
      have hroom := fun hg => fillP_room no k ls hg j hjl
      obtain ⟨bl, hbl⟩ : ∃ bl, ls[j] = bl := ⟨_, rfl⟩
      rw [hbl] at hc hs hst hroom
      have HRoom := Lib.hid hroom
      have HSt := Lib.hid hst
      have HS := Lib.hid hs
      obtain ⟨m, hm2⟩ : ∃ m, bl.length = m := ⟨_, rfl⟩
      rw [hm2] at hc HS
      have HM := Lib.hid hm2
      have HJ : Hid ((ls.take j).length = j) := by show _ = _; rw [List.length_take]; omega
      clear hjl hst hbl hs hroom hm2
      rcases HI2.out.2 with ⟨rfl, hg, hf, g, hgw, rfl, hA⟩ | ⟨er, her, rfl, rfl, hfp⟩
      · have hP := pgl_page no.toNat k (ls.take j) hf
        have hf' : 2 * (ls.take j).length + sizC (ls.take j) ≤ 244 := hf
        by_cases hroom : 2 * (ls.take j).length + sizC (ls.take j) + 2 + bl.length ≤ 244
        · have hfit : fitC (ls.take j ++ [bl]) := by unfold fitC; rw [List.length_append, sizC_append, sizC_cons, sizC_nil, List.length_singleton]; omega
          have hin := Insert_calls (some ⟨g, 0, none⟩) 256 _ no.toNat k (ls.take j) [] Ai m ci bl wr hA.bytes (by rw [List.append_nil]; exact hP) (by omega) hg.2.2 (Nat.le_refl _) (by decide) HM.out.symm HS.out.2.1 hfit
          rw [HJ.out] at hin
          have HIn := Lib.hid hin
          have HG := Lib.hid hg
          have HFit := Lib.hid hfit
          clear hg hf hf' hP hA hroom hfit hin
          go_wp2_with (go_at_call 65; (with_reducible refine HIn.out.mono ?_); rintro e w3 ⟨g3, rfl, hr3, hA3, hb3⟩)
          have HF : Hid (FillI w no k ls (j + 1) (.slice (some ⟨g3, 0, none⟩) 256 256) (.int .i64 0) w3) := by
            refine ⟨HI2.out.1.trans (hb3.mono HI2.out.1.size), .inl ⟨rfl, HG.out, by rw [HSt.out]; exact HFit.out, g3, Nat.le_trans HI2.out.1.size hr3, rfl, by rw [HSt.out]; exact hA3⟩⟩
          go_roundw
          case rel => exact ⟨j + 1, by omega, by go_num, HF⟩
          case measure => simp [intOf]; omega
        · have hin := Insert_room (some ⟨g, 0, none⟩) 256 _ no.toNat k (ls.take j) j Ai m ci wr hA.bytes hP (by omega) hg.2.2 (Nat.le_refl _) (by decide) (by rw [HJ.out]; exact Nat.le_refl _) (by have := HS.out.2.2.1; have := HS.out.2.2.2.1; omega) (by rw [← HM.out]; omega)
          have HIn := Lib.hid hin
          have HFp := Lib.hid (HRoom.out hg (by rw [HJ.out] at hroom; omega))
          clear hg hf hf' hP hA hroom hin
          go_wp2_with (go_at_call 65; (with_reducible refine HIn.out.mono ?_); rintro e w3 ⟨rfl, hb3⟩)
          have HF : Hid (FillI w no k ls (j + 1) (.slice none 0 0) (.int .i64 32) w3) :=
            ⟨HI2.out.1.trans (hb3.mono HI2.out.1.size), .inr ⟨32, by decide, rfl, rfl, HFp.out⟩⟩
          go_roundw
          case rel => exact ⟨j + 1, by omega, by go_num, HF⟩
          case measure => simp [intOf]; omega
      · have d1 : (er == 0) = false := by simpa using her
        have HF : Hid (FillI w no k ls (j + 1) (.slice none 0 0) (.int .i64 er) wr) := ⟨HI2.out.1, .inr ⟨er, her, rfl, rfl, hfp⟩⟩
        clear her hfp
        go_wp2_with fail
        go_roundw
        case rel => exact ⟨j + 1, by omega, by go_num, HF⟩
        case measure => simp [intOf]; omega
    · obtain rfl : j = n := by omega
      have HT : Hid (ls.take j = ls) := List.take_of_length_le (by rw [HN.out]; exact Nat.le_refl _)
      rcases HI2.out.2 with ⟨rfl, hg, hf, g, hgw, rfl, hA⟩ | ⟨er, her, rfl, rfl, hfp⟩
      · have HG := Lib.hid hg
        have HF := Lib.hid hf
        have HA := Lib.hid hA
        have HGw := Lib.hid hgw
        clear hg hf hA hgw
        go_wp2_with fail
        go_ret2
        have hf := HF.out
        have hA := HA.out
        rw [HT.out] at hf hA
        have hfp : fillP no k ls = (pageB no.toNat k ls, 0) := by
          unfold fillP
          have := HG.out
          rw [if_neg (bad_not this), if_pos (show 2 * ls.length + sizC ls ≤ 244 from hf)]
        rw [hfp]
        exact RetBN.mk (OwnB.of_blk hA (pageB_length _ _ _ hf) HGw.out) HI2.out.1
      · have d1 : (er != 0) = true := by simpa using her
        have HFp := Lib.hid hfp
        clear her hfp
        go_wp2_with fail
        go_ret2
        rw [HFp.out]
        exact RetBN.mk (World.ownsRow_nil _ _ _ _) HI2.out.1
end Go.Proofs.YtibmlgkakeakcaaDoor
/- The walks of codec: numbers of whatever size. -/
set_option linter.unusedSimpArgs false
set_option linter.unusedVariables false
namespace Go.Proofs.YtibmlgkakeakcaaDoor
open Go.RowKit Go.Proofs.YtibmlgkakeakcaaDoor.Crc
/-- A number of whatever size, put: seven bits a byte, the lowest ahead. -/
def putU (n : Nat) : List UInt8 := if h : n < 128 then [UInt8.ofNat n] else UInt8.ofNat (n % 128 + 128) :: putU (n / 128)
termination_by n
decreasing_by omega
theorem putU_small (n : Nat) (h : n < 128) : putU n = [UInt8.ofNat n] := by rw [putU, dif_pos h]
theorem putU_big (n : Nat) (h : ¬ n < 128) : putU n = UInt8.ofNat (n % 128 + 128) :: putU (n / 128) := by rw [putU, dif_neg h]
theorem putU_len (k n : Nat) (h : n < 128 ^ (k + 1)) : (putU n).length ≤ k + 1 := by
  induction k generalizing n with
  | zero => rw [putU_small n (by simpa using h)]; simp
  | succ k ih =>
    by_cases hn : n < 128
    · rw [putU_small n hn]; simp
    · rw [putU_big n hn, List.length_cons]
      have := ih (n / 128) (by rw [Nat.pow_succ] at h; exact Nat.div_lt_of_lt_mul (by rw [Nat.mul_comm]; exact h))
      omega
theorem putU_len10 (n : Nat) (h : n < 18446744073709551616) : (putU n).length ≤ 10 := putU_len 9 n (by rw [show (128 : Nat) ^ (9 + 1) = 1180591620717411303424 from by decide]; omega)
theorem putU_pos (n : Nat) : 0 < (putU n).length := by
  by_cases hn : n < 128
  · rw [putU_small n hn]; simp
  · rw [putU_big n hn]; simp
theorem or128 (x : Nat) (h : x < 256) : bits .or .u8 (x : Int) 128 = ((UInt8.ofNat (x % 128 + 128)).toNat : Int) := by
  have : ∀ x : Nat, x < 256 → bits .or .u8 (x : Int) 128 = ((UInt8.ofNat (x % 128 + 128)).toNat : Int) := by decide +kernel
  exact this x h
theorem and127 (x : UInt8) : bits .and .u8 (x.toNat : Int) 127 = ((x.toNat % 128 : Nat) : Int) := by
  have : ∀ x : Nat, x < 256 → bits .and .u8 (x : Int) 127 = ((x % 128 : Nat) : Int) := by decide +kernel
  exact this x.toNat x.toNat_lt
theorem grown_below {B : Nat} {w w' : World} {row : Option Nat} (h : w.grownBy w' row) (hB : B ≤ w.heap.size) (hr : ∀ k, row = some k → B ≤ k) : Below B w w' := (Below.refl _ _).grown h hB hr
set_option maxRecDepth 10000 in
set_option maxHeartbeats 1000000 in
theorem PutUint_calls (base : Nat) (v : Value) (acc : List UInt8) (n : Nat) (w : World) (hv : OwnB w base v acc) (hbase : base ≤ w.heap.size) (hacc : acc.length ≤ 1000000) (hn : n < 18446744073709551616) :
    Calls Tryd.prog 86 #[v, .int .u64 (n : Int)] w fun e w' => ∃ v', e = .returned v' ∧ OwnB w' base v' (acc ++ putU n) ∧ Below base w w' := by
  have HL := Lib.hid (show (acc ++ putU n).length ≤ 1000010 by have := putU_len10 n hn; rw [List.length_append]; omega)
  have H0 := Lib.hid hv
  have HS := Lib.hid hbase
  clear hv hbase hacc
  go_enter Tryd.func86, Tryd.ntmps86
  go_wp2_with fail
  go_loopw [0, 1] (fun u i wr => ∃ (m : Nat) (ac : List UInt8), m < 18446744073709551616 ∧ i = .int .u64 (m : Int) ∧ Hid (ac ++ putU m = acc ++ putU n ∧ OwnB wr base u ac ∧ Below base w wr)) (fun _ i _ => (intOf i).toNat)
  case atStart => exact ⟨n, acc, hn, rfl, rfl, H0.out, Below.refl _ _⟩
  case round =>
    obtain ⟨m, ac, hm, rfl, HR⟩ := hrel
    have hl1 : Hid (ac.length + 1 ≤ 1000010) := Lib.hid (by have h1 := congrArg List.length HR.out.1; have h2 := HL.out; have h3 := putU_pos m; rw [List.length_append] at h1; omega)
    by_cases h0 : m < 128
    · have hb8 := Lib.hid (show (m : Int) = ((UInt8.ofNat m).toNat : Int) by simp; omega)
      go_wp2_with (with_reducible refine park_append ?_; intro q hq)
      refine hq.out ?_
      clear hq
      have hby : Bytes (wr.alloc (Obj.cells #[Value.int IntKind.u8 (m : Int)] 5)) (some ⟨wr.heap.size, 0, none⟩) [UInt8.ofNat m] := bytes_of_block (heap_alloc_new wr _) (by rw [hb8.out]; rfl)
      refine wpList_append_bytes rfl _ _ rfl base u0 ac rfl (HR.out.2.1.alloc _) (some ⟨wr.heap.size, 0, none⟩) 1 1 [UInt8.ofNat m] rfl rfl (fun h => by cases h) hby (by have := hl1.out; simp; omega) (by have h1 := HR.out.2.2.size; have h2 := HS.out; simp; omega) ?_
      intro v2 w2 hown2 hg2 _
      have HN : Hid (OwnB w2 base v2 (acc ++ putU n) ∧ Below base w w2) :=
        ⟨by rw [← HR.out.1, putU_small m h0]; exact hown2, (HR.out.2.2.alloc (Nat.le_trans HS.out HR.out.2.2.size) _).grown hg2 (by have h1 := HR.out.2.2.size; have h2 := HS.out; simp; omega) (fun j hj => (HR.out.2.1.lt j hj).1)⟩
      clear hown2 hg2 HR hby
      go_wp2
      go_ret
      exact ⟨v2, rfl, HN.out.1, HN.out.2⟩
    · have h128 := Lib.hid (show bits .or .u8 ((m : Int) % 256) 128 = ((UInt8.ofNat (m % 128 + 128)).toNat : Int) by
        rw [show (m : Int) % 256 = ((m % 256 : Nat) : Int) by omega, or128 (m % 256) (Nat.mod_lt _ (by decide))]
        congr 3; omega)
      have hsh := Lib.hid (show (m : Int) / 128 = ((m / 128 : Nat) : Int) by omega)
      go_wp2_with (with_reducible refine park_append ?_; intro q hq)
      refine hq.out ?_
      clear hq
      rw [h128.out]
      refine wpList_append_bytes rfl _ _ rfl base u0 ac rfl (HR.out.2.1.alloc _) (some ⟨wr.heap.size, 0, none⟩) 1 1 [UInt8.ofNat (m % 128 + 128)] rfl rfl (fun h => by cases h) (bytes_of_block (heap_alloc_new wr _) rfl) (by have := hl1.out; simp; omega) (by have h1 := HR.out.2.2.size; have h2 := HS.out; simp; omega) ?_
      intro v2 w2 hown2 hg2 _
      have HN : Hid ((ac ++ [UInt8.ofNat (m % 128 + 128)]) ++ putU (m / 128) = acc ++ putU n ∧ OwnB w2 base v2 (ac ++ [UInt8.ofNat (m % 128 + 128)]) ∧ Below base w w2) :=
        ⟨by rw [← HR.out.1, putU_big m h0, List.append_assoc]; rfl, hown2, (HR.out.2.2.alloc (Nat.le_trans HS.out HR.out.2.2.size) _).grown hg2 (by have h1 := HR.out.2.2.size; have h2 := HS.out; simp; omega) (fun j hj => (HR.out.2.1.lt j hj).1)⟩
      clear hown2 hg2 HR h128
      go_wp2
      go_roundw
      case rel => exact ⟨m / 128, _, by omega, by rw [← hsh.out], HN⟩
      case measure => simp [intOf]; omega
end Go.Proofs.YtibmlgkakeakcaaDoor
/- The walks of codec: the reader of numbers of whatever size. -/
set_option linter.unusedSimpArgs false
set_option linter.unusedVariables false
namespace Go.Proofs.YtibmlgkakeakcaaDoor
open Go.RowKit Go.Proofs.YtibmlgkakeakcaaDoor.Crc
theorem pow128 (i : Nat) : 128 ^ i = 2 ^ (7 * i) := by rw [Nat.pow_mul]
theorem or_num (N i : Nat) (c : UInt8) (L : Int) (hL : L = ((128 ^ i : Nat) : Int)) (hN : N < 18446744073709551616) (hc : N / 128 ^ i % 128 = c.toNat % 128) :
    bits .or .u64 ((N : Int) % L) (IntKind.u64.wrap (IntKind.u64.wrap (bits .and .u8 (c.toNat : Int) 127) * L)) = ((N % 128 ^ (i + 1) : Nat) : Int) := by
  subst hL
  obtain ⟨P, hP⟩ : ∃ P, 128 ^ i = P := ⟨_, rfl⟩
  have hP2 : P = 2 ^ (7 * i) := by rw [← hP, pow128]
  rw [Nat.pow_succ, Nat.mod_mul, hP]
  rw [hP] at hc
  clear hP
  have hc' := c.toNat_lt
  have hpos : 0 < P := by rw [hP2]; exact Nat.two_pow_pos _
  rw [and127, ← hc]
  obtain ⟨C, hC⟩ : ∃ C, N / P % 128 = C := ⟨_, rfl⟩
  rw [hC]
  have hCP : P * C ≤ N := by
    have h1 : C ≤ N / P := by rw [← hC]; exact Nat.mod_le _ _
    calc P * C ≤ P * (N / P) := Nat.mul_le_mul_left _ h1
      _ ≤ N := Nat.mul_div_le _ _
  have e1 : IntKind.u64.wrap (C : Int) = (C : Int) := by
    have : C < 128 := by rw [← hC]; exact Nat.mod_lt _ (by decide)
    simp only [IntKind.wrap, IntKind.bits, IntKind.signed]; simp; omega
  have e2 : IntKind.u64.wrap ((C : Int) * (P : Int)) = ((P * C : Nat) : Int) := by
    rw [show (C : Int) * (P : Int) = ((P * C : Nat) : Int) by push_cast; exact Int.mul_comm _ _]
    obtain ⟨D, hD⟩ : ∃ D, P * C = D := ⟨_, rfl⟩
    rw [hD] at hCP ⊢
    simp only [IntKind.wrap, IntKind.bits, IntKind.signed]; simp; omega
  have hm : N % P < P := Nat.mod_lt _ hpos
  have hm2 : N % P ≤ N := Nat.mod_le _ _
  rw [e1, e2, show (N : Int) % (P : Int) = ((N % P : Nat) : Int) by push_cast; rfl, u64_or_nat _ _ (by omega) (by omega)]
  rw [hP2] at hm ⊢
  have := Nat.two_pow_add_eq_or_of_lt hm C
  rw [Nat.or_comm, ← this, Nat.add_comm]
set_option maxRecDepth 10000 in
set_option maxHeartbeats 4000000 in
theorem number_calls {D : Nat → Prop} {w : World} {r N : Nat} {rest : List UInt8} (hN : N < 18446744073709551616) (h : RdLB D w r (putU N ++ rest)) :
    Calls Tryd.prog 96 #[.pointer (some ⟨r, 0, none⟩)] w fun e w' => e = .returned (.tuple #[.int .u64 (N : Int), .bool true]) ∧ RdLB D w' r rest ∧ Kept (· = r) w w' := by
  have H := Lib.hid h
  clear h
  go_enter Tryd.func96, Tryd.ntmps96
  go_wp2_with fail
  go_step3
  go_wp2_with fail
  go_loopw [2, 5] (fun v k wr => ∃ i : Nat, i < 10 ∧ v = .int .u64 ((N % 128 ^ i : Nat) : Int) ∧ k = .int .i64 (i : Int) ∧ Hid (RdLB D wr r (putU (N / 128 ^ i) ++ rest) ∧ Kept (· = r) w wr ∧ (i = 0 ∨ N / 128 ^ i ≠ 0))) (fun _ k _ => (10 - intOf k).toNat)
  case atStart => exact ⟨0, by omega, by rw [Nat.pow_zero, Nat.mod_one]; rfl, rfl, by rw [Nat.pow_zero, Nat.div_one]; exact H.out, Kept.refl _ _, Or.inl rfl⟩
  case round =>
    obtain ⟨i, hi, rfl, rfl, HR⟩ := hrel
    obtain ⟨M, hM⟩ : ∃ M, N / 128 ^ i = M := ⟨_, rfl⟩
    rw [hM] at HR
    have HT := Lib.hid (take_calls HR.out.1 1 (by have := putU_pos M; rw [List.length_append]; omega))
    have HM := Lib.hid hM
    clear hM
    by_cases hs : M < 128
    · obtain ⟨c, hc⟩ : ∃ c : UInt8, UInt8.ofNat M = c := ⟨_, rfl⟩
      have hcM := Lib.hid (show c.toNat = M by rw [← hc]; simp; omega)
      have HP := Lib.hid (show (putU M ++ rest).take 1 = [c] ∧ (putU M ++ rest).drop 1 = rest by rw [putU_small M hs, hc]; exact ⟨rfl, rfl⟩)
      clear hc
      go_wp2_with (go_at_call 78; refine HT.out.mono ?_; rintro e w2 ⟨A2, c2, rfl, hb2, hr2, hk2⟩; refine park ?_; intro q hq)
      refine hq.out ?_
      clear hq
      rw [HP.out.1] at hb2
      rw [HP.out.2] at hr2
      have HR2 := Lib.hid hr2
      have HK2 := Lib.hid (HR.out.2.1.trans hk2)
      obtain ⟨ad, hA, hx⟩ := hb2 0 (by simp)
      clear hr2 hk2 HT hb2
      subst hA
      have hx0 : w2.cell? ad = some (.int .u8 (c.toNat : Int)) := hx
      clear hx
      have hlt : decide ((c.toNat : Int) < 128) = true := by have := hcM.out; simp; omega
      have HO := Lib.hid (fun L hL => or_num N i c L hL hN (by rw [HM.out, hcM.out]))
      have HF := Lib.hid (show N % 128 ^ (i + 1) = N by
        refine Nat.mod_eq_of_lt ?_
        have h1 := HM.out
        rw [Nat.pow_succ]
        have := Nat.lt_mul_div_succ N (Nat.two_pow_pos (7 * i))
        rw [← pow128, h1] at this
        exact Nat.lt_of_lt_of_le this (Nat.mul_le_mul_left _ (by omega)))
      have hbig := Lib.hid (show i = 9 → M ≤ 1 by
        intro e
        subst e
        have h1 := HM.out
        have h2 : M < 2 := by
          rw [← h1]
          exact Nat.div_lt_of_lt_mul hN
        omega)
      have hnz := Lib.hid HR.out.2.2
      clear HR HP
      by_cases h0 : i = 0
      · subst h0
        clear hs hbig hnz
        go_wp2_with fail
        rw [Exit.noGoto_ret]
        go_ret2
        refine ⟨?_, HR2.out, HK2.out⟩
        refine congrArg (fun x => Ending.returned (.tuple #[.int .u64 x, .bool true])) ?_
        have ho := HO.out 1 rfl
        rw [HF.out, Int.emod_one, Int.mul_one] at ho
        exact ho
      by_cases h1 : i = 1
      · subst h1
        have hc0 : ((c.toNat : Int) == 0) = false := by have h1 := hcM.out; have h2 := hnz.out; simp; omega
        clear hs hbig hnz
        go_wp2_with fail
        rw [Exit.noGoto_ret]
        go_ret2
        refine ⟨?_, HR2.out, HK2.out⟩
        refine congrArg (fun x => Ending.returned (.tuple #[.int .u64 x, .bool true])) ?_
        have ho := HO.out _ rfl
        rw [HF.out] at ho
        exact ho
      by_cases h2 : i = 2
      · subst h2
        have hc0 : ((c.toNat : Int) == 0) = false := by have h1 := hcM.out; have h2 := hnz.out; simp; omega
        clear hs hbig hnz
        go_wp2_with fail
        rw [Exit.noGoto_ret]
        go_ret2
        refine ⟨?_, HR2.out, HK2.out⟩
        refine congrArg (fun x => Ending.returned (.tuple #[.int .u64 x, .bool true])) ?_
        have ho := HO.out _ rfl
        rw [HF.out] at ho
        exact ho
      by_cases h3 : i = 3
      · subst h3
        have hc0 : ((c.toNat : Int) == 0) = false := by have h1 := hcM.out; have h2 := hnz.out; simp; omega
        clear hs hbig hnz
        go_wp2_with fail
        rw [Exit.noGoto_ret]
        go_ret2
        refine ⟨?_, HR2.out, HK2.out⟩
        refine congrArg (fun x => Ending.returned (.tuple #[.int .u64 x, .bool true])) ?_
        have ho := HO.out _ rfl
        rw [HF.out] at ho
        exact ho
      by_cases h4 : i = 4
      · subst h4
        have hc0 : ((c.toNat : Int) == 0) = false := by have h1 := hcM.out; have h2 := hnz.out; simp; omega
        clear hs hbig hnz
        go_wp2_with fail
        rw [Exit.noGoto_ret]
        go_ret2
        refine ⟨?_, HR2.out, HK2.out⟩
        refine congrArg (fun x => Ending.returned (.tuple #[.int .u64 x, .bool true])) ?_
        have ho := HO.out _ rfl
        rw [HF.out] at ho
        exact ho
      by_cases h5 : i = 5
      · subst h5
        have hc0 : ((c.toNat : Int) == 0) = false := by have h1 := hcM.out; have h2 := hnz.out; simp; omega
        clear hs hbig hnz
        go_wp2_with fail
        rw [Exit.noGoto_ret]
        go_ret2
        refine ⟨?_, HR2.out, HK2.out⟩
        refine congrArg (fun x => Ending.returned (.tuple #[.int .u64 x, .bool true])) ?_
        have ho := HO.out _ rfl
        rw [HF.out] at ho
        exact ho
      by_cases h6 : i = 6
      · subst h6
        have hc0 : ((c.toNat : Int) == 0) = false := by have h1 := hcM.out; have h2 := hnz.out; simp; omega
        clear hs hbig hnz
        go_wp2_with fail
        rw [Exit.noGoto_ret]
        go_ret2
        refine ⟨?_, HR2.out, HK2.out⟩
        refine congrArg (fun x => Ending.returned (.tuple #[.int .u64 x, .bool true])) ?_
        have ho := HO.out _ rfl
        rw [HF.out] at ho
        exact ho
      by_cases h7 : i = 7
      · subst h7
        have hc0 : ((c.toNat : Int) == 0) = false := by have h1 := hcM.out; have h2 := hnz.out; simp; omega
        clear hs hbig hnz
        go_wp2_with fail
        rw [Exit.noGoto_ret]
        go_ret2
        refine ⟨?_, HR2.out, HK2.out⟩
        refine congrArg (fun x => Ending.returned (.tuple #[.int .u64 x, .bool true])) ?_
        have ho := HO.out _ rfl
        rw [HF.out] at ho
        exact ho
      by_cases h8 : i = 8
      · subst h8
        have hc0 : ((c.toNat : Int) == 0) = false := by have h1 := hcM.out; have h2 := hnz.out; simp; omega
        clear hs hbig hnz
        go_wp2_with fail
        rw [Exit.noGoto_ret]
        go_ret2
        refine ⟨?_, HR2.out, HK2.out⟩
        refine congrArg (fun x => Ending.returned (.tuple #[.int .u64 x, .bool true])) ?_
        have ho := HO.out _ rfl
        rw [HF.out] at ho
        exact ho
      by_cases h9 : i = 9
      · subst h9
        have hc1 : decide ((c.toNat : Int) > 1) = false := by have h1 := hcM.out; have h2 := hbig.out rfl; simp; omega
        have hc0 : ((c.toNat : Int) == 0) = false := by have h1 := hcM.out; have h2 := hnz.out; simp; omega
        clear hs hbig hnz
        go_wp2_with fail
        rw [Exit.noGoto_ret]
        go_ret2
        refine ⟨?_, HR2.out, HK2.out⟩
        refine congrArg (fun x => Ending.returned (.tuple #[.int .u64 x, .bool true])) ?_
        have ho := HO.out _ rfl
        rw [HF.out] at ho
        exact ho
      exact absurd hi (by omega)
    · obtain ⟨c, hc⟩ : ∃ c : UInt8, UInt8.ofNat (M % 128 + 128) = c := ⟨_, rfl⟩
      have hcM := Lib.hid (show c.toNat = M % 128 + 128 by rw [← hc]; simp; omega)
      have HP := Lib.hid (show (putU M ++ rest).take 1 = [c] ∧ (putU M ++ rest).drop 1 = putU (M / 128) ++ rest by rw [putU_big M hs, hc]; exact ⟨rfl, rfl⟩)
      clear hc
      go_wp2_with (go_at_call 78; refine HT.out.mono ?_; rintro e w2 ⟨A2, c2, rfl, hb2, hr2, hk2⟩; refine park ?_; intro q hq)
      refine hq.out ?_
      clear hq
      rw [HP.out.1] at hb2
      rw [HP.out.2] at hr2
      have HR2 := Lib.hid hr2
      have HK2 := Lib.hid (HR.out.2.1.trans hk2)
      obtain ⟨ad, hA, hx⟩ := hb2 0 (by simp)
      clear hr2 hk2 HT hb2
      subst hA
      have hx0 : w2.cell? ad = some (.int .u8 (c.toNat : Int)) := hx
      clear hx
      have hlt : decide ((c.toNat : Int) < 128) = false := by have := hcM.out; simp; omega
      have hc0 : ((c.toNat : Int) == 0) = false := by have h1 := hcM.out; simp; omega
      have HO := Lib.hid (fun L hL => or_num N i c L hL hN (by rw [HM.out, hcM.out]; omega))
      have hi9 := Lib.hid (show i < 9 by
        refine Nat.lt_of_not_le (fun e => ?_)
        obtain rfl : i = 9 := by omega
        have h1 := HM.out
        have h2 : M < 2 := by
          rw [← h1]
          exact Nat.div_lt_of_lt_mul hN
        omega)
      have HD := Lib.hid (show N / 128 ^ (i + 1) = M / 128 by rw [Nat.pow_succ, ← Nat.div_div_eq_div_mul, HM.out])
      have HZ := Lib.hid (show M / 128 ≠ 0 by omega)
      clear HR HP
      by_cases h0 : i = 0
      · subst h0
        clear hs
        go_wp2_with fail
        have ho := HO.out 1 rfl
        rw [Int.emod_one, Int.mul_one] at ho
        go_roundw
        case rel => exact ⟨1, by omega, congrArg (Value.int .u64) ho, rfl, by rw [HD.out]; exact HR2.out, HK2.out, Or.inr (by rw [HD.out]; exact HZ.out)⟩
        case measure => simp [intOf]
      by_cases h1 : i = 1
      · subst h1
        clear hs
        go_wp2_with fail
        have ho := HO.out _ rfl
        go_roundw
        case rel => exact ⟨2, by omega, congrArg (Value.int .u64) ho, rfl, by rw [HD.out]; exact HR2.out, HK2.out, Or.inr (by rw [HD.out]; exact HZ.out)⟩
        case measure => simp [intOf]
      by_cases h2 : i = 2
      · subst h2
        clear hs
        go_wp2_with fail
        have ho := HO.out _ rfl
        go_roundw
        case rel => exact ⟨3, by omega, congrArg (Value.int .u64) ho, rfl, by rw [HD.out]; exact HR2.out, HK2.out, Or.inr (by rw [HD.out]; exact HZ.out)⟩
        case measure => simp [intOf]
      by_cases h3 : i = 3
      · subst h3
        clear hs
        go_wp2_with fail
        have ho := HO.out _ rfl
        go_roundw
        case rel => exact ⟨4, by omega, congrArg (Value.int .u64) ho, rfl, by rw [HD.out]; exact HR2.out, HK2.out, Or.inr (by rw [HD.out]; exact HZ.out)⟩
        case measure => simp [intOf]
      by_cases h4 : i = 4
      · subst h4
        clear hs
        go_wp2_with fail
        have ho := HO.out _ rfl
        go_roundw
        case rel => exact ⟨5, by omega, congrArg (Value.int .u64) ho, rfl, by rw [HD.out]; exact HR2.out, HK2.out, Or.inr (by rw [HD.out]; exact HZ.out)⟩
        case measure => simp [intOf]
      by_cases h5 : i = 5
      · subst h5
        clear hs
        go_wp2_with fail
        have ho := HO.out _ rfl
        go_roundw
        case rel => exact ⟨6, by omega, congrArg (Value.int .u64) ho, rfl, by rw [HD.out]; exact HR2.out, HK2.out, Or.inr (by rw [HD.out]; exact HZ.out)⟩
        case measure => simp [intOf]
      by_cases h6 : i = 6
      · subst h6
        clear hs
        go_wp2_with fail
        have ho := HO.out _ rfl
        go_roundw
        case rel => exact ⟨7, by omega, congrArg (Value.int .u64) ho, rfl, by rw [HD.out]; exact HR2.out, HK2.out, Or.inr (by rw [HD.out]; exact HZ.out)⟩
        case measure => simp [intOf]
      by_cases h7 : i = 7
      · subst h7
        clear hs
        go_wp2_with fail
        have ho := HO.out _ rfl
        go_roundw
        case rel => exact ⟨8, by omega, congrArg (Value.int .u64) ho, rfl, by rw [HD.out]; exact HR2.out, HK2.out, Or.inr (by rw [HD.out]; exact HZ.out)⟩
        case measure => simp [intOf]
      by_cases h8 : i = 8
      · subst h8
        clear hs
        go_wp2_with fail
        have ho := HO.out _ rfl
        go_roundw
        case rel => exact ⟨9, by omega, congrArg (Value.int .u64) ho, rfl, by rw [HD.out]; exact HR2.out, HK2.out, Or.inr (by rw [HD.out]; exact HZ.out)⟩
        case measure => simp [intOf]
      exact absurd hi9.out (by omega)
end Go.Proofs.YtibmlgkakeakcaaDoor
/- The walks of codec: Uint, Err, End. -/
set_option linter.unusedSimpArgs false
set_option linter.unusedVariables false
namespace Go.Proofs.YtibmlgkakeakcaaDoor
open Go.RowKit Go.Proofs.YtibmlgkakeakcaaDoor.Crc
theorem RdLB.kept {D : Nat → Prop} {S : Nat → Prop} {w w' : World} {r : Nat} {l : List UInt8} (h : RdLB D w r l) (hk : Kept S w w') (hs : ∀ k, k < w.heap.size → S k → k ≠ r ∧ (¬ D k ∨ r ≤ k)) : RdLB D w' r l := by
  obtain ⟨A, c, h1, h2, h3, h4, h5⟩ := h
  have hlt : r < w.heap.size := (Array.getElem?_eq_some_iff.1 h1).1
  refine ⟨A, c, ?_, h2.kept hk (fun ad hA hS => ?_), h3, h4, h5⟩
  · unfold RdAt at h1 ⊢
    rw [hk.block r hlt (fun hS => by have := hs r hlt hS; omega)]; exact h1
  · have h6 := h5 ad hA
    obtain ⟨_, h7⟩ := hs ad.block (by omega) hS
    rcases h7 with h7 | h7
    · exact h7 h6.2
    · omega
theorem RdL.kept {S : Nat → Prop} {w w' : World} {r : Nat} {l : List UInt8} (h : RdL w r l) (hk : Kept S w w') (hs : ∀ k, k < w.heap.size → S k → r < k) : RdL w' r l :=
  RdLB.kept h hk (fun k h1 h2 => by have := hs k h1 h2; exact ⟨by omega, .inr (by omega)⟩)
theorem RdL.lt {w : World} {r : Nat} {l : List UInt8} (h : RdL w r l) : r < w.heap.size := by
  obtain ⟨A, c, h1, _⟩ := h
  exact (Array.getElem?_eq_some_iff.1 h1).1
theorem RdLB.lt {D : Nat → Prop} {w : World} {r : Nat} {l : List UInt8} (h : RdLB D w r l) : r < w.heap.size := by
  obtain ⟨A, c, h1, _⟩ := h
  exact (Array.getElem?_eq_some_iff.1 h1).1
set_option maxHeartbeats 400000 in
theorem Uint_calls {D : Nat → Prop} {w : World} {r N most : Nat} {rest : List UInt8} (hN : N < 18446744073709551616) (hm : N ≤ most) (h : RdLB D w r (putU N ++ rest)) :
    Calls Tryd.prog 76 #[.pointer (some ⟨r, 0, none⟩), .int .u64 (most : Int)] w fun e w' => e = .returned (.int .u64 (N : Int)) ∧ RdLB D w' r rest ∧ Kept (· = r) w w' := by
  have h' := h
  obtain ⟨A, c, hr, _⟩ := h'
  have HR := Lib.hid (ready_calls hr)
  have HT := Lib.hid (number_calls hN h)
  have hd : decide ((N : Int) > (most : Int)) = false := by simp; omega
  clear h hr
  go_enter Tryd.func76, Tryd.ntmps76
  go_wp2_with (first | (go_at_call 77; refine HR.out.mono ?_; rintro e w' ⟨rfl, rfl⟩) | (go_at_call 96; refine HT.out.mono ?_; rintro e w2 ⟨rfl, hr2, hk2⟩))
  go_ret
  exact ⟨rfl, hr2, hk2⟩
set_option maxHeartbeats 400000 in
theorem Err_calls {w : World} {r n c : Nat} {A : Option Addr} (h : RdAt w r A n c) : Calls Tryd.prog 79 #[.pointer (some ⟨r, 0, none⟩)] w fun e w' => e = .returned (.int .i64 0) ∧ w = w' := by
  obtain ⟨h0, h1, h2, h3⟩ := h.cells
  have H := Lib.hid h
  clear h
  go_enter Tryd.func79, Tryd.ntmps79
  go_wp2
  go_ret
  exact ⟨rfl, rfl⟩
set_option maxHeartbeats 400000 in
theorem End_calls {D : Nat → Prop} {w : World} {r : Nat} (h : RdLB D w r []) : Calls Tryd.prog 47 #[.pointer (some ⟨r, 0, none⟩)] w fun e w' => e = .returned (.int .i64 0) ∧ w = w' := by
  obtain ⟨A, c, h, _⟩ := h
  obtain ⟨h0, h1, h2, h3⟩ := h.cells
  have HE := Lib.hid (Err_calls h)
  clear h
  go_enter Tryd.func47, Tryd.ntmps47
  go_wp2_with (go_at_call 79; refine HE.out.mono ?_; rintro e w' ⟨rfl, rfl⟩)
  go_ret
  exact ⟨rfl, rfl⟩
end Go.Proofs.YtibmlgkakeakcaaDoor
/- The walk of codec.PutText; strings as bytes. -/
set_option linter.unusedSimpArgs false
set_option linter.unusedVariables false
namespace Go.Proofs.YtibmlgkakeakcaaDoor
open Go.RowKit Go.Proofs.YtibmlgkakeakcaaDoor.Crc
/-- A text, put. -/
def textB (s : List UInt8) : List UInt8 := putU s.length ++ s
theorem textB_len (s : List UInt8) (h : s.length ≤ 1000000) : (textB s).length ≤ s.length + 10 := by
  unfold textB
  rw [List.length_append]
  have := putU_len10 s.length (by omega)
  omega
theorem strCells_bstr (l : List UInt8) : Lib.strCells (bstr l) = cells8 l := by
  unfold Lib.strCells bstr cells8
  simp
/-- append of a string onto bytes of one's own. -/
theorem wpList_append_bstr {w : World} {ops : Array Oper} {rest : List Oper} {o : Oper} {a : Act} {Q : Exit → Act → World → Prop} (hgd : o.guard = none) (s x : Operand)
    (ho : o.op = .call { callee := .builtin .append, args := #[s, x], argTypes := #[30, 9] })
    (base : Nat) (v : Value) (l : List UInt8) (hs : a.eval s = v) (hown : OwnB w base v l)
    (l' : List UInt8) (y : ByteArray) (hy : y = bstr l') (hx : a.eval x = .string y)
    (hbytes : l.length + l'.length ≤ 140737488355328) (hbase : base ≤ w.heap.size)
    (h : ∀ v' w', Hid (OwnB w' base v' (l ++ l') ∧ w.grownBy w' v.ownBlock) → wpList Tryd.prog ops Q rest (a.put o.dst v') w') : wpList Tryd.prog ops Q (o :: rest) a w := by
  obtain ⟨i, hi, hz0, hz1, hz2⟩ := info_parts info8
  subst hy
  have hsz := bstr_size l'
  refine Lib.wpList_append_own_string w hgd s x 30 9 ho base 5 i Tryd.underlying30 Tryd.underlying9 hi hz0 hz1 hz2 v l.length (cells8 l) hs hown (bstr l') hx (by rw [hsz]; unfold maxLen; omega) (by rw [hsz]; exact hbytes) hbase ?_
  intro v' w' hown' hg hnn
  refine h v' w' ⟨?_, hg⟩
  rw [hsz, strCells_bstr, ← cells8_append] at hown'
  unfold OwnB
  rw [List.length_append]
  exact hown'
set_option maxRecDepth 10000 in
set_option maxHeartbeats 400000 in
theorem PutText_calls (base : Nat) (v : Value) (acc s : List UInt8) (w : World) (hv : OwnB w base v acc) (hbase : base ≤ w.heap.size) (hacc : acc.length ≤ 500000) (hs : s.length ≤ 400000) :
    Calls Tryd.prog 62 #[v, .string (bstr s)] w fun e w' => ∃ v', e = .returned v' ∧ OwnB w' base v' (acc ++ textB s) ∧ Below base w w' := by
  have hP := PutUint_calls base v acc s.length w hv hbase (by omega) (by omega)
  obtain ⟨y, hy⟩ : ∃ y, bstr s = y := ⟨_, rfl⟩
  have hsz : y.size = s.length := by rw [← hy, bstr_size]
  rw [← hsz] at hP
  have HP := Lib.hid hP
  have HY := Lib.hid hy
  have hw : IntKind.u64.wrap (y.size : Int) = (y.size : Int) := by simp only [IntKind.wrap, IntKind.bits, IntKind.signed]; simp; omega
  have HA := Lib.hid (show acc.length ≤ 500000 ∧ s.length ≤ 400000 from ⟨hacc, hs⟩)
  have HS := Lib.hid hbase
  have HSz := Lib.hid hsz
  rw [hy]
  clear hP hy hsz hacc hs hbase hv
  go_enter Tryd.func62, Tryd.ntmps62
  go_wp2_with (first | (go_at_call 86; (with_reducible refine HP.out.mono ?_); rintro e w2 ⟨v2, rfl, ho2, hb2⟩) | (with_reducible refine park_append ?_; intro q hq))
  refine hq.out ?_
  clear hq HP
  rw [HSz.out] at ho2
  have HO2 := Lib.hid (And.intro ho2 hb2)
  clear ho2 hb2
  have hl := HO2.out.1
  refine wpList_append_bstr rfl _ _ rfl base v2 (acc ++ putU s.length) rfl HO2.out.1 s y HY.out.symm rfl (by have := putU_len10 s.length (by have := HA.out; omega); have := HA.out; rw [List.length_append]; omega) (Nat.le_trans HS.out HO2.out.2.size) ?_
  intro v3 w3 H3
  have HN : Hid (OwnB w3 base v3 (acc ++ textB s) ∧ Below base w w3) := by
    refine ⟨?_, HO2.out.2.grown H3.out.2 (Nat.le_trans HS.out HO2.out.2.size) (fun j hj => (HO2.out.1.lt j hj).1)⟩
    have := H3.out.1
    rw [List.append_assoc] at this
    exact this
  clear hl H3 HO2
  go_wp2_with fail
  go_ret
  exact ⟨v3, rfl, HN.out⟩
set_option maxHeartbeats 1000000 in
theorem PutFixed_onto (base : Nat) (v : Value) (ac0 : List UInt8) (n : Nat) (hn : (n : Int) ≤ 18446744073709551615) (s : Nat) (hs : s ≤ 8) (w : World) (hv : OwnB w base v ac0) (hbase : base ≤ w.heap.size) (hacc : ac0.length ≤ 1000000) :
    Calls Tryd.prog 63 #[v, .int .u64 (n : Int), .int .i64 (s : Int)] w fun e w' => ∃ v', e = .returned v' ∧ OwnB w' base v' (ac0 ++ fixB n s) ∧ Below base w w' := by
  have H0 := Lib.hid hv
  have HS := Lib.hid hbase
  have HA := Lib.hid hacc
  clear hv hbase hacc
  have m1 : max (s : Int) 0 = s := by omega
  have m2 : min (s : Int) 8 = s := by omega
  go_enter Tryd.func63, Tryd.ntmps63
  go_wp2_with fail
  go_loopw [0, 7] (fun v i wr => ∃ (k : Nat) (acc : List UInt8), k ≤ s ∧ i = .int .i64 ((k : Int) - 1) ∧ Hid (acc ++ fixB n k = ac0 ++ fixB n s ∧ OwnB wr base v acc ∧ Below base w wr)) (fun _ i _ => (intOf i + 1).toNat)
  case atStart => exact ⟨s, ac0, Nat.le_refl _, rfl, rfl, H0.out, Below.refl _ _⟩
  case round =>
    obtain ⟨k, acc, hk, rfl, HR⟩ := hrel
    by_cases h0 : k = 0
    · subst h0
      go_wp2_with fail
      go_ret
      have h1 := HR.out.1
      rw [fixB, List.append_nil] at h1
      rw [← h1]
      exact ⟨_, rfl, HR.out.2.1, HR.out.2.2⟩
    · obtain ⟨k, rfl⟩ : ∃ j, k = j + 1 := ⟨k - 1, by omega⟩
      have HBv := Lib.hid (byteAt_shr n k)
      go_wp2_with (with_reducible refine park_append ?_; intro q hq)
      refine hq.out ?_
      clear hq
      rw [HBv.out]
      have hlen := congrArg List.length HR.out.1
      rw [List.length_append, List.length_append, fixB_length, fixB_length] at hlen
      have hA := HA.out
      refine wpList_append_bytes rfl _ _ rfl base u0 acc rfl (HR.out.2.1.alloc _) (some ⟨wr.heap.size, 0, none⟩) 1 1 [byteAt n k] rfl rfl (fun h => by cases h) (bytes_of_block (heap_alloc_new wr _) rfl) (by simp; omega) (by have := HR.out.2.2.size; have := HS.out; simp; omega) ?_
      intro v2 w2 hown2 hg2 _
      have HN : Hid ((acc ++ [byteAt n k]) ++ fixB n k = ac0 ++ fixB n s ∧ OwnB w2 base v2 (acc ++ [byteAt n k]) ∧ Below base w w2) :=
        ⟨by rw [← HR.out.1, fixB, List.append_assoc]; rfl, hown2, (HR.out.2.2.alloc (Nat.le_trans HS.out HR.out.2.2.size) _).grown hg2 (by have := HR.out.2.2.size; have := HS.out; simp; omega) (fun j hj => (HR.out.2.1.lt j hj).1)⟩
      clear hown2 hg2 HR hlen hA
      go_wp2
      go_roundw
      case rel => exact ⟨k, _, by omega, by go_num, HN⟩
      case measure => simp [intOf]
end Go.Proofs.YtibmlgkakeakcaaDoor
/- The walk of codec's Text. -/
set_option linter.unusedSimpArgs false
set_option linter.unusedVariables false
namespace Go.Proofs.YtibmlgkakeakcaaDoor
open Go.RowKit Go.Proofs.YtibmlgkakeakcaaDoor.Crc
set_option maxHeartbeats 1000000 in
theorem Text_calls {D : Nat → Prop} {w : World} {r most : Nat} {s rest : List UInt8} (hs : s.length ≤ most) (hm : most ≤ 400000) (h : RdLB D w r (textB s ++ rest)) :
    Calls Tryd.prog 45 #[.pointer (some ⟨r, 0, none⟩), .int .i64 (most : Int)] w fun e w' => e = .returned (.string (bstr s)) ∧ RdLB D w' r rest ∧ Kept (· = r) w w' := by
  obtain ⟨n, hn⟩ : ∃ n, s.length = n := ⟨_, rfl⟩
  unfold textB at h
  rw [List.append_assoc, hn] at h
  rw [hn] at hs
  have HU := Lib.hid (Uint_calls (most := most) (by omega) hs h)
  have HN := Lib.hid hn
  have m1 : max (most : Int) 0 = most := by omega
  have hn64 : n ≤ 9223372036854775807 := by omega
  clear h hn
  go_enter Tryd.func45, Tryd.ntmps45
  go_wp2_with (go_at_call 76; refine HU.out.mono ?_; rintro e w2 ⟨rfl, hr2, hk2⟩; have HR2 := Lib.hid hr2; have HK2 := Lib.hid hk2; obtain ⟨A2, c2, hr, _⟩ := hr2; have HR := Lib.hid (ready_calls hr); have HT := Lib.hid (take_calls HR2.out n (by rw [List.length_append, HN.out]; omega)); clear hr hk2; refine park ?_; intro q hq)
  refine hq.out ?_
  clear hq
  go_wp2_with (first | (go_at_call 77; refine HR.out.mono ?_; rintro e w' ⟨rfl, rfl⟩) | (go_at_call 78; refine HT.out.mono ?_; rintro e w3 ⟨A, c, rfl, hb3, hr3, hk3⟩; refine park ?_; intro q hq))
  refine hq.out ?_
  clear hq
  rw [List.take_left' HN.out] at hb3
  rw [List.drop_left' HN.out] at hr3
  have hrun := run_str (w := w3) (c := c) HN.out.symm hb3
  go_wp2_with fail
  go_ret
  exact ⟨rfl, hr3, HK2.out.trans hk3⟩
end Go.Proofs.YtibmlgkakeakcaaDoor
/- Lists of values of one cell each, in memory. -/
set_option linter.unusedSimpArgs false
set_option linter.unusedVariables false
namespace Go.Proofs.YtibmlgkakeakcaaDoor
open Go.RowKit
/-- Values that lie somewhere. -/
def ValsAt (w : World) (A : Option Addr) (vs : List Value) : Prop := ∀ k, (hk : k < vs.length) → ∃ ad, A = some ad ∧ w.cell? (ad.add k) = some vs[k]
theorem ValsAt.kept {S : Nat → Prop} {w w' : World} {A : Option Addr} {vs : List Value} (h : ValsAt w A vs) (hk : Kept S w w') (hs : ∀ ad, A = some ad → vs = [] ∨ ¬ S ad.block) : ValsAt w' A vs := by
  intro k hl
  obtain ⟨ad, hA, hx⟩ := h k hl
  refine ⟨ad, hA, hk.cell hx ?_⟩
  rw [add_block]
  rcases hs ad hA with h | h
  · rw [h] at hl; exact absurd hl (Nat.not_lt_zero _)
  · exact h
theorem ValsAt.below {w w' : World} {A : Option Addr} {vs : List Value} (h : ValsAt w A vs) (hb : Below w.heap.size w w') : ValsAt w' A vs := h.kept (S := fun _ => False) (Kept.of_below hb) (fun _ _ => .inr (fun x => x))
theorem ValsAt.nil (w : World) (A : Option Addr) : ValsAt w A [] := fun k hk => absurd hk (Nat.not_lt_zero _)
theorem ValsAt.spot {w : World} {A : Option Addr} {vs : List Value} (h : ValsAt w A vs) (hl : 0 < vs.length) : ∃ b o, A = some ⟨b, o, none⟩ ∧ b < w.heap.size := by
  obtain ⟨ad, hA, hx⟩ := h 0 hl
  obtain ⟨b, o, s⟩ := ad
  have hlt := World.block_lt_of_cell? w _ hx
  rw [add_block] at hlt
  refine ⟨b, o, ?_, hlt⟩
  rw [hA]
  cases s with
  | none => rfl
  | some s => simp [World.cell?, Addr.add] at hx; split at hx <;> simp at hx
theorem ValsAt.at {w : World} {b o : Nat} {vs : List Value} (h : ValsAt w (some ⟨b, o, none⟩) vs) (k : Nat) (hk : k < vs.length) : w.cell? ⟨b, o + k, none⟩ = some vs[k] := by
  obtain ⟨ad, hA, hx⟩ := h k hk
  cases hA
  rwa [Addr.add_lit] at hx
theorem ValsAt.take {w : World} {A : Option Addr} {vs : List Value} (h : ValsAt w A vs) (n : Nat) : ValsAt w A (vs.take n) := by
  intro k hk
  rw [List.length_take] at hk
  obtain ⟨ad, hA, hx⟩ := h k (by omega)
  exact ⟨ad, hA, by rw [List.getElem_take]; exact hx⟩
theorem ValsAt.drop {w : World} {b o : Nat} {vs : List Value} (h : ValsAt w (some ⟨b, o, none⟩) vs) (n : Nat) : ValsAt w (some ⟨b, o + n, none⟩) (vs.drop n) := by
  intro k hk
  rw [List.length_drop] at hk
  refine ⟨_, rfl, ?_⟩
  rw [Addr.add_lit, List.getElem_drop, Nat.add_assoc]
  exact h.at (n + k) (by omega)
/-- What is known of the values of a slice: the slice's type, an element's, its zero, its bytes. -/
structure El (ts t : TypeId) (z : Value) (b : Nat) : Prop where
  u : Tryd.prog.underlying ts = some (.slice t)
  i : (Tryd.prog.info? t).map (fun i => (i.zero, i.size, i.bytes)) = some (some z, 1, b)
  z1 : z.cells.size = 1
  b24 : b ≤ 24
/-- Values of one's own. -/
def OwnVs (w : World) (base : Nat) (t : TypeId) (v : Value) (vs : List Value) : Prop := w.ownsRow base t 1 v vs.length vs
section
variable {w w' : World} {base : Nat} {t : TypeId} {v : Value} {vs : List Value}
theorem OwnVs.kept {S : Nat → Prop} (h : OwnVs w base t v vs) (hk : Kept S w w') (hs : ∀ k, v.ownBlock = some k → ¬ S k) : OwnVs w' base t v vs := by
  refine ⟨h.1, ?_⟩
  rcases h.2 with h2 | ⟨g, cap, cur, h1, h2, h3, r⟩
  · exact .inl h2
  · exact .inr ⟨g, cap, cur, h1, h2, by rw [hk.block g ((Array.getElem?_eq_some_iff.1 h3).1) (hs g (by rw [h1]; rfl))]; exact h3, r⟩
theorem OwnVs.below (h : OwnVs w base t v vs) (hb : Below w.heap.size w w') : OwnVs w' base t v vs := h.kept (S := fun _ => False) (Kept.of_below hb) (fun _ _ x => x)
theorem OwnVs.lt (h : OwnVs w base t v vs) : ∀ k, v.ownBlock = some k → base ≤ k ∧ k < w.heap.size := World.ownsRow.lt h
theorem OwnVs.nil (w : World) (base : Nat) (t : TypeId) : OwnVs w base t (.slice none 0 0) [] := World.ownsRow_nil _ _ _ _
theorem OwnVs.base' {base' : Nat} (h : OwnVs w base t v vs) (hb : base' ≤ base) : OwnVs w base' t v vs := by
  refine ⟨h.1, ?_⟩
  rcases h.2 with h2 | ⟨g, cap, cur, h1, h2, r⟩
  · exact .inl h2
  · exact .inr ⟨g, cap, cur, h1, by omega, r⟩
theorem OwnVs.form (h : OwnVs w base t v vs) : (v = .slice none 0 0 ∧ vs = []) ∨ ∃ g c, v = .slice (some ⟨g, 0, none⟩) vs.length c ∧ base ≤ g ∧ g < w.heap.size ∧ vs.length ≤ c ∧ c ≤ 9223372036854775807 := by
  rcases h.2 with ⟨h1, h2⟩ | ⟨g, cap, cur, h1, h2, h3, h4, h5, _⟩
  · exact .inl ⟨h1, List.eq_nil_of_length_eq_zero h2⟩
  · refine .inr ⟨g, cap, h1, h2, (Array.getElem?_eq_some_iff.1 h3).1, h4, ?_⟩
    unfold maxLen at h5; omega
theorem OwnVs.sl (h : OwnVs w base t v vs) : ∃ A c, v = .slice A vs.length c ∧ (A = none → c = 0) ∧ ValsAt w A vs ∧ vs.length ≤ c ∧ c ≤ 9223372036854775807 ∧ ∀ ad, A = some ad → base ≤ ad.block ∧ ad.block < w.heap.size ∧ ad.spot = none := by
  rcases h.form with ⟨rfl, rfl⟩ | ⟨g, c, rfl, h1, h2, h3, h4⟩
  · exact ⟨none, 0, rfl, fun _ => rfl, ValsAt.nil _ _, Nat.le_refl _, by decide, fun ad h => by cases h⟩
  · refine ⟨_, c, rfl, (fun h => by cases h), fun k hk => ⟨_, rfl, ?_⟩, h3, h4, fun ad h => by cases h; exact ⟨h1, h2, rfl⟩⟩
    exact World.ownsRow.cells h (g := g) rfl k vs[k] (by simp [hk])
theorem OwnVs.fr {A : Option Addr} {n c : Nat} (h : OwnVs w base t (.slice A n c) vs) (k : Nat) (hk : k < vs.length) : ∃ g, A = some ⟨g, 0, none⟩ ∧ w.frozen? ⟨g, k, none⟩ = false ∧ w.cell? ⟨g, k, none⟩ = some vs[k] := by
  rcases h.form with ⟨h1, h2⟩ | ⟨g, c', h1, _⟩
  · rw [h2] at hk; exact absurd hk (Nat.not_lt_zero _)
  · injection h1 with h1 h2 h3
    subst h1
    subst h2
    have hc := World.ownsRow.cells h (g := g) rfl k vs[k] (by simp [hk])
    rw [Addr.add_lit, Nat.zero_add] at hc
    exact ⟨g, rfl, World.ownsRow.frozenAt h k, hc⟩
theorem OwnVs.set {g n c : Nat} (h : OwnVs w base t (.slice (some ⟨g, 0, none⟩) n c) vs) (k : Nat) (x : Value) : OwnVs (w.setCell ⟨g, k, none⟩ x) base t (.slice (some ⟨g, 0, none⟩) n c) (vs.set k x) := by
  have hn : n = vs.length := by
    rcases h.form with ⟨h1, _⟩ | ⟨g', c', h1, _⟩
    · cases h1
    · injection h1
  subst hn
  have := (World.ownsRow.stored h k x).1
  unfold OwnVs
  rw [List.length_set]
  exact this
theorem OwnVs.lit (w : World) (base : Nat) (hb : base ≤ w.heap.size) (vs : List Value) (hm : vs.length ≤ maxLen) : OwnVs (w.alloc (.cells vs.toArray t)) base t (.slice (some ⟨w.heap.size, 0, none⟩) vs.length vs.length) vs := by
  have := World.ownsRow_lit (base := base) (e := t) (size := 1) w vs.toArray vs.length hb hm (by simp)
  simpa [OwnVs] using this
end
/-- append of values onto values of one's own. -/
theorem wpList_append_vals {ts t : TypeId} {z : Value} {b : Nat} (E : El ts t z b) {w : World} {ops : Array Oper} {rest : List Oper} {o : Oper} {a : Act} {Q : Exit → Act → World → Prop} (hgd : o.guard = none) (s x : Operand)
    (ho : o.op = .call { callee := .builtin .append, args := #[s, x], argTypes := #[ts, ts] })
    (base : Nat) (v : Value) (vs : List Value) (hs : a.eval s = v) (hown : OwnVs w base t v vs)
    (A : Option Addr) (m cx : Nat) (ys : List Value) (hx : a.eval x = .slice A m cx) (hm : m = ys.length) (hnil : A = none → cx = 0) (hU : ValsAt w A ys) (h1 : ∀ u ∈ ys, u.oneCell' = true)
    (hbytes : vs.length + ys.length ≤ 1000000000000) (hbase : base ≤ w.heap.size)
    (h : ∀ v' w', Hid (OwnVs w' base t v' (vs ++ ys) ∧ w.grownBy w' v.ownBlock) → wpList Tryd.prog ops Q rest (a.put o.dst v') w') : wpList Tryd.prog ops Q (o :: rest) a w := by
  obtain ⟨i, hi, hz0, hz1, hz2⟩ := info_parts E.i
  subst hm
  cases A with
  | none =>
    have hys : ys = [] := by
      rcases ys with _ | ⟨y, ys⟩
      · rfl
      · obtain ⟨ad, hA, _⟩ := hU 0 (Nat.succ_pos _); cases hA
    subst hys
    have hc := hnil rfl
    subst hc
    refine wpList_plain hgd fun K hK => ?_
    have hr := run_append_owned_none (P := Tryd.prog) w base ts o.type t i 1 E.u hi v vs.length vs hown
    unfold Oper.wp execOp
    simp only [ho, resolve, invoke, builtin, Sem.run_bind, Sem.run_pure, Result.andThen_ok, List.map_toArray, List.map_cons, List.map_nil, hs, hx]
    simp only [List.length_nil, hr, Result.andThen_ok]
    refine hK _ _ (h v w ⟨by rw [List.append_nil]; exact hown, World.grownBy.refl _ _⟩)
  | some ad =>
    have hb24 := E.b24
    refine wpList_append_own w hgd s x _ ho base t i z 1 b E.u hi hz0 hz1 hz2 E.z1 (by decide) v vs.length _ hs hown ad ys.length cx ys hx (by rw [Nat.mul_one]) ?_ h1 (by unfold maxLen; omega) ?_ hbase ?_
    · intro j u hj
      have hlt : j < ys.length := (List.getElem?_eq_some_iff.1 hj).1
      obtain ⟨ad', hA, hc⟩ := hU j hlt
      cases hA
      rw [hc]
      rw [List.getElem?_eq_getElem hlt] at hj
      exact hj
    · refine Nat.le_trans (Nat.mul_le_mul hbytes hb24) (by decide)
    · intro v' w' hown' hg hnn
      refine h v' w' ⟨?_, hg⟩
      unfold OwnVs
      rw [List.length_append]
      exact hown'
/-- append of one value. -/
theorem wpList_append_val1 {ts t : TypeId} {z : Value} {b : Nat} (E : El ts t z b) {w : World} {ops : Array Oper} {rest : List Oper} {o : Oper} {a : Act} {Q : Exit → Act → World → Prop} (hgd : o.guard = none) (s x : Operand)
    (ho : o.op = .call { callee := .builtin .append, args := #[s, x], argTypes := #[ts, ts] })
    (base : Nat) (v : Value) (vs : List Value) (hs : a.eval s = v) (hown : OwnVs w base t v vs)
    (ad : Addr) (cx : Nat) (y : Value) (hx : a.eval x = .slice (some ad) 1 cx) (hcell : w.cell? (ad.add 0) = some y) (h1 : y.oneCell' = true)
    (hbytes : vs.length ≤ 1000000) (hbase : base ≤ w.heap.size)
    (h : ∀ v' w', Hid (OwnVs w' base t v' (vs ++ [y]) ∧ w.grownBy w' v.ownBlock) → wpList Tryd.prog ops Q rest (a.put o.dst v') w') : wpList Tryd.prog ops Q (o :: rest) a w :=
  wpList_append_vals E hgd s x ho base v vs hs hown (some ad) 1 cx [y] hx rfl (fun h => by cases h) (fun k hk => by
    obtain rfl : k = 0 := by simpa using hk
    exact ⟨ad, rfl, hcell⟩) (fun u hu => by simp at hu; rw [hu]; exact h1) (by simp; omega) hbase h
/-- append of one value, as one step of a region. -/
theorem step_append_val1 {ts t : TypeId} {z : Value} {b : Nat} (E : El ts t z b) {ops : Array Oper} {o : Oper} {a : Act} {w : World} {K : Act → World → Prop} {Q : Exit → Act → World → Prop} {X : Prop} (hgd : o.guard = none) (s x : Operand)
    (ho : o.op = .call { callee := .builtin .append, args := #[s, x], argTypes := #[ts, ts] })
    (base : Nat) (v : Value) (vs : List Value) (hs : a.eval s = v) (hown : OwnVs w base t v vs)
    (ad : Addr) (cx : Nat) (y : Value) (hx : a.eval x = .slice (some ad) 1 cx) (hcell : w.cell? (ad.add 0) = some y) (h1 : y.oneCell' = true)
    (hbytes : vs.length ≤ 1000000) (hbase : base ≤ w.heap.size)
    (h : ∀ v' w', Hid (OwnVs w' base t v' (vs ++ [y]) ∧ w.grownBy w' v.ownBlock) → K (a.put o.dst v') w') : if Region.wanted o (yielded ops a.tmps) = true then Oper.wp Tryd.prog o a w K Q else X := by
  obtain ⟨i, hi, hz0, hz1, hz2⟩ := info_parts E.i
  have hb24 := E.b24
  have hw : Region.wanted o (yielded ops a.tmps) = true := by simp [Region.wanted, hgd]
  rw [if_pos hw]
  refine wp_append_own w s x _ ho base t i z 1 b E.u hi hz0 hz1 hz2 E.z1 (by decide) v vs.length _ hs hown ad 1 cx [y] hx rfl ?_ (fun u hu => by simp at hu; rw [hu]; exact h1) (by unfold maxLen; omega) ?_ hbase ?_
  · intro j u hj
    match j, hj with
    | 0, hj => simp at hj; rw [hcell, hj]
    | j + 1, hj => simp at hj
  · refine Nat.le_trans (Nat.mul_le_mul (show vs.length + 1 ≤ 1000001 by omega) hb24) (by decide)
  · intro v' w' hown' hg hnn
    refine h v' w' ⟨?_, hg⟩
    unfold OwnVs
    rw [List.length_append]
    exact hown'
end Go.Proofs.YtibmlgkakeakcaaDoor
/- Nodes, plain. -/
set_option linter.unusedSimpArgs false
set_option linter.unusedVariables false
namespace Go.Proofs.YtibmlgkakeakcaaDoor
open Go.RowKit Go.Proofs.YtibmlgkakeakcaaDoor.Crc
/-- The order of texts; a plain definition. -/
def ltB (a b : List UInt8) : Bool := Op.bytesLess a b
theorem ltB_nil (a : List UInt8) : ltB a [] = false := by cases a <;> rfl
theorem ltB_cons (a b : UInt8) (x y : List UInt8) : ltB (a :: x) (b :: y) = (decide (a < b) || (a == b && ltB x y)) := by unfold ltB; rw [Op.bytesLess]
theorem ltB_irrefl : ∀ a : List UInt8, ltB a a = false
  | [] => rfl
  | a :: x => by rw [ltB_cons, ltB_irrefl x]; simp [UInt8.lt_irrefl]
theorem ltB_trans : ∀ a b c : List UInt8, ltB a b = true → ltB b c = true → ltB a c = true
  | a, b, [], _, h => by rw [ltB_nil] at h; cases h
  | a, [], _ :: _, h, _ => by rw [ltB_nil] at h; cases h
  | [], _ :: _, _ :: _, _, _ => rfl
  | a :: x, b :: y, c :: z, h, k => by
    rw [ltB_cons] at h k ⊢
    simp only [Bool.or_eq_true, Bool.and_eq_true, decide_eq_true_eq, beq_iff_eq] at h k ⊢
    rcases h with h | ⟨rfl, h⟩
    · rcases k with k | ⟨rfl, _⟩
      · exact .inl (UInt8.lt_trans h k)
      · exact .inl h
    · rcases k with k | ⟨rfl, k⟩
      · exact .inl k
      · exact .inr ⟨rfl, ltB_trans x y z h k⟩
theorem ltB_tri : ∀ a b : List UInt8, ltB a b = true ∨ a = b ∨ ltB b a = true
  | [], [] => .inr (.inl rfl)
  | [], _ :: _ => .inl rfl
  | _ :: _, [] => .inr (.inr rfl)
  | a :: x, b :: y => by
    rw [ltB_cons, ltB_cons]
    simp only [Bool.or_eq_true, Bool.and_eq_true, decide_eq_true_eq, beq_iff_eq]
    rcases UInt8.lt_or_lt_of_ne (a := a) (b := b) |> fun f => Classical.em (a = b) with rfl | hne
    · rcases ltB_tri x y with h | rfl | h
      · exact .inl (.inr ⟨rfl, h⟩)
      · exact .inr (.inl rfl)
      · exact .inr (.inr (.inr ⟨rfl, h⟩))
    · rcases UInt8.lt_or_lt_of_ne hne with h | h
      · exact .inl (.inl h)
      · exact .inr (.inr (.inl h))
theorem ltB_asymm {a b : List UInt8} (h : ltB a b = true) : ltB b a = false := by
  cases hb : ltB b a
  · rfl
  · have := ltB_trans _ _ _ h hb
    rw [ltB_irrefl] at this; cases this
/-- Not less is equal, or greater. -/
theorem ltB_not {a b : List UInt8} (h : ltB a b = false) : a = b ∨ ltB b a = true := by
  rcases ltB_tri a b with h1 | h1 | h1
  · rw [h1] at h; cases h
  · exact .inl h1
  · exact .inr h1
theorem leB_not (a b : List UInt8) : (ltB a b || a == b) = !ltB b a := by
  cases h : ltB a b
  · rcases ltB_not h with rfl | h1
    · rw [ltB_irrefl]; simp
    · rw [h1]
      have : (a == b) = false := by
        rw [beq_eq_false_iff_ne]
        rintro rfl
        rw [ltB_irrefl] at h1; cases h1
      rw [this]; rfl
  · rw [ltB_asymm h]; rfl
/-- A text of a list; a plain definition. -/
def atL (l : List (List UInt8)) (i : Nat) : List UInt8 := l.getD i []
theorem atL_eq (l : List (List UInt8)) (i : Nat) (h : i < l.length) : atL l i = l[i] := by
  unfold atL; rw [List.getD_eq_getElem?_getD, List.getElem?_eq_getElem h]; rfl
def atI (l : List Int) (i : Nat) : Int := l.getD i 0
theorem atI_eq (l : List Int) (i : Nat) (h : i < l.length) : atI l i = l[i] := by
  unfold atI; rw [List.getD_eq_getElem?_getD, List.getElem?_eq_getElem h]; rfl
/-- A node. -/
structure NodeM where
  leaf : Bool
  keys : List (List UInt8)
  vals : List (List UInt8)
  kids : List Int
/-- The first so many keys are short enough and rise. -/
def riseK (ks : List (List UInt8)) (t : Nat) : Prop := ∀ i, i < t → (atL ks i).length ≤ 40 ∧ (0 < i → ltB (atL ks (i - 1)) (atL ks i) = true)
theorem riseK.zero (ks : List (List UInt8)) : riseK ks 0 := fun i h => absurd h (Nat.not_lt_zero _)
theorem riseK.succ {ks : List (List UInt8)} {t : Nat} (h : riseK ks t) (h1 : (atL ks t).length ≤ 40) (h2 : 0 < t → ltB (atL ks (t - 1)) (atL ks t) = true) : riseK ks (t + 1) := fun i hi => by
  by_cases hlt : i < t
  · exact h i hlt
  · obtain rfl : i = t := by omega
    exact ⟨h1, h2⟩
/-- A node that may be. -/
def RightM (n : NodeM) : Prop :=
  riseK n.keys n.keys.length ∧ (if n.leaf then n.vals.length = n.keys.length ∧ n.kids.length = 0 ∧ (∀ v ∈ n.vals, v.length ≤ 49)
    else n.kids.length = n.keys.length ∧ 0 < n.kids.length ∧ n.vals.length = 0 ∧ atL n.keys 0 = [] ∧ ∀ k ∈ n.kids, 0 ≤ k ∧ k ≤ 2147483647)
open Classical in
noncomputable def rightB (n : NodeM) : Bool := decide (RightM n)
open Classical in
theorem rightB_true {n : NodeM} (h : RightM n) : rightB n = true := by unfold rightB; exact decide_eq_true h
open Classical in
theorem rightB_false {n : NodeM} (h : ¬ RightM n) : rightB n = false := by unfold rightB; exact decide_eq_false h
open Classical in
theorem rightB_iff {n : NodeM} : rightB n = true ↔ RightM n := by unfold rightB; exact decide_eq_true_iff
/-- A node's cell. -/
def cellB (n : NodeM) (i : Nat) : List UInt8 := textB (atL n.keys i) ++ (if n.leaf then textB (atL n.vals i) else fixB (atI n.kids i).toNat 4)
def cellsB (n : NodeM) : List (List UInt8) := (List.range n.keys.length).map (cellB n)
theorem cellsB_length (n : NodeM) : (cellsB n).length = n.keys.length := by unfold cellsB; simp
theorem cellsB_take (n : NodeM) (t : Nat) (h : t < n.keys.length) : (cellsB n).take (t + 1) = (cellsB n).take t ++ [cellB n t] := by
  rw [List.take_succ_eq_append_getElem (by rw [cellsB_length]; exact h)]
  unfold cellsB
  simp
/-- How many bytes the first so many cells take. -/
def sizeN (n : NodeM) (t : Nat) : Nat := 2 * t + sizC ((cellsB n).take t)
theorem sizeN_zero (n : NodeM) : sizeN n 0 = 0 := rfl
theorem sizeN_succ (n : NodeM) (t : Nat) (h : t < n.keys.length) : sizeN n (t + 1) = sizeN n t + 2 + (cellB n t).length := by
  unfold sizeN
  rw [cellsB_take n t h, sizC_append, sizC_cons, sizC_nil]; omega
def takenN (n : NodeM) : Nat := sizeN n n.keys.length
theorem takenN_fit (n : NodeM) : takenN n ≤ 244 ↔ fitC (cellsB n) := by
  unfold takenN sizeN fitC
  rw [cellsB_length, List.take_of_length_le (by rw [cellsB_length]; exact Nat.le_refl _)]
/-- Where a key stands, or would stand. -/
def placeN (ks : List (List UInt8)) (key : List UInt8) : Nat := (ks.takeWhile (fun k => ltB k key)).length
theorem placeN_le (ks : List (List UInt8)) (key : List UInt8) : placeN ks key ≤ ks.length := (List.takeWhile_prefix _).length_le
theorem placeN_below (ks : List (List UInt8)) (key : List UInt8) (i : Nat) (h : i < placeN ks key) : ltB (atL ks i) key = true := by
  unfold placeN at h
  induction ks generalizing i with
  | nil => exact absurd h (Nat.not_lt_zero _)
  | cons k ks ih =>
    rw [List.takeWhile_cons] at h
    by_cases hk : ltB k key = true
    · rw [if_pos hk, List.length_cons] at h
      cases i with
      | zero => exact hk
      | succ i => exact ih i (by omega)
    · rw [if_neg hk] at h; exact absurd h (Nat.not_lt_zero _)
theorem placeN_at (ks : List (List UInt8)) (key : List UInt8) (h : placeN ks key < ks.length) : ltB (atL ks (placeN ks key)) key = false := by
  unfold placeN at h ⊢
  induction ks with
  | nil => exact absurd h (Nat.not_lt_zero _)
  | cons k ks ih =>
    by_cases hk : ltB k key = true
    · simp only [List.takeWhile_cons, if_pos hk, List.length_cons] at h ⊢
      exact ih (by omega)
    · rw [List.takeWhile_cons, if_neg hk]
      show ltB k key = false
      simpa using hk
/-- The place is the only one. -/
theorem placeN_eq (ks : List (List UInt8)) (key : List UInt8) (j : Nat) (hj : j ≤ ks.length) (h1 : ∀ i, i < j → ltB (atL ks i) key = true) (h2 : j < ks.length → ltB (atL ks j) key = false) : placeN ks key = j := by
  by_cases hlt : placeN ks key < j
  · have := h1 _ hlt
    rw [placeN_at ks key (by omega)] at this; cases this
  · by_cases hgt : j < placeN ks key
    · have h3 := placeN_below ks key j hgt
      have := placeN_le ks key
      rw [h2 (by omega)] at h3; cases h3
    · omega
/-- Find. -/
noncomputable def findN (n : NodeM) (key : List UInt8) : Int × Bool :=
  if rightB n then
    let i := placeN n.keys key
    let ok := decide (i < n.keys.length) && (atL n.keys i == key)
    (if n.leaf || ok then (i : Int) else (i : Int) - 1, ok)
  else (0, false)
end Go.Proofs.YtibmlgkakeakcaaDoor
/- Nodes in memory; Right's helpers. -/
set_option linter.unusedSimpArgs false
set_option linter.unusedVariables false
namespace Go.Proofs.YtibmlgkakeakcaaDoor
open Go.RowKit Go.Proofs.YtibmlgkakeakcaaDoor.Crc
def strV (s : List UInt8) : Value := .string (bstr s)
def strs (ks : List (List UInt8)) : List Value := ks.map strV
def intV (k : Int) : Value := .int .i64 k
def ints (ks : List Int) : List Value := ks.map intV
theorem strs_length (ks : List (List UInt8)) : (strs ks).length = ks.length := by unfold strs; simp
theorem ints_length (ks : List Int) : (ints ks).length = ks.length := by unfold ints; simp
theorem strs_get (ks : List (List UInt8)) (i : Nat) (h : i < (strs ks).length) : (strs ks)[i] = strV (atL ks i) := by
  have h' : i < ks.length := by rwa [strs_length] at h
  have e : (strs ks)[i]? = some (strV (atL ks i)) := by rw [atL_eq ks i h']; unfold strs; rw [List.getElem?_map, List.getElem?_eq_getElem h']; rfl
  exact Option.some.inj ((List.getElem?_eq_getElem h).symm.trans e)
theorem ints_get (ks : List Int) (i : Nat) (h : i < (ints ks).length) : (ints ks)[i] = intV (atI ks i) := by
  have h' : i < ks.length := by rwa [ints_length] at h
  have e : (ints ks)[i]? = some (intV (atI ks i)) := by rw [atI_eq ks i h']; unfold ints; rw [List.getElem?_map, List.getElem?_eq_getElem h']; rfl
  exact Option.some.inj ((List.getElem?_eq_getElem h).symm.trans e)
theorem strs_one (ks : List (List UInt8)) : ∀ u ∈ strs ks, u.oneCell' = true := by
  intro u hu
  unfold strs at hu
  obtain ⟨c, _, rfl⟩ := List.mem_map.1 hu
  rfl
theorem ints_one (ks : List Int) : ∀ u ∈ ints ks, u.oneCell' = true := by
  intro u hu
  unfold ints at hu
  obtain ⟨c, _, rfl⟩ := List.mem_map.1 hu
  rfl
theorem elStr : El 22 9 (.string ByteArray.empty) 16 := ⟨Tryd.underlying22, by kernel_rfl, rfl, by decide⟩
theorem elInt : El 24 3 (.int .i64 0) 8 := ⟨Tryd.underlying24, by kernel_rfl, rfl, by decide⟩
theorem elRow : El 23 30 (.slice none 0 0) 24 := ⟨Tryd.underlying23, by kernel_rfl, rfl, by decide⟩
/-- A key of a list that lies in memory. -/
theorem ValsAt.str {w : World} {A : Option Addr} {ks : List (List UInt8)} (h : ValsAt w A (strs ks)) (i : Nat) (hi : i < ks.length) : ∃ ad, A = some ad ∧ w.cell? (ad.add i) = some (strV (atL ks i)) := by
  obtain ⟨ad, hA, hx⟩ := h i (by rw [strs_length]; exact hi)
  exact ⟨ad, hA, by rw [hx, strs_get]⟩
theorem ValsAt.int {w : World} {A : Option Addr} {ks : List Int} (h : ValsAt w A (ints ks)) (i : Nat) (hi : i < ks.length) : ∃ ad, A = some ad ∧ w.cell? (ad.add i) = some (.int .i64 (atI ks i)) := by
  obtain ⟨ad, hA, hx⟩ := h i (by rw [ints_length]; exact hi)
  exact ⟨ad, hA, by rw [hx, ints_get]; rfl⟩
theorem ValsAt.strAt {w : World} {b o : Nat} {ks : List (List UInt8)} (h : ValsAt w (some ⟨b, o, none⟩) (strs ks)) (i : Nat) (hi : i < ks.length) : w.cell? ⟨b, o + i, none⟩ = some (strV (atL ks i)) := by
  have := h.at i (by rw [strs_length]; exact hi)
  rw [this, strs_get]
theorem ValsAt.intAt {w : World} {b o : Nat} {ks : List Int} (h : ValsAt w (some ⟨b, o, none⟩) (ints ks)) (i : Nat) (hi : i < ks.length) : w.cell? ⟨b, o + i, none⟩ = some (.int .i64 (atI ks i)) := by
  have := h.at i (by rw [ints_length]; exact hi)
  rw [this, ints_get]; rfl
/-- A node in memory. -/
structure NodeAt (w : World) (n : NodeM) (kA : Option Addr) (kc : Nat) (vA : Option Addr) (vc : Nat) (iA : Option Addr) (ic : Nat) : Prop where
  k : ValsAt w kA (strs n.keys)
  v : RowsB w vA n.vals
  i : ValsAt w iA (ints n.kids)
  kn : (kA = none → kc = 0) ∧ n.keys.length ≤ kc ∧ kc ≤ 9223372036854775807
  vn : (vA = none → vc = 0) ∧ n.vals.length ≤ vc ∧ vc ≤ 9223372036854775807
  inn : (iA = none → ic = 0) ∧ n.kids.length ≤ ic ∧ ic ≤ 9223372036854775807
theorem NodeAt.below {w w' : World} {n : NodeM} {kA : Option Addr} {kc : Nat} {vA : Option Addr} {vc : Nat} {iA : Option Addr} {ic : Nat} (h : NodeAt w n kA kc vA vc iA ic) (hb : Below w.heap.size w w') : NodeAt w' n kA kc vA vc iA ic :=
  ⟨h.k.below hb, h.v.below hb, h.i.below hb, h.kn, h.vn, h.inn⟩
set_option maxHeartbeats 400000 in
theorem Right1_calls (A : Option Addr) (n c : Nat) (w : World) : Calls Tryd.prog 37 #[.slice A n c] w fun e w' => e = .returned (.bool (decide (49 < n))) ∧ w = w' := by
  go_enter Tryd.func37, Tryd.ntmps37
  go_wp2_with fail
  go_ret
  exact ⟨ret_bool (by simp; omega), rfl⟩
set_option maxHeartbeats 400000 in
theorem Right2_calls (k : Int) (w : World) : Calls Tryd.prog 39 #[.int .i64 k] w fun e w' => e = .returned (.bool (decide (k < 0 ∨ 2147483647 < k))) ∧ w = w' := by
  by_cases h : k < 0
  · have h0 : decide (k < 0) = true := decide_eq_true h
    have h1 : decide (k < 0 ∨ 2147483647 < k) = true := decide_eq_true (.inl h)
    rw [h1]
    clear h h1
    go_enter Tryd.func39, Tryd.ntmps39
    go_wp2_with fail
    go_ret
    exact ⟨rfl, rfl⟩
  · have h0 : decide (k < 0) = false := decide_eq_false h
    have h1 : decide (k < 0 ∨ 2147483647 < k) = decide (k > 2147483647) := by simp; omega
    rw [h1]
    clear h h1
    go_enter Tryd.func39, Tryd.ntmps39
    go_wp2_with fail
    go_ret
    exact ⟨rfl, rfl⟩
set_option maxRecDepth 10000 in
set_option maxHeartbeats 400000 in
/-- Does one of the values have more than 49 bytes? -/
theorem IndexV_calls (A : Option Addr) (n c : Nat) (ls : List (List UInt8)) (w : World) (hn : n = ls.length) (hR : RowsB w A ls) (hm : n ≤ 9223372036854775807) :
    Calls Tryd.prog 71 #[.slice A n c, .func (Fn.func 37) #[] #[]] w fun e w' => ∃ j : Int, e = .returned (.int .i64 j) ∧ Hid (j ≥ 0 ↔ ∃ v ∈ ls, 49 < v.length) ∧ w = w' := by
  have HN := Lib.hid hn
  have HR := Lib.hid hR
  clear hn hR
  go_enter Tryd.func71, Tryd.ntmps71
  go_wp2_with fail
  go_loop [8] (fun i => ∃ t : Nat, t ≤ n ∧ i = .int .i64 (t : Int) ∧ Hid (∀ k, k < t → ¬ 49 < (atL ls k).length)) (fun i => n - (intOf i).toNat)
  case atStart => exact ⟨0, Nat.zero_le _, rfl, fun k hk => absurd hk (Nat.not_lt_zero _)⟩
  case round =>
    obtain ⟨t, ht, rfl, HV⟩ := hrel
    by_cases hlt : t < n
    · have hl : t < ls.length := by rw [← HN.out]; exact hlt
      obtain ⟨ad, Ai, ci, hA, hc, hs⟩ := HR.out t hl
      subst hA
      obtain ⟨m, hm'⟩ : ∃ m, ls[t].length = m := ⟨_, rfl⟩
      rw [hm'] at hc
      have HM : Hid ((atL ls t).length = m) := by rw [atL_eq ls t hl]; exact hm'
      have HL := Lib.hid hl
      clear hs hm' hl
      by_cases h49 : 49 < m
      · have hd : decide (49 < m) = true := decide_eq_true h49
        have HE : Hid (∃ v ∈ ls, 49 < v.length) := ⟨ls[t]'HL.out, List.getElem_mem _, by rw [← atL_eq ls t HL.out, HM.out]; exact h49⟩
        clear h49
        go_wp2_with (go_at_call 37; (with_reducible refine (Right1_calls _ _ _ _).mono ?_); rintro e w' ⟨rfl, rfl⟩)
        go_ret
        exact ⟨_, rfl, ⟨fun _ => HE.out, fun _ => Int.natCast_nonneg _⟩, rfl⟩
      · have hd : decide (49 < m) = false := decide_eq_false h49
        have HS : Hid (∀ k, k < t + 1 → ¬ 49 < (atL ls k).length) := fun k hk => by
          by_cases hkt : k < t
          · exact HV.out k hkt
          · obtain rfl : k = t := by omega
            rw [HM.out]; exact h49
        clear h49 HV
        go_wp2_with (go_at_call 37; (with_reducible refine (Right1_calls _ _ _ _).mono ?_); rintro e w' ⟨rfl, rfl⟩)
        go_round
        case rel => exact ⟨t + 1, Nat.succ_le_of_lt hlt, congrArg (Value.int .i64) (Int.natCast_succ t).symm, HS.out⟩
        case measure => simp [intOf]; omega
    · obtain rfl : n = t := by omega
      have HE : Hid (¬ ∃ v ∈ ls, 49 < v.length) := by
        rintro ⟨v, hv, h⟩
        obtain ⟨i, hi, rfl⟩ := List.getElem_of_mem hv
        exact HV.out i (by rw [HN.out]; exact hi) (by rw [atL_eq ls i hi]; exact h)
      clear HV hlt
      go_wp2_with fail
      go_ret
      exact ⟨-1, rfl, ⟨fun h => absurd h (by decide), fun h => absurd h HE.out⟩, rfl⟩
set_option maxRecDepth 10000 in
set_option maxHeartbeats 400000 in
theorem ContainsV_calls (A : Option Addr) (n c : Nat) (ls : List (List UInt8)) (w : World) (hn : n = ls.length) (hR : RowsB w A ls) (hm : n ≤ 9223372036854775807) :
    Calls Tryd.prog 36 #[.slice A n c, .func (Fn.func 37) #[] #[]] w fun e w' => ∃ b : Bool, e = .returned (.bool b) ∧ Hid (b = true ↔ ∃ v ∈ ls, 49 < v.length) ∧ w = w' := by
  have HI := Lib.hid (IndexV_calls A n c ls w hn hR hm)
  clear hn hR hm
  go_enter Tryd.func36, Tryd.ntmps36
  go_wp2_with (go_at_call 71; (with_reducible refine HI.out.mono ?_); rintro e w' ⟨j, rfl, hj, rfl⟩; refine park ?_; intro q hq)
  refine hq.out ?_
  clear hq HI
  obtain ⟨b, hb⟩ : ∃ b, decide (j ≥ 0) = b := ⟨_, rfl⟩
  have HB : Hid (b = true ↔ ∃ v ∈ ls, 49 < v.length) := by rw [← hb, decide_eq_true_iff]; exact hj.out
  go_wp2_with fail
  go_ret
  exact ⟨b, ret_bool (by simp), HB.out, rfl⟩
set_option maxRecDepth 10000 in
set_option maxHeartbeats 400000 in
/-- Is one of the numbers no page's? -/
theorem IndexK_calls (A : Option Addr) (n c : Nat) (ls : List Int) (w : World) (hn : n = ls.length) (hR : ValsAt w A (ints ls)) (hm : n ≤ 9223372036854775807) :
    Calls Tryd.prog 72 #[.slice A n c, .func (Fn.func 39) #[] #[]] w fun e w' => ∃ j : Int, e = .returned (.int .i64 j) ∧ Hid (j ≥ 0 ↔ ∃ v ∈ ls, v < 0 ∨ 2147483647 < v) ∧ w = w' := by
  have HN := Lib.hid hn
  have HR := Lib.hid hR
  clear hn hR
  go_enter Tryd.func72, Tryd.ntmps72
  go_wp2_with fail
  go_loop [8] (fun i => ∃ t : Nat, t ≤ n ∧ i = .int .i64 (t : Int) ∧ Hid (∀ k, k < t → ¬ (atI ls k < 0 ∨ 2147483647 < atI ls k))) (fun i => n - (intOf i).toNat)
  case atStart => exact ⟨0, Nat.zero_le _, rfl, fun k hk => absurd hk (Nat.not_lt_zero _)⟩
  case round =>
    obtain ⟨t, ht, rfl, HV⟩ := hrel
    by_cases hlt : t < n
    · have hl : t < ls.length := by rw [← HN.out]; exact hlt
      obtain ⟨ad, hA, hc⟩ := HR.out.int t hl
      subst hA
      obtain ⟨m, hm'⟩ : ∃ m, atI ls t = m := ⟨_, rfl⟩
      rw [hm'] at hc
      have HM := Lib.hid hm'
      have HL := Lib.hid hl
      clear hm' hl
      by_cases h49 : m < 0 ∨ 2147483647 < m
      · have hd : decide (m < 0 ∨ 2147483647 < m) = true := decide_eq_true h49
        have HE : Hid (∃ v ∈ ls, v < 0 ∨ 2147483647 < v) := ⟨ls[t]'HL.out, List.getElem_mem _, by rw [← atI_eq ls t HL.out, HM.out]; exact h49⟩
        have HR2 := Lib.hid (Right2_calls m w)
        rw [hd] at HR2
        clear h49 hd
        go_wp2_with (go_at_call 39; (with_reducible refine HR2.out.mono ?_); rintro e w' ⟨rfl, rfl⟩)
        go_ret
        exact ⟨_, rfl, ⟨fun _ => HE.out, fun _ => Int.natCast_nonneg _⟩, rfl⟩
      · have hd : decide (m < 0 ∨ 2147483647 < m) = false := decide_eq_false h49
        have HR2 := Lib.hid (Right2_calls m w)
        rw [hd] at HR2
        have HS : Hid (∀ k, k < t + 1 → ¬ (atI ls k < 0 ∨ 2147483647 < atI ls k)) := fun k hk => by
          by_cases hkt : k < t
          · exact HV.out k hkt
          · obtain rfl : k = t := by omega
            rw [HM.out]; exact h49
        clear h49 HV hd
        go_wp2_with (go_at_call 39; (with_reducible refine HR2.out.mono ?_); rintro e w' ⟨rfl, rfl⟩)
        go_round
        case rel => exact ⟨t + 1, Nat.succ_le_of_lt hlt, congrArg (Value.int .i64) (Int.natCast_succ t).symm, HS.out⟩
        case measure => simp [intOf]; omega
    · obtain rfl : n = t := by omega
      have HE : Hid (¬ ∃ v ∈ ls, v < 0 ∨ 2147483647 < v) := by
        rintro ⟨v, hv, h⟩
        obtain ⟨i, hi, rfl⟩ := List.getElem_of_mem hv
        exact HV.out i (by rw [HN.out]; exact hi) (by rw [atI_eq ls i hi]; exact h)
      clear HV hlt
      go_wp2_with fail
      go_ret
      exact ⟨-1, rfl, ⟨fun h => absurd h (by decide), fun h => absurd h HE.out⟩, rfl⟩
set_option maxRecDepth 10000 in
set_option maxHeartbeats 400000 in
theorem ContainsK_calls (A : Option Addr) (n c : Nat) (ls : List Int) (w : World) (hn : n = ls.length) (hR : ValsAt w A (ints ls)) (hm : n ≤ 9223372036854775807) :
    Calls Tryd.prog 38 #[.slice A n c, .func (Fn.func 39) #[] #[]] w fun e w' => ∃ b : Bool, e = .returned (.bool b) ∧ Hid (b = true ↔ ∃ v ∈ ls, v < 0 ∨ 2147483647 < v) ∧ w = w' := by
  have HI := Lib.hid (IndexK_calls A n c ls w hn hR hm)
  clear hn hR hm
  go_enter Tryd.func38, Tryd.ntmps38
  go_wp2_with (go_at_call 72; (with_reducible refine HI.out.mono ?_); rintro e w' ⟨j, rfl, hj, rfl⟩; refine park ?_; intro q hq)
  refine hq.out ?_
  clear hq HI
  obtain ⟨b, hb⟩ : ∃ b, decide (j ≥ 0) = b := ⟨_, rfl⟩
  have HB : Hid (b = true ↔ ∃ v ∈ ls, v < 0 ∨ 2147483647 < v) := by rw [← hb, decide_eq_true_iff]; exact hj.out
  go_wp2_with fail
  go_ret
  exact ⟨b, ret_bool (by simp), HB.out, rfl⟩
end Go.Proofs.YtibmlgkakeakcaaDoor
