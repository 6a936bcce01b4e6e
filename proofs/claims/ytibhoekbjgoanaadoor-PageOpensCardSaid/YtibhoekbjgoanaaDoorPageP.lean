/- Pages, plain: a page as its number, its kind and its cells. -/
import Derived.Test.YtibhoekbjgoanaaDoorPageM
import Derived.Test.YtibhoekbjgoanaaDoorStampL
set_option linter.unusedSimpArgs false
set_option linter.unusedVariables false
namespace Go.Proofs.YtibhoekbjgoanaaDoor
open Go.RowKit Go.Proofs.YtibhoekbjgoanaaDoor.Crc
def sizC (cs : List (List UInt8)) : Nat := (cs.map List.length).sum
theorem sizC_nil : sizC [] = 0 := rfl
theorem sizC_cons (c : List UInt8) (cs : List (List UInt8)) : sizC (c :: cs) = c.length + sizC cs := rfl
theorem sizC_append (a b : List (List UInt8)) : sizC (a ++ b) = sizC a + sizC b := by unfold sizC; rw [List.map_append, List.sum_append]
theorem sizC_flatten (cs : List (List UInt8)) : cs.flatten.length = sizC cs := by unfold sizC; rw [List.length_flatten]
def w2 (n : Nat) : List UInt8 := [UInt8.ofNat (n / 256), UInt8.ofNat n]
theorem w2_length (n : Nat) : (w2 n).length = 2 := rfl
def endsB (t : Nat) : List (List UInt8) → List UInt8
  | [] => []
  | c :: cs => w2 (t + c.length) ++ endsB (t + c.length) cs
theorem endsB_length (t : Nat) (cs : List (List UInt8)) : (endsB t cs).length = 2 * cs.length := by
  induction cs generalizing t with
  | nil => rfl
  | cons c cs ih => rw [endsB, List.length_append, ih, w2_length, List.length_cons]; omega
theorem endsB_append (t : Nat) (a b : List (List UInt8)) : endsB t (a ++ b) = endsB t a ++ endsB (t + sizC a) b := by
  induction a generalizing t with
  | nil => rfl
  | cons c a ih => rw [List.cons_append, endsB, endsB, ih, sizC_cons, List.append_assoc, Nat.add_assoc]
def headPg (no : Nat) (k : UInt8) (n s : Nat) : List UInt8 := fixB no 4 ++ (k :: UInt8.ofNat n :: w2 s)
theorem headPg_length (no : Nat) (k : UInt8) (n s : Nat) : (headPg no k n s).length = 8 := by
  unfold headPg; rw [List.length_append, fixB_length]; rfl
/-- The first 252 bytes of a page, and all of one without a sum. -/
def bodyB (no : Nat) (k : UInt8) (cs : List (List UInt8)) : List UInt8 :=
  headPg no k cs.length (sizC cs) ++ (endsB 0 cs ++ (cs.flatten ++ List.replicate (244 - (2 * cs.length + sizC cs)) 0))
def pageB (no : Nat) (k : UInt8) (cs : List (List UInt8)) : List UInt8 := bodyB no k cs ++ [0, 0, 0, 0]
def fitC (cs : List (List UInt8)) : Prop := 2 * cs.length + sizC cs ≤ 244
theorem bodyB_length (no : Nat) (k : UInt8) (cs : List (List UInt8)) (h : fitC cs) : (bodyB no k cs).length = 252 := by
  unfold fitC at h
  unfold bodyB
  simp only [List.length_append, headPg_length, endsB_length, sizC_flatten, List.length_replicate]
  omega
theorem pageB_length (no : Nat) (k : UInt8) (cs : List (List UInt8)) (h : fitC cs) : (pageB no k cs).length = 256 := by
  unfold pageB; rw [List.length_append, bodyB_length _ _ _ h]; rfl
/-- Bytes that are a page, whatever its last four. -/
def PgL (l : List UInt8) (no : Nat) (k : UInt8) (cs : List (List UInt8)) : Prop := fitC cs ∧ ∃ t : List UInt8, t.length = 4 ∧ l = bodyB no k cs ++ t
theorem PgL.len {l : List UInt8} {no : Nat} {k : UInt8} {cs : List (List UInt8)} (h : PgL l no k cs) : l.length = 256 := by
  obtain ⟨hf, t, ht, rfl⟩ := h
  rw [List.length_append, bodyB_length _ _ _ hf, ht]
theorem PgL.take {l : List UInt8} {no : Nat} {k : UInt8} {cs : List (List UInt8)} (h : PgL l no k cs) : l.take 252 = bodyB no k cs := by
  obtain ⟨hf, t, ht, rfl⟩ := h
  rw [List.take_left' (bodyB_length _ _ _ hf)]
theorem PgL.own {l : List UInt8} {no : Nat} {k : UInt8} {cs : List (List UInt8)} (h : PgL l no k cs) : ownP l = pageB no k cs := by
  unfold ownP pageB; rw [h.take]
theorem pgl_page (no : Nat) (k : UInt8) (cs : List (List UInt8)) (h : fitC cs) : PgL (pageB no k cs) no k cs := ⟨h, _, rfl, rfl⟩
theorem u8_ofNat (n : Nat) : (UInt8.ofNat n).toNat = n % 256 := by simp
theorem at8_append_left (a b : List UInt8) (i : Nat) (h : i < a.length) : at8 (a ++ b) i = at8 a i := by
  unfold at8; simp [List.getElem?_append_left h]
theorem at8_append_right (a b : List UInt8) (i : Nat) : at8 (a ++ b) (a.length + i) = at8 b i := by
  unfold at8; simp [List.getElem?_append_right]
theorem wordB_mid (a b : List UInt8) (n : Nat) (h : n < 65536) (i : Nat) (hi : i = a.length) : wordB (a ++ (w2 n ++ b)) i = n := by
  subst hi
  unfold wordB
  rw [show a.length = a.length + 0 from rfl, Nat.add_assoc, at8_append_right, at8_append_right]
  show (UInt8.ofNat (n / 256)).toNat * 256 + (UInt8.ofNat n).toNat = n
  rw [u8_ofNat, u8_ofNat]; omega
/-- What a page has, told by its bytes. -/
theorem PgL.count {l : List UInt8} {no : Nat} {k : UInt8} {cs : List (List UInt8)} (h : PgL l no k cs) : cntB l = cs.length := by
  obtain ⟨hf, t, ht, rfl⟩ := h
  unfold cntB bodyB headPg
  rw [List.append_assoc, List.append_assoc]
  have := at8_append_right (fixB no 4) ((k :: UInt8.ofNat cs.length :: w2 (sizC cs)) ++ ((endsB 0 cs ++ (cs.flatten ++ List.replicate (244 - (2 * cs.length + sizC cs)) 0)) ++ t)) 1
  rw [fixB_length] at this
  rw [this]
  show (UInt8.ofNat cs.length).toNat = _
  unfold fitC at hf
  rw [u8_ofNat]; omega
theorem PgL.kind {l : List UInt8} {no : Nat} {k : UInt8} {cs : List (List UInt8)} (h : PgL l no k cs) : at8 l 4 = k := by
  obtain ⟨hf, t, ht, rfl⟩ := h
  unfold bodyB headPg
  rw [List.append_assoc, List.append_assoc]
  have := at8_append_right (fixB no 4) ((k :: UInt8.ofNat cs.length :: w2 (sizC cs)) ++ ((endsB 0 cs ++ (cs.flatten ++ List.replicate (244 - (2 * cs.length + sizC cs)) 0)) ++ t)) 0
  rw [fixB_length] at this
  rw [this]; rfl
theorem PgL.size {l : List UInt8} {no : Nat} {k : UInt8} {cs : List (List UInt8)} (h : PgL l no k cs) : sizB l = sizC cs := by
  obtain ⟨hf, t, ht, rfl⟩ := h
  unfold sizB bodyB headPg
  rw [show (fixB no 4 ++ (k :: UInt8.ofNat cs.length :: w2 (sizC cs)) ++ (endsB 0 cs ++ (cs.flatten ++ List.replicate (244 - (2 * cs.length + sizC cs)) 0)) ++ t) = (fixB no 4 ++ [k, UInt8.ofNat cs.length]) ++ (w2 (sizC cs) ++ ((endsB 0 cs ++ (cs.flatten ++ List.replicate (244 - (2 * cs.length + sizC cs)) 0)) ++ t)) by simp]
  exact wordB_mid _ _ _ (by unfold fitC at hf; omega) _ (by rw [List.length_append, fixB_length]; rfl)
/-- Where a cell ends, in a list whose ends begin at 8. -/
theorem end_mid (H : List UInt8) (hH : H.length = 8) (t0 : Nat) (xs : List (List UInt8)) (c : List UInt8) (ys : List (List UInt8)) (R : List UInt8) (hs : t0 + sizC xs + c.length < 65536) :
    endB (H ++ (endsB t0 (xs ++ c :: ys) ++ R)) (xs.length : Int) = t0 + sizC xs + c.length := by
  rw [endB_nat, endsB_append, endsB]
  rw [show H ++ (endsB t0 xs ++ (w2 (t0 + sizC xs + c.length) ++ endsB (t0 + sizC xs + c.length) ys) ++ R) = (H ++ endsB t0 xs) ++ (w2 (t0 + sizC xs + c.length) ++ (endsB (t0 + sizC xs + c.length) ys ++ R)) by simp]
  exact wordB_mid _ _ _ hs _ (by rw [List.length_append, hH, endsB_length])
theorem PgL.endAt {l : List UInt8} {no : Nat} {k : UInt8} {cs : List (List UInt8)} (h : PgL l no k cs) (i : Nat) (hi : i ≤ cs.length) : endB l ((i : Int) - 1) = sizC (cs.take i) := by
  obtain ⟨hf, t, ht, rfl⟩ := h
  cases i with
  | zero => rfl
  | succ i =>
    have e : ((i + 1 : Nat) : Int) - 1 = (i : Int) := by omega
    rw [e]
    have hc : cs = cs.take i ++ cs[i] :: cs.drop (i + 1) := by rw [← List.drop_eq_getElem_cons (by omega), List.take_append_drop]
    have hlt : (cs.take i).length = i := by rw [List.length_take]; omega
    have hs : sizC (cs.take i) + cs[i].length ≤ sizC cs := by
      have := congrArg sizC hc
      rw [sizC_append, sizC_cons] at this
      omega
    unfold fitC at hf
    have := end_mid (headPg no k cs.length (sizC cs)) (headPg_length _ _ _ _) 0 (cs.take i) cs[i] (cs.drop (i + 1)) (cs.flatten ++ List.replicate (244 - (2 * cs.length + sizC cs)) 0 ++ t) (by omega)
    rw [← hc, hlt] at this
    have e2 : cs.take (i + 1) = cs.take i ++ [cs[i]] := by rw [List.take_succ_eq_append_getElem (by omega)]
    rw [e2, sizC_append]
    unfold bodyB
    simp only [List.append_assoc] at this ⊢
    rw [this, sizC_cons, sizC_nil]; omega
theorem sizC_take_le (cs : List (List UInt8)) (i j : Nat) (h : i ≤ j) : sizC (cs.take i) ≤ sizC (cs.take j) := by
  have : cs.take j = cs.take i ++ (cs.take j).drop i := by
    have := List.take_append_drop i (cs.take j)
    rw [List.take_take, Nat.min_eq_left h] at this
    exact this.symm
  rw [this, sizC_append]; omega
theorem PgL.sound {l : List UInt8} {no : Nat} {k : UInt8} {cs : List (List UInt8)} (h : PgL l no k cs) (hno : no ≤ 2147483647) (hk : k ≠ 0) : soundB l = true := by
  have hl := h.len
  have hc := h.count
  have hz := h.size
  have hki := h.kind
  have he := h.endAt
  have ht := h.take
  have h0 : (at8 l 0).toNat ≤ 127 := by
    obtain ⟨hf, t, _, rfl⟩ := h
    show (UInt8.ofNat (no / 256 ^ 3)).toNat ≤ 127
    rw [u8_ofNat]; omega
  have hf : 2 * cs.length + sizC cs ≤ 244 := h.1
  have e1 : endB l ((cntB l : Int) - 1) = sizB l := by rw [hc, hz, he _ (Nat.le_refl _), List.take_length]
  have e2 : riseB l (cntB l) = true := by
    unfold riseB
    rw [List.all_eq_true]
    intro i hi
    rw [List.mem_range, hc] at hi
    rw [decide_eq_true_eq]
    have h1 := he i (by omega)
    have h2 := he (i + 1) (by omega)
    rw [show ((i + 1 : Nat) : Int) - 1 = (i : Int) by omega] at h2
    rw [h1, h2]
    exact sizC_take_le _ _ _ (by omega)
  have e3 : zeroB ((l.take 252).drop (8 + 2 * cntB l + sizB l)) = true := by
    rw [ht, hc, hz]
    unfold bodyB
    rw [← List.append_assoc, ← List.append_assoc, List.drop_left' (by simp only [List.length_append, headPg_length, endsB_length, sizC_flatten])]
    exact zeroB_replicate _
  unfold soundB
  rw [e1, e2, e3]
  have hk' : decide (k ≠ 0) = true := by simpa using hk
  simp only [hl, h0, hki, hk', hc, hz, hf]
  rfl
/-- The bytes of a cell. -/
theorem PgL.cellAt {l : List UInt8} {no : Nat} {k : UInt8} {cs : List (List UInt8)} (h : PgL l no k cs) (i : Nat) (hi : i < cs.length) :
    (l.drop (8 + 2 * cs.length + sizC (cs.take i))).take (sizC (cs.take (i + 1)) - sizC (cs.take i)) = cs[i] := by
  obtain ⟨hf, t, ht, rfl⟩ := h
  have hc : cs = cs.take i ++ cs[i] :: cs.drop (i + 1) := by rw [← List.drop_eq_getElem_cons (by omega), List.take_append_drop]
  have e2 : cs.take (i + 1) = cs.take i ++ [cs[i]] := by rw [List.take_succ_eq_append_getElem (by omega)]
  have e3 : sizC (cs.take (i + 1)) - sizC (cs.take i) = cs[i].length := by rw [e2, sizC_append, sizC_cons, sizC_nil]; omega
  rw [e3]
  have e4 : cs.flatten = (cs.take i).flatten ++ (cs[i] ++ (cs.drop (i + 1)).flatten) := by
    conv => lhs; rw [hc]
    rw [List.flatten_append, List.flatten_cons]
  unfold bodyB
  rw [e4]
  rw [show headPg no k cs.length (sizC cs) ++ (endsB 0 cs ++ ((cs.take i).flatten ++ (cs[i] ++ (cs.drop (i + 1)).flatten) ++ List.replicate (244 - (2 * cs.length + sizC cs)) 0)) ++ t = (headPg no k cs.length (sizC cs) ++ endsB 0 cs ++ (cs.take i).flatten) ++ (cs[i] ++ ((cs.drop (i + 1)).flatten ++ List.replicate (244 - (2 * cs.length + sizC cs)) 0 ++ t)) by simp]
  rw [List.drop_left' (by simp only [List.length_append, headPg_length, endsB_length, sizC_flatten]), List.take_left' rfl]
end Go.Proofs.YtibhoekbjgoanaaDoor
