/- Pages, plain: the cells that the bytes of a page tell. -/
import Derived.Test.YtibhoekbjgoanaaDoorPageR
set_option linter.unusedSimpArgs false
set_option linter.unusedVariables false
namespace Go.Proofs.YtibhoekbjgoanaaDoor
open Go.RowKit Go.Proofs.YtibhoekbjgoanaaDoor.Crc
/-- The ends of the cells, as the bytes have them; the cells between them. -/
def eAt (l : List UInt8) (i : Nat) : Nat := endB l ((i : Int) - 1)
theorem eAt_zero (l : List UInt8) : eAt l 0 = 0 := rfl
theorem eAt_succ (l : List UInt8) (i : Nat) : eAt l (i + 1) = wordB l (8 + 2 * i) := by
  unfold eAt; rw [show ((i + 1 : Nat) : Int) - 1 = (i : Int) by omega, endB_nat]
def cellR (l : List UInt8) (N i : Nat) : List UInt8 := (l.drop (8 + 2 * N + eAt l i)).take (eAt l (i + 1) - eAt l i)
def cellsR (l : List UInt8) (N m : Nat) : List (List UInt8) := (List.range m).map (cellR l N)
theorem cellsR_succ (l : List UInt8) (N m : Nat) : cellsR l N (m + 1) = cellsR l N m ++ [cellR l N m] := by unfold cellsR; rw [List.range_succ, List.map_append]; rfl
theorem cellsR_len (l : List UInt8) (N m : Nat) : (cellsR l N m).length = m := by unfold cellsR; simp
/-- The ends rise, as far as the m-th cell's, and stay within s. -/
def upTo (l : List UInt8) (m s : Nat) : Prop := ∀ i, i < m → eAt l i ≤ eAt l (i + 1) ∧ eAt l (i + 1) ≤ s
theorem cellR_len (l : List UInt8) (N m s : Nat) (hl : l.length = 256) (hs : 8 + 2 * N + s ≤ 256) (h : upTo l (m + 1) s) : (cellR l N m).length = eAt l (m + 1) - eAt l m := by
  have := h m (by omega)
  unfold cellR
  rw [List.length_take, List.length_drop, hl]
  omega
theorem cellsR_size (l : List UInt8) (N m s : Nat) (hl : l.length = 256) (hs : 8 + 2 * N + s ≤ 256) (h : upTo l m s) : sizC (cellsR l N m) = eAt l m := by
  induction m with
  | zero => rfl
  | succ m ih =>
    have h1 := h m (by omega)
    rw [cellsR_succ, sizC_append, sizC_cons, sizC_nil, ih (fun i hi => h i (by omega)), cellR_len l N m s hl hs h]
    omega
theorem byteAt_w (l : List UInt8) (i : Nat) : w2 (wordB l i) = [at8 l i, at8 l (i + 1)] := by
  unfold w2 wordB
  have h1 := (at8 l i).toNat_lt
  have h2 := (at8 l (i + 1)).toNat_lt
  congr 1
  · apply UInt8.toNat_inj.1; rw [u8_ofNat]; omega
  · congr 1; apply UInt8.toNat_inj.1; rw [u8_ofNat]; omega
theorem take_two (l : List UInt8) (i : Nat) (h : i + 1 < l.length) : l.take (i + 2) = l.take i ++ [at8 l i, at8 l (i + 1)] := by
  rw [show i + 2 = (i + 1) + 1 from rfl, List.take_succ_eq_append_getElem h, List.take_succ_eq_append_getElem (show i < l.length by omega), at8_eq l i (by omega), at8_eq l (i + 1) h, List.append_assoc]
  rfl
theorem cellsR_ends (l : List UInt8) (N m s : Nat) (hl : l.length = 256) (hN : N ≤ 122) (hm : m ≤ N) (hs : 8 + 2 * N + s ≤ 256) (h : upTo l m s) : endsB 0 (cellsR l N m) = (l.drop 8).take (2 * m) := by
  induction m with
  | zero => rfl
  | succ m ih =>
    have h1 := h m (by omega)
    rw [cellsR_succ, endsB_append, ih (by omega) (fun i hi => h i (by omega)), cellsR_size l N m s hl hs (fun i hi => h i (by omega)), endsB, endsB, List.append_nil, cellR_len l N m s hl hs h]
    rw [show 0 + eAt l m + (eAt l (m + 1) - eAt l m) = eAt l (m + 1) by omega, eAt_succ, byteAt_w]
    rw [show 2 * (m + 1) = 2 * m + 2 by omega, take_two _ _ (by rw [List.length_drop]; omega), at8_drop, at8_drop]
    rfl
theorem cellsR_flat (l : List UInt8) (N m s : Nat) (hl : l.length = 256) (hs : 8 + 2 * N + s ≤ 256) (h : upTo l m s) : (cellsR l N m).flatten = (l.drop (8 + 2 * N)).take (eAt l m) := by
  induction m with
  | zero => rfl
  | succ m ih =>
    have h1 := h m (by omega)
    rw [cellsR_succ, List.flatten_append, ih (fun i hi => h i (by omega))]
    unfold cellR
    have e0 : l.drop (8 + 2 * N + eAt l m) = (l.drop (8 + 2 * N)).drop (eAt l m) := (List.drop_drop).symm
    rw [List.flatten_cons, List.flatten_nil, List.append_nil, e0]
    have := List.take_add (l := l.drop (8 + 2 * N)) (i := eAt l m) (j := eAt l (m + 1) - eAt l m)
    rw [show eAt l m + (eAt l (m + 1) - eAt l m) = eAt l (m + 1) by omega] at this
    rw [this]
theorem natB_fix4 (l : List UInt8) (h : 4 ≤ l.length) : fixB (natB (l.take 4)) 4 = l.take 4 := by
  match l, h with
  | a :: b :: c :: d :: r, _ =>
    show [byteAt (natB [a, b, c, d]) 3, byteAt (natB [a, b, c, d]) 2, byteAt (natB [a, b, c, d]) 1, byteAt (natB [a, b, c, d]) 0] = [a, b, c, d]
    have e : natB [a, b, c, d] = ((a.toNat * 256 + b.toNat) * 256 + c.toNat) * 256 + d.toNat := by unfold natB; simp
    rw [e]
    have ha := a.toNat_lt
    have hb := b.toNat_lt
    have hc := c.toNat_lt
    have hd := d.toNat_lt
    have k : ∀ (n : Nat) (x : UInt8), n % 256 = x.toNat → UInt8.ofNat n = x := fun n x hx => by apply UInt8.toNat_inj.1; rw [u8_ofNat, hx]
    unfold byteAt
    congr 1
    · exact k _ _ (by omega)
    · congr 1
      · exact k _ _ (by omega)
      · congr 1
        · exact k _ _ (by omega)
        · congr 1
          exact k _ _ (by omega)
/-- The bytes ahead of the rest are those of a page of these cells. -/
theorem parse_body (l : List UInt8) (N s : Nat) (hl : l.length = 256) (hN : cntB l = N) (hs : sizB l = s) (h244 : 2 * N + s ≤ 244) (h : upTo l N s) (hlast : eAt l N = s) :
    l.take (8 + 2 * N + s) = headPg (numP l) (at8 l 4) N s ++ (endsB 0 (cellsR l N N) ++ (cellsR l N N).flatten) := by
  rw [cellsR_ends l N N s hl (by omega) (Nat.le_refl _) (by omega) h, cellsR_flat l N N s hl (by omega) h, hlast]
  have e8 : l.take 8 = headPg (numP l) (at8 l 4) N s := by
    unfold headPg numP
    rw [natB_fix4 l (by omega)]
    have e1 : UInt8.ofNat N = at8 l 5 := by apply UInt8.toNat_inj.1; rw [u8_ofNat, ← hN]; unfold cntB; have := (at8 l 5).toNat_lt; omega
    have e2 : w2 s = [at8 l 6, at8 l 7] := by rw [← hs]; exact byteAt_w l 6
    rw [e1, e2]
    have t1 := take_two l 4 (by omega)
    have t2 := take_two l 6 (by omega)
    rw [show (4 : Nat) + 2 = 6 from rfl] at t1
    rw [show (6 : Nat) + 2 = 8 from rfl, t1] at t2
    rw [t2]
    simp
  rw [← e8, show 8 + 2 * N + s = 8 + (2 * N + s) by omega, List.take_add, List.take_add, List.drop_drop]
theorem sound_parse (l : List UInt8) (hS : soundB l = true) : PgL l (numP l) (at8 l 4) (cellsR l (cntB l) (cntB l)) := by
  unfold soundB at hS
  simp only [Bool.and_eq_true, decide_eq_true_eq] at hS
  obtain ⟨hl, _, _, h244, hlast, hrise, hz⟩ := hS
  have hup : upTo l (cntB l) (sizB l) := by
    have hmono : ∀ i, i < cntB l → eAt l i ≤ eAt l (i + 1) := by
      intro i hi
      unfold riseB at hrise
      rw [List.all_eq_true] at hrise
      have := hrise i (by rw [List.mem_range]; exact hi)
      rw [decide_eq_true_eq] at this
      unfold eAt
      rw [show ((i + 1 : Nat) : Int) - 1 = (i : Int) by omega]
      exact this
    have hle : ∀ d i, i + d = cntB l → eAt l i ≤ eAt l (cntB l) := by
      intro d
      induction d with
      | zero => intro i hi; rw [show i = cntB l by omega]; exact Nat.le_refl _
      | succ d ih => intro i hi; exact Nat.le_trans (hmono i (by omega)) (ih (i + 1) (by omega))
    intro i hi
    refine ⟨hmono i hi, ?_⟩
    have := hle (cntB l - (i + 1)) (i + 1) (by omega)
    rw [← hlast]; exact this
  have hb := parse_body l (cntB l) (sizB l) hl rfl rfl h244 hup hlast
  have hsz := cellsR_size l (cntB l) (cntB l) (sizB l) hl (by omega) hup
  have hlast' : eAt l (cntB l) = sizB l := hlast
  rw [hlast'] at hsz
  refine ⟨by unfold fitC; rw [cellsR_len, hsz]; exact h244, l.drop 252, by rw [List.length_drop, hl], ?_⟩
  have hrest : (l.take 252).drop (8 + 2 * cntB l + sizB l) = List.replicate (244 - (2 * cntB l + sizB l)) 0 := by
    have := List.eq_replicate_of_mem (a := (0 : UInt8)) (l := (l.take 252).drop (8 + 2 * cntB l + sizB l)) (fun x hx => by
      unfold zeroB at hz
      rw [List.all_eq_true] at hz
      simpa using hz x hx)
    rw [this, List.length_drop, List.length_take, hl]
    congr 1; omega
  have e1 : l.take 252 = l.take (8 + 2 * cntB l + sizB l) ++ (l.take 252).drop (8 + 2 * cntB l + sizB l) := by
    have := List.take_append_drop (8 + 2 * cntB l + sizB l) (l.take 252)
    rw [List.take_take, Nat.min_eq_left (by omega)] at this
    exact this.symm
  have e2 : l = l.take 252 ++ l.drop 252 := (List.take_append_drop 252 l).symm
  rw [e1, hrest, hb] at e2
  unfold bodyB
  rw [cellsR_len, hsz]
  simp only [List.append_assoc] at e2 ⊢
  exact e2
theorem sound_up (l : List UInt8) (hS : soundB l = true) : l.length = 256 ∧ (at8 l 0).toNat ≤ 127 ∧ at8 l 4 ≠ 0 ∧ 2 * cntB l + sizB l ≤ 244 ∧ upTo l (cntB l) (sizB l) ∧ eAt l (cntB l) = sizB l := by
  unfold soundB at hS
  simp only [Bool.and_eq_true, decide_eq_true_eq] at hS
  obtain ⟨hl, h0, h4, h244, hlast, hrise, hz⟩ := hS
  refine ⟨hl, h0, h4, h244, ?_, hlast⟩
  have hmono : ∀ i, i < cntB l → eAt l i ≤ eAt l (i + 1) := by
    intro i hi
    unfold riseB at hrise
    rw [List.all_eq_true] at hrise
    have := hrise i (by rw [List.mem_range]; exact hi)
    rw [decide_eq_true_eq] at this
    unfold eAt
    rw [show ((i + 1 : Nat) : Int) - 1 = (i : Int) by omega]
    exact this
  have hle : ∀ d i, i + d = cntB l → eAt l i ≤ eAt l (cntB l) := by
    intro d
    induction d with
    | zero => intro i hi; rw [show i = cntB l by omega]; exact Nat.le_refl _
    | succ d ih => intro i hi; exact Nat.le_trans (hmono i (by omega)) (ih (i + 1) (by omega))
  intro i hi
  refine ⟨hmono i hi, ?_⟩
  have := hle (cntB l - (i + 1)) (i + 1) (by omega)
  have hlast' : eAt l (cntB l) = sizB l := hlast
  rw [← hlast']; exact this
theorem numP_le (l : List UInt8) (hl : l.length = 256) (h0 : (at8 l 0).toNat ≤ 127) : numP l ≤ 2147483647 := by
  unfold numP
  match l, hl with
  | a :: b :: c :: d :: r, _ =>
    have ha : a.toNat ≤ 127 := h0
    have e : natB ((a :: b :: c :: d :: r).take 4) = ((a.toNat * 256 + b.toNat) * 256 + c.toNat) * 256 + d.toNat := by unfold natB; simp
    rw [e]
    have hb := b.toNat_lt
    have hc := c.toNat_lt
    have hd := d.toNat_lt
    omega
theorem parse_iff (l : List UInt8) (hl : l.length = 256) (h0 : (at8 l 0).toNat ≤ 127) (h4 : at8 l 4 ≠ 0) (h244 : 2 * cntB l + sizB l ≤ 244) (hup : upTo l (cntB l) (sizB l)) (hlast : eAt l (cntB l) = sizB l) :
    ((pageB (numP l) (at8 l 4) (cellsR l (cntB l) (cntB l))).take 252 = l.take 252) ↔ soundB l = true := by
  have hsz := cellsR_size l (cntB l) (cntB l) (sizB l) hl (by omega) hup
  rw [hlast] at hsz
  have hfit : fitC (cellsR l (cntB l) (cntB l)) := by unfold fitC; rw [cellsR_len, hsz]; exact h244
  constructor
  · intro h
    have hP : PgL l (numP l) (at8 l 4) (cellsR l (cntB l) (cntB l)) := by
      refine ⟨hfit, l.drop 252, by rw [List.length_drop, hl], ?_⟩
      rw [(pgl_page _ _ _ hfit).take] at h
      rw [h, List.take_append_drop]
    exact hP.sound (numP_le l hl h0) h4
  · intro h
    rw [(pgl_page _ _ _ hfit).take, (sound_parse l h).take]
theorem natB_one (l : List UInt8) (i : Nat) (h : i < l.length) : natB ((l.drop i).take 1) = (at8 l i).toNat := by
  have e : (l.drop i).take 1 = [at8 l i] := by rw [List.drop_eq_getElem_cons h, at8_eq l i h]; rfl
  rw [e]; simp [natB]
theorem natB_two (l : List UInt8) (i : Nat) (h : i + 1 < l.length) : natB ((l.drop i).take 2) = wordB l i := by
  have e : (l.drop i).take 2 = [at8 l i, at8 l (i + 1)] := by
    have := take_two (l.drop i) 0 (by rw [List.length_drop]; omega)
    rw [show (0 : Nat) + 2 = 2 from rfl, at8_drop, at8_drop] at this
    rw [this]; rfl
  rw [e]; unfold wordB; simp [natB]
end Go.Proofs.YtibhoekbjgoanaaDoor
