/- The plain mathematics of bursts: bits turned within 32 running are seen. -/
import Derived.Test.YtibhoekbjgoanaaDoorCrcK
namespace Go.Proofs.YtibhoekbjgoanaaDoor.Crc
open Go.Proofs.YtibhoekbjgoanaaDoor
set_option linter.unusedSimpArgs false
set_option linter.unusedVariables false

/-! ### a sealed text's sum over all its bytes is one and the same -/
theorem byteOf_eq (x : BitVec 32) : (byteOf x).toBitVec = x.setWidth 8 := rfl
theorem Dn_shl (r : Nat) : ∀ x : BitVec 32, (∀ i, 32 - r ≤ i → i < 32 → x.getLsbD i = false) → r ≤ 32 → Dn r (x <<< r) = x := by
  induction r with
  | zero => intro x _ _; simp [Dn]
  | succ r ih =>
    intro x h hr
    rw [Dn, Nat.add_comm r 1, BitVec.shiftLeft_add]
    rw [D_even _ (by rw [← BitVec.shiftLeft_add, BitVec.getLsbD_shiftLeft]; simp)]
    have e : x <<< 1 <<< r >>> 1 = x <<< r := by
      apply BitVec.eq_of_getLsbD_eq
      intro i hi
      rw [BitVec.getLsbD_ushiftRight, ← BitVec.shiftLeft_add, BitVec.getLsbD_shiftLeft, BitVec.getLsbD_shiftLeft]
      by_cases h1 : i < r
      · have h2 : 1 + i < 1 + r := by omega
        simp [h1, h2]
      · have h2 : ¬ (1 + i < 1 + r) := by omega
        have e1 : 1 + i - (1 + r) = i - r := by omega
        by_cases h3 : 1 + i < 32
        · simp [h1, h2, h3, hi, e1]
        · have : x.getLsbD (i - r) = false := h (i - r) (by omega) (by omega)
          simp [h1, h2, h3, hi, this]
    rw [e]
    exact ih x (fun i h1 h2 => h i (by omega) h2) (by omega)

theorem sumB_le4 (h x : BitVec 32) : sumB h (le4 x) = Dn 32 (h ^^^ x) := by
  -- x as four bytes, each in its place
  have e : x = (x.setWidth 8).setWidth 32 ^^^ (((x >>> 8).setWidth 8).setWidth 32 <<< 8 ^^^ (((x >>> 16).setWidth 8).setWidth 32 <<< 16 ^^^ ((x >>> 24).setWidth 8).setWidth 32 <<< 24)) := by
    apply BitVec.eq_of_getLsbD_eq
    intro i hi
    simp only [BitVec.getLsbD_xor, BitVec.getLsbD_setWidth, BitVec.getLsbD_shiftLeft, BitVec.getLsbD_ushiftRight]
    by_cases h1 : i < 8
    · have : ¬ (32 ≤ i) := by omega
      simp [h1, show i < 16 by omega, show i < 24 by omega, hi]
    · by_cases h2 : i < 16
      · simp [h1, h2, show i < 24 by omega, hi, show i - 8 < 8 by omega, show i - 8 < 32 by omega, show 8 + (i - 8) = i by omega]
      · by_cases h3 : i < 24
        · simp [h1, h2, h3, hi, show ¬ (i - 8 < 8) by omega, show i - 16 < 8 by omega, show i - 16 < 32 by omega, show 16 + (i - 16) = i by omega]
        · simp [h1, h2, h3, hi, show ¬ (i - 8 < 8) by omega, show ¬ (i - 16 < 8) by omega, show i - 24 < 8 by omega, show i - 24 < 32 by omega, show 24 + (i - 24) = i by omega]
  have s8 : ∀ y : BitVec 8, ∀ r, r ≤ 24 → Dn r (y.setWidth 32 <<< r) = y.setWidth 32 := fun y r hr => Dn_shl r _ (fun i h1 h2 => by
    rw [BitVec.getLsbD_setWidth]
    have : y.getLsbD i = false := BitVec.getLsbD_of_ge _ _ (by omega)
    simp [this]) (by omega)
  unfold le4
  simp only [sumB, List.foldl_cons, List.foldl_nil, stepB, byteOf_eq]
  conv => rhs; rw [e]
  have d : ∀ y, Dn 32 y = Dn 8 (Dn 8 (Dn 8 (Dn 8 y))) := fun y => by rw [← Dn_add, ← Dn_add, ← Dn_add]
  have d16 : ∀ y, Dn 8 (Dn 8 y) = Dn 16 y := fun y => by rw [← Dn_add]
  have d24 : ∀ y, Dn 8 (Dn 8 (Dn 8 y)) = Dn 24 y := fun y => by rw [← Dn_add, ← Dn_add]
  rw [d]
  have a1 := s8 ((x >>> 8).setWidth 8) 8 (by omega)
  have a2 := s8 ((x >>> 16).setWidth 8) 16 (by omega)
  have a3 := s8 ((x >>> 24).setWidth 8) 24 (by omega)
  rw [← d16] at a2
  rw [← d24] at a3
  simp only [Dn_xor]
  rw [a1, a2, a3]
  ac_rfl

theorem le4_inj {x y : BitVec 32} (h : le4 x = le4 y) : x = y := by
  have h1 := sumB_le4 0#32 x
  have h2 := sumB_le4 0#32 y
  rw [h] at h1
  have h3 : Dn 32 (x ^^^ y) = 0#32 := by
    have := h1.symm.trans h2
    simp only [BitVec.zero_xor] at this
    rw [Dn_xor, this, BitVec.xor_self]
  have := Dn_inj 32 _ h3
  have e : x = (x ^^^ y) ^^^ y := by rw [BitVec.xor_assoc, BitVec.xor_self, BitVec.xor_zero]
  rw [e, this, BitVec.zero_xor]

theorem le4_any (a b c d : UInt8) : ∃ x, [a, b, c, d] = le4 x := by
  refine ⟨(a.toBitVec.setWidth 32) ^^^ (b.toBitVec.setWidth 32 <<< 8) ^^^ (c.toBitVec.setWidth 32 <<< 16) ^^^ (d.toBitVec.setWidth 32 <<< 24), ?_⟩
  unfold le4
  have key : ∀ (u : UInt8) (y : BitVec 32), (∀ i, i < 8 → y.getLsbD i = u.toBitVec.getLsbD i) → u = byteOf y := by
    intro u y h
    apply UInt8.toBitVec_inj.mp
    rw [byteOf_eq]
    apply BitVec.eq_of_getLsbD_eq
    intro i hi
    rw [BitVec.getLsbD_setWidth, h i hi]
    simp [hi]
  have big : ∀ (u : UInt8) (i : Nat), 8 ≤ i → u.toBitVec.getLsbD i = false := fun u i h => BitVec.getLsbD_of_ge _ _ h
  congr 1
  · apply key; intro i hi
    simp only [BitVec.getLsbD_xor, BitVec.getLsbD_setWidth, BitVec.getLsbD_shiftLeft]
    simp [hi, show i < 32 by omega, show i < 16 by omega, show i < 24 by omega]
  · congr 1
    · apply key; intro i hi
      simp only [BitVec.getLsbD_xor, BitVec.getLsbD_setWidth, BitVec.getLsbD_shiftLeft, BitVec.getLsbD_ushiftRight]
      have := big a (8 + i) (by omega)
      simp [hi, this, show 8 + i < 32 by omega, show 8 + i < 16 by omega, show 8 + i < 24 by omega, show i < 32 by omega]
    · congr 1
      · apply key; intro i hi
        simp only [BitVec.getLsbD_xor, BitVec.getLsbD_setWidth, BitVec.getLsbD_shiftLeft, BitVec.getLsbD_ushiftRight]
        have h1 := big a (16 + i) (by omega)
        have h2 := big b (16 + i - 8) (by omega)
        simp [hi, h1, h2, show 16 + i < 32 by omega, show 16 + i < 24 by omega, show i < 32 by omega]
      · congr 1
        apply key; intro i hi
        simp only [BitVec.getLsbD_xor, BitVec.getLsbD_setWidth, BitVec.getLsbD_shiftLeft, BitVec.getLsbD_ushiftRight]
        have h1 := big a (24 + i) (by omega)
        have h2 := big b (24 + i - 8) (by omega)
        have h3 := big c (24 + i - 16) (by omega)
        simp [hi, h1, h2, h3, show 24 + i < 32 by omega, show i < 32 by omega]

/-- Sealed, or not: by the sum over all the bytes. -/
theorem open_sum (n : Nat) (m : List UInt8) (h : m.length = n + 4) : (m.drop n = le4 (crc (m.take n))) ↔ sumB ones m = Dn 32 ones := by
  obtain ⟨x, hx⟩ : ∃ x, m.drop n = le4 x := by
    have hl : (m.drop n).length = 4 := by rw [List.length_drop]; omega
    match hd : m.drop n, hl with
    | [a, b, c, d], _ => exact le4_any a b c d
  have hs : sumB ones m = Dn 32 (sumB ones (m.take n) ^^^ x) := by
    conv => lhs; rw [← List.take_append_drop n m]
    rw [sumB_append, hx, sumB_le4]
  rw [hx, hs]
  constructor
  · intro e
    have := le4_inj e
    rw [this, crc, not_eq]
    congr 1
    generalize sumB ones (m.take n) = y
    rw [← BitVec.xor_assoc, BitVec.xor_self, BitVec.zero_xor]
  · intro e
    have h0 : Dn 32 ((sumB ones (m.take n) ^^^ x) ^^^ ones) = 0#32 := by rw [Dn_xor, e, BitVec.xor_self]
    have := Dn_inj 32 _ h0
    congr 1
    rw [crc, not_eq]
    generalize sumB ones (m.take n) = y at this
    have e2 : x = ((y ^^^ x) ^^^ ones) ^^^ (y ^^^ ones) := by
      have : ((y ^^^ x) ^^^ ones) ^^^ (y ^^^ ones) = x ^^^ (y ^^^ y) ^^^ (ones ^^^ ones) := by ac_rfl
      rw [this, BitVec.xor_self, BitVec.xor_self, BitVec.xor_zero, BitVec.xor_zero]
    rw [e2, this, BitVec.zero_xor]

theorem openB_ok (n : Nat) (m : List UInt8) (h : m.length = n + 4) (e : sumB ones m = Dn 32 ones) : openB m = (m.take n, 0) := by
  unfold openB
  rw [if_neg (by omega), h, Nat.add_sub_cancel, if_pos ((open_sum n m h).mpr e)]
theorem openB_no (n : Nat) (m : List UInt8) (h : m.length = n + 4) (e : ¬ sumB ones m = Dn 32 ones) : openB m = ([], 20) := by
  unfold openB
  rw [if_neg (by omega), h, Nat.add_sub_cancel, if_neg (fun x => e ((open_sum n m h).mp x))]
theorem sealB_sum (l : List UInt8) : sumB ones (sealB l) = Dn 32 ones := by
  have := open_sum l.length (sealB l) (by rw [sealB_length])
  apply this.mp
  unfold sealB
  rw [List.drop_left, List.take_left]

/-! ### one bit turned -/
def bit8 (r : Nat) : UInt8 := 1 <<< (UInt8.ofNat r)
def flip (l : List UInt8) (j : Nat) : List UInt8 := l.set (j / 8) (at8 l (j / 8) ^^^ bit8 (j % 8))
theorem flip_length (l : List UInt8) (j : Nat) : (flip l j).length = l.length := by simp [flip]
theorem bit8_step : ∀ r, r < 8 → (bit8 r).toBitVec.setWidth 32 = 1#32 <<< r := by decide

theorem set_xorL (l : List UInt8) : ∀ (q : Nat) (u : UInt8), q < l.length → l.set q (at8 l q ^^^ u) = xorL l (List.replicate q 0 ++ u :: List.replicate (l.length - q - 1) 0) := by
  have z : ∀ m : List UInt8, xorL m (List.replicate m.length 0) = m := by
    intro m
    induction m with
    | nil => rfl
    | cons a m ih => simp only [List.length_cons, List.replicate_succ, xorL, ih]; simp
  induction l with
  | nil => intro q u h; simp at h
  | cons a l ih =>
    intro q u h
    cases q with
    | zero => simp [xorL, at8, z]
    | succ q =>
      have := ih q u (by simpa using h)
      simp only [List.set_cons_succ, List.replicate_succ, List.cons_append, xorL, List.length_cons]
      rw [show l.length + 1 - (q + 1) - 1 = l.length - q - 1 by omega, ← this]
      simp [at8]

theorem Dn_one_bit (j : Nat) (h : j < 32) : Dn j (1#32 <<< j) = 1#32 :=
  Dn_shl j 1#32 (fun i h1 h2 => by
    have : i ≠ 0 := by omega
    simp [this]) (by omega)

theorem flip_sum (l : List UInt8) (j : Nat) (h : j < 8 * l.length) (g : BitVec 32) : sumB g (flip l j) = sumB g l ^^^ Dn (8 * l.length - j) 1#32 := by
  have hq : j / 8 < l.length := by omega
  unfold flip
  rw [set_xorL l (j / 8) (bit8 (j % 8)) hq]
  have hl : (List.replicate (j / 8) (0 : UInt8) ++ bit8 (j % 8) :: List.replicate (l.length - j / 8 - 1) 0).length = l.length := by simp; omega
  have := sumB_xorL l (List.replicate (j / 8) (0 : UInt8) ++ bit8 (j % 8) :: List.replicate (l.length - j / 8 - 1) 0) g 0#32 hl.symm
  rw [BitVec.xor_zero] at this
  rw [this]
  congr 1
  rw [sumB_append, sumB_zeros, Dn_zero, sumB_cons, sumB_zeros]
  unfold stepB
  rw [BitVec.zero_xor, bit8_step (j % 8) (by omega), ← Dn_add]
  have e : 8 + 8 * (l.length - j / 8 - 1) = j % 8 + (8 * l.length - j) := by omega
  rw [e, Dn_add, Dn_one_bit (j % 8) (by omega)]

/-! ### a burst -/
def bst (bits : BitVec 32) (k N : Nat) : Nat → List UInt8 → List UInt8
  | 0, l => l
  | i + 1, l => if bits.getLsbD i && decide (k + i < N) then flip (bst bits k N i l) (k + i) else bst bits k N i l
def turned (bits : BitVec 32) (k N : Nat) : Nat → Bool
  | 0 => false
  | i + 1 => turned bits k N i || (bits.getLsbD i && decide (k + i < N))
def pm (bits : BitVec 32) (k N : Nat) : Nat → BitVec 32
  | 0 => 0#32
  | i + 1 => if bits.getLsbD i && decide (k + i < N) then pm bits k N i ^^^ (1#32 <<< i) else pm bits k N i

theorem bst_length (bits : BitVec 32) (k N : Nat) (l : List UInt8) : ∀ i, (bst bits k N i l).length = l.length
  | 0 => rfl
  | i + 1 => by rw [bst]; split <;> simp [flip_length, bst_length bits k N l i]
theorem pm_bit (bits : BitVec 32) (k N : Nat) : ∀ i, i ≤ 32 → ∀ j, j < 32 → (pm bits k N i).getLsbD j = (decide (j < i) && (bits.getLsbD j && decide (k + j < N)))
  | 0, _, j, _ => by simp [pm]
  | i + 1, hi, j, hj => by
    have ih := pm_bit bits k N i (by omega) j hj
    have one : (1#32 <<< i).getLsbD j = decide (j = i) := by
      rw [BitVec.getLsbD_shiftLeft]
      by_cases h1 : j < i
      · have : j ≠ i := by omega
        simp [h1, this]
      · by_cases h2 : j = i
        · subst h2; simp [hj]
        · have : j - i ≠ 0 := by omega
          simp [h1, h2, this]
    rw [pm]
    by_cases hc : (bits.getLsbD i && decide (k + i < N)) = true
    · rw [if_pos hc, BitVec.getLsbD_xor, ih, one]
      by_cases h2 : j = i
      · subst h2; simp only [hc]; simp
      · have : decide (j < i) = decide (j < i + 1) := decide_eq_decide.mpr (by omega)
        simp [h2, this]
    · rw [if_neg hc, ih]
      by_cases h2 : j = i
      · subst h2
        have : (bits.getLsbD j && decide (k + j < N)) = false := by simpa using hc
        rw [this]; simp
      · have : decide (j < i) = decide (j < i + 1) := decide_eq_decide.mpr (by omega)
        rw [this]
theorem turned_iff (bits : BitVec 32) (k N : Nat) : ∀ i, turned bits k N i = true ↔ ∃ j, j < i ∧ (bits.getLsbD j && decide (k + j < N)) = true
  | 0 => by simp [turned]
  | i + 1 => by
    rw [turned, Bool.or_eq_true, turned_iff bits k N i]
    constructor
    · rintro (⟨j, h1, h2⟩ | h)
      · exact ⟨j, by omega, h2⟩
      · exact ⟨i, by omega, h⟩
    · rintro ⟨j, h1, h2⟩
      by_cases h : j = i
      · subst h; exact Or.inr h2
      · exact Or.inl ⟨j, by omega, h2⟩
theorem pm_zero (bits : BitVec 32) (k N i : Nat) (hi : i ≤ 32) : pm bits k N i = 0#32 ↔ turned bits k N i = false := by
  constructor
  · intro h
    cases ht : turned bits k N i with
    | false => rfl
    | true =>
      obtain ⟨j, h1, h2⟩ := (turned_iff bits k N i).mp ht
      have := pm_bit bits k N i hi j (by omega)
      rw [h, h2] at this
      simp [h1] at this
  · intro h
    apply BitVec.eq_of_getLsbD_eq
    intro j hj
    rw [pm_bit bits k N i hi j hj]
    by_cases h1 : j < i
    · have : ¬ (bits.getLsbD j && decide (k + j < N)) = true := fun h2 => by
        have := (turned_iff bits k N i).mpr ⟨j, h1, h2⟩
        rw [h] at this; cases this
      have : (bits.getLsbD j && decide (k + j < N)) = false := by simpa using this
      rw [this]; simp
    · simp [h1]
theorem bst_sum (bits : BitVec 32) (k : Nat) (l : List UInt8) (g : BitVec 32) : ∀ i, i ≤ 32 → sumB g (bst bits k (8 * l.length) i l) = sumB g l ^^^ Dn (8 * l.length - k) (pm bits k (8 * l.length) i)
  | 0, _ => by simp [bst, pm, Dn_zero]
  | i + 1, hi => by
    have ih := bst_sum bits k l g i (by omega)
    rw [bst, pm]
    by_cases hc : (bits.getLsbD i && decide (k + i < 8 * l.length)) = true
    · rw [if_pos hc, if_pos hc]
      have hlt : k + i < 8 * l.length := by simp at hc; exact hc.2
      rw [flip_sum _ _ (by rw [bst_length]; exact hlt), ih, bst_length, Dn_xor, BitVec.xor_assoc]
      congr 2
      rw [show 8 * l.length - k = i + (8 * l.length - (k + i)) by omega, Dn_add, Dn_one_bit i (by omega)]
    · rw [if_neg hc, if_neg hc, ih]
theorem bst_still (bits : BitVec 32) (k N : Nat) (l : List UInt8) : ∀ i, turned bits k N i = false → bst bits k N i l = l
  | 0, _ => rfl
  | i + 1, h => by
    rw [turned, Bool.or_eq_false_iff] at h
    rw [bst, h.2, bst_still bits k N l i h.1]
    rfl

/-- WHAT IS TOLD OF A BURST. -/
theorem burst_open (l : List UInt8) (bits : BitVec 32) (k i : Nat) (hi : i ≤ 32) :
    openB (bst bits k (8 * (sealB l).length) i (sealB l)) = if turned bits k (8 * (sealB l).length) i then ([], 20) else (l, 0) := by
  cases ht : turned bits k (8 * (sealB l).length) i with
  | false =>
    rw [bst_still _ _ _ _ _ ht, openB_ok l.length (sealB l) (by rw [sealB_length]) (sealB_sum l)]
    unfold sealB
    rw [List.take_left]; rfl
  | true =>
    rw [openB_no l.length _ (by rw [bst_length, sealB_length])]
    · rfl
    · rw [bst_sum bits k (sealB l) ones i hi, sealB_sum]
      intro h
      have h0 : Dn (8 * (sealB l).length - k) (pm bits k (8 * (sealB l).length) i) = 0#32 := by
        have h2 : ∀ a b : BitVec 32, a ^^^ b = a → b = 0#32 := by
          intro a b h
          have : b = a ^^^ (a ^^^ b) := by rw [← BitVec.xor_assoc, BitVec.xor_self, BitVec.zero_xor]
          rw [this, h, BitVec.xor_self]
        exact h2 _ _ h
      have := (pm_zero bits k _ i hi).mp (Dn_inj _ _ h0)
      rw [ht] at this
      cases this

end Go.Proofs.YtibhoekbjgoanaaDoor.Crc
