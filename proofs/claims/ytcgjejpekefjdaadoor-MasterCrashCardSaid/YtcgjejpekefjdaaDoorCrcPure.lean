/- The plain mathematics of the sums (CRC-32, bit by bit): the step down, its powers, the product of two polynomials, bursts. No program is in sight. -/
import Derived.WalkKit
namespace Go.Proofs.YtcgjejpekefjdaaDoor.Crc

def poly : BitVec 32 := 0xedb88320#32
/-- One bit down. -/
def D (x : BitVec 32) : BitVec 32 := (x >>> 1) ^^^ (if x.getLsbD 0 then poly else 0#32)
def Dn : Nat → BitVec 32 → BitVec 32
  | 0, x => x
  | n + 1, x => Dn n (D x)

theorem ite_xor {c d : Bool} (p : BitVec 32) : (if (c ^^ d) then p else 0#32) = (if c then p else 0#32) ^^^ (if d then p else 0#32) := by
  cases c <;> cases d <;> simp

theorem D_xor (a b : BitVec 32) : D (a ^^^ b) = D a ^^^ D b := by
  unfold D
  rw [BitVec.getLsbD_xor, ite_xor, BitVec.ushiftRight_xor_distrib]
  ac_rfl
theorem D_zero : D 0#32 = 0#32 := by decide
theorem Dn_xor (n : Nat) : ∀ a b : BitVec 32, Dn n (a ^^^ b) = Dn n a ^^^ Dn n b := by
  induction n with
  | zero => intro a b; rfl
  | succ n ih => intro a b; simp only [Dn, D_xor, ih]
theorem Dn_zero (n : Nat) : Dn n 0#32 = 0#32 := by
  induction n with
  | zero => rfl
  | succ n ih => simp only [Dn, D_zero, ih]
theorem Dn_add (m : Nat) : ∀ (n : Nat) (x : BitVec 32), Dn (m + n) x = Dn n (Dn m x) := by
  induction m with
  | zero => intro n x; simp [Dn]
  | succ m ih => intro n x; rw [show m + 1 + n = (m + n) + 1 by omega]; simp only [Dn, ih]
theorem Dn_one (x : BitVec 32) : Dn 1 x = D x := rfl
theorem Dn_succ' (n : Nat) (x : BitVec 32) : Dn (n + 1) x = D (Dn n x) := by rw [Dn_add n 1]; rfl
theorem Dn_D (n : Nat) (x : BitVec 32) : Dn n (D x) = D (Dn n x) := by rw [← Dn_succ']; rfl

theorem D_inj (a : BitVec 32) (h : D a = 0#32) : a = 0#32 := by
  unfold D at h
  by_cases c : a.getLsbD 0 = true
  · rw [if_pos c] at h
    have := congrArg (fun v => BitVec.getLsbD v 31) h
    simp only [BitVec.getLsbD_xor, BitVec.getLsbD_ushiftRight] at this
    have h31 : a.getLsbD (1 + 31) = false := BitVec.getLsbD_of_ge _ _ (by omega)
    rw [h31] at this
    exact absurd this (by decide)
  · rw [if_neg c] at h
    have hz : a >>> 1 = 0#32 := by simpa using h
    apply BitVec.eq_of_getLsbD_eq
    intro i hi
    cases i with
    | zero => simpa using c
    | succ i =>
      have := congrArg (fun v => BitVec.getLsbD v i) hz
      simp only [BitVec.getLsbD_ushiftRight] at this
      rw [Nat.add_comm]
      simpa using this
theorem Dn_inj (n : Nat) : ∀ a : BitVec 32, Dn n a = 0#32 → a = 0#32 := by
  induction n with
  | zero => intro a h; exact h
  | succ n ih => intro a h; exact D_inj _ (ih _ h)

/-! ### the table of sixteen -/
def halfL : List (BitVec 32) := [0x00000000#32, 0x1db71064#32, 0x3b6e20c8#32, 0x26d930ac#32, 0x76dc4190#32, 0x6b6b51f4#32, 0x4db26158#32, 0x5005713c#32,
  0xedb88320#32, 0xf00f9344#32, 0xd6d6a3e8#32, 0xcb61b38c#32, 0x9b64c2b0#32, 0x86d3d2d4#32, 0xa00ae278#32, 0xbdbdf21c#32]
def half (i : Nat) : BitVec 32 := halfL.getD i 0#32
/-- The table's entry for a number's low four bits; a plain definition, that the walk's simp does not look behind. -/
def halfOf (x : BitVec 32) : BitVec 32 := half (x &&& 15#32).toNat
theorem half_ok : ∀ i, i < 16 → Dn 4 (BitVec.ofNat 32 i) = half i := by decide

theorem D_even (a : BitVec 32) (h : a.getLsbD 0 = false) : D a = a >>> 1 := by unfold D; rw [h]; simp
theorem and15_lt (x : BitVec 32) : (x &&& 15#32).toNat < 16 := by
  rw [BitVec.toNat_and]; exact Nat.lt_of_le_of_lt Nat.and_le_right (by decide)
theorem D_low (x : BitVec 32) (k : Nat) (hk : k + 1 ≤ 4) (h : ∀ i, i < 4 - k → (x.getLsbD i) = false) : D x = x >>> 1 :=
  D_even x (h 0 (by omega))

theorem Dn4_high (x : BitVec 32) (h : ∀ i, i < 4 → x.getLsbD i = false) : Dn 4 x = x >>> 4 := by
  simp only [Dn]
  rw [D_even x (h 0 (by omega))]
  rw [D_even (x >>> 1) (by rw [BitVec.getLsbD_ushiftRight]; exact h 1 (by omega))]
  rw [D_even (x >>> 1 >>> 1) (by simp only [BitVec.getLsbD_ushiftRight]; exact h 2 (by omega))]
  rw [D_even (x >>> 1 >>> 1 >>> 1) (by simp only [BitVec.getLsbD_ushiftRight]; exact h 3 (by omega))]
  apply BitVec.eq_of_getLsbD_eq
  intro i hi
  simp only [BitVec.getLsbD_ushiftRight]
  congr 1
  omega

theorem Dn4_eq (x : BitVec 32) : Dn 4 x = (x >>> 4) ^^^ half (x &&& 15#32).toNat := by
  have e : x = (x &&& 0xfffffff0#32) ^^^ (x &&& 15#32) := by
    apply BitVec.eq_of_getLsbD_eq
    intro i hi
    simp only [BitVec.getLsbD_xor, BitVec.getLsbD_and]
    have : ∀ i, i < 32 → (BitVec.getLsbD 0xfffffff0#32 i ^^ BitVec.getLsbD 15#32 i) = true := by decide
    have h3 := this i hi
    revert h3
    generalize BitVec.getLsbD 0xfffffff0#32 i = p
    generalize BitVec.getLsbD 15#32 i = q
    cases p <;> cases q <;> simp
  have h1 : Dn 4 (x &&& 0xfffffff0#32) = x >>> 4 := by
    rw [Dn4_high]
    · apply BitVec.eq_of_getLsbD_eq
      intro i hi
      simp only [BitVec.getLsbD_ushiftRight, BitVec.getLsbD_and]
      by_cases h : 4 + i < 32
      · have : ∀ j, j < 28 → BitVec.getLsbD 0xfffffff0#32 (4 + j) = true := by decide
        rw [this i (by omega)]; simp
      · rw [BitVec.getLsbD_of_ge x _ (by omega)]; simp
    · intro i hi
      have : ∀ j, j < 4 → BitVec.getLsbD 0xfffffff0#32 j = false := by decide
      simp [BitVec.getLsbD_and, this i hi]
  have h2 : Dn 4 (x &&& 15#32) = half (x &&& 15#32).toNat := by
    rw [← half_ok _ (and15_lt x), BitVec.ofNat_toNat, BitVec.setWidth_eq]
  conv => lhs; rw [e, Dn_xor, h1, h2]

/-- A byte taken in. -/
def stepB (h : BitVec 32) (c : UInt8) : BitVec 32 := Dn 8 (h ^^^ c.toBitVec.setWidth 32)
def sumB (h : BitVec 32) (l : List UInt8) : BitVec 32 := l.foldl stepB h
def ones : BitVec 32 := 0xffffffff#32
def crc (l : List UInt8) : BitVec 32 := ~~~ sumB ones l

theorem stepB_eq (h : BitVec 32) (c : UInt8) : stepB h c =
    ((((h ^^^ c.toBitVec.setWidth 32) >>> 4) ^^^ halfOf (h ^^^ c.toBitVec.setWidth 32)) >>> 4) ^^^
      halfOf ((((h ^^^ c.toBitVec.setWidth 32) >>> 4) ^^^ halfOf (h ^^^ c.toBitVec.setWidth 32))) := by
  unfold halfOf
  unfold stepB
  rw [show ∀ x, Dn 8 x = Dn 4 (Dn 4 x) from fun x => Dn_add 4 4 x, Dn4_eq, Dn4_eq]

theorem sumB_append (h : BitVec 32) (a b : List UInt8) : sumB h (a ++ b) = sumB (sumB h a) b := by simp [sumB]
theorem sumB_snoc (h : BitVec 32) (a : List UInt8) (c : UInt8) : sumB h (a ++ [c]) = stepB (sumB h a) c := by simp [sumB]
theorem sumB_cons (h : BitVec 32) (c : UInt8) (l : List UInt8) : sumB h (c :: l) = sumB (stepB h c) l := rfl

/-! ### linear -/
theorem stepB_xor (g h : BitVec 32) (c d : UInt8) : stepB (g ^^^ h) (c ^^^ d) = stepB g c ^^^ stepB h d := by
  unfold stepB
  rw [← Dn_xor]
  congr 1
  rw [UInt8.toBitVec_xor, BitVec.setWidth_xor]
  ac_rfl

def xorL : List UInt8 → List UInt8 → List UInt8
  | a :: l, b :: m => (a ^^^ b) :: xorL l m
  | _, _ => []
theorem sumB_xorL : ∀ (l m : List UInt8) (g h : BitVec 32), l.length = m.length → sumB (g ^^^ h) (xorL l m) = sumB g l ^^^ sumB h m
  | [], [], g, h, _ => rfl
  | a :: l, b :: m, g, h, e => by
    rw [xorL, sumB_cons, sumB_cons, sumB_cons, stepB_xor]
    exact sumB_xorL l m _ _ (by simpa using e)

theorem stepB_zero (h : BitVec 32) : stepB h 0 = Dn 8 h := by unfold stepB; simp
theorem sumB_zeros (n : Nat) : ∀ h, sumB h (List.replicate n 0) = Dn (8 * n) h := by
  induction n with
  | zero => intro h; rfl
  | succ n ih =>
    intro h
    rw [List.replicate_succ, sumB_cons, ih, stepB_zero, ← Dn_add]
    congr 1
    omega

theorem sumB_split (l : List UInt8) (g h : BitVec 32) : sumB (g ^^^ h) l = sumB g l ^^^ Dn (8 * l.length) h := by
  have := sumB_xorL l (List.replicate l.length 0) g h (by simp)
  rw [sumB_zeros] at this
  rw [← this]
  congr 1
  clear this
  induction l with
  | nil => rfl
  | cons a l ih => simp only [List.length_cons, List.replicate_succ, xorL]; rw [← ih]; simp

/-! ### the product -/
def Mt : Nat → BitVec 32 → BitVec 32 → BitVec 32
  | 0, _, _ => 0#32
  | k + 1, a, b => (if a.getLsbD 31 then b else 0#32) ^^^ Mt k (a <<< 1) (D b)
def times (a b : BitVec 32) : BitVec 32 := Mt 32 a b
def e0 : BitVec 32 := 0x80000000#32

theorem Mt_zero (k : Nat) : ∀ b, Mt k 0#32 b = 0#32 := by
  induction k with
  | zero => intro b; rfl
  | succ k ih => intro b; simp only [Mt]; rw [show (0#32 <<< 1) = 0#32 by decide, ih]; simp

theorem Mt_map (F : BitVec 32 → BitVec 32) (hx : ∀ a b, F (a ^^^ b) = F a ^^^ F b) (hz : F 0#32 = 0#32) (hD : ∀ a, F (D a) = D (F a)) (k : Nat) :
    ∀ a b, F (Mt k a b) = Mt k a (F b) := by
  induction k with
  | zero => intro a b; exact hz
  | succ k ih =>
    intro a b
    simp only [Mt]
    rw [hx, ih, hD]
    congr 1
    split <;> simp [hz]

theorem Mt_xor_right (k : Nat) : ∀ a b c, Mt k a (b ^^^ c) = Mt k a b ^^^ Mt k a c := by
  induction k with
  | zero => intro a b c; simp [Mt]
  | succ k ih =>
    intro a b c
    simp only [Mt, D_xor, ih]
    split
    · ac_rfl
    · simp

theorem Mt_xor_left (k : Nat) : ∀ a a' b, Mt k (a ^^^ a') b = Mt k a b ^^^ Mt k a' b := by
  induction k with
  | zero => intro a a' b; simp [Mt]
  | succ k ih =>
    intro a a' b
    simp only [Mt, BitVec.getLsbD_xor, BitVec.shiftLeft_xor_distrib, ih, ite_xor]
    ac_rfl

theorem Mt_end (k : Nat) : ∀ a b, k ≤ 31 → Mt (k + 1) a b = Mt k a b ^^^ (if a.getLsbD (31 - k) then Dn k b else 0#32) := by
  induction k with
  | zero => intro a b _; simp [Mt, Dn]
  | succ k ih =>
    intro a b hk
    rw [Mt, ih _ _ (by omega)]
    conv => rhs; rw [Mt]
    have e : (a <<< 1).getLsbD (31 - k) = a.getLsbD (31 - (k + 1)) := by
      rw [BitVec.getLsbD_shiftLeft]
      have h1 : decide (31 - k < 32) = true := by simp; omega
      have h2 : decide (31 - k < 1) = false := by simp; omega
      rw [h1, h2, show 31 - k - 1 = 31 - (k + 1) by omega]
      simp
    rw [e]
    simp only [Dn]
    ac_rfl

theorem Mt_congr (k : Nat) : ∀ a a' b, k ≤ 32 → (∀ i, 32 - k ≤ i → i < 32 → a.getLsbD i = a'.getLsbD i) → Mt k a b = Mt k a' b := by
  induction k with
  | zero => intro a a' b _ _; rfl
  | succ k ih =>
    intro a a' b hk h
    rw [Mt_end _ _ _ (by omega), Mt_end _ _ _ (by omega), ih a a' b (by omega) (fun i h1 h2 => h i (by omega) h2), h (31 - k) (by omega) (by omega)]

theorem Dn_e0 : ∀ k, k < 32 → Dn k e0 = 1#32 <<< (31 - k) := by decide

theorem Mt_e0_bit (k : Nat) : ∀ a i, k ≤ 32 → i < 32 → (Mt k a e0).getLsbD i = (decide (32 - k ≤ i) && a.getLsbD i) := by
  induction k with
  | zero => intro a i _ hi; simp [Mt]; omega
  | succ k ih =>
    intro a i hk hi
    rw [Mt_end _ _ _ (by omega), BitVec.getLsbD_xor, ih a i (by omega) hi, Dn_e0 k (by omega)]
    by_cases h1 : i = 31 - k
    · subst h1
      have : decide (32 - k ≤ 31 - k) = false := by simp; omega
      rw [this]
      have : decide (32 - (k + 1) ≤ 31 - k) = true := by simp
      rw [this]
      have one : (1#32 <<< (31 - k)).getLsbD (31 - k) = true := by
        rw [BitVec.getLsbD_shiftLeft]; simp; omega
      split <;> simp_all
    · have : (if a.getLsbD (31 - k) = true then 1#32 <<< (31 - k) else 0#32).getLsbD i = false := by
        split
        · rw [BitVec.getLsbD_shiftLeft]
          by_cases h2 : i < 31 - k
          · simp [h2]
          · have : (1#32).getLsbD (i - (31 - k)) = false := by
              have : i - (31 - k) ≠ 0 := by omega
              simp [this]
            rw [this]; simp
        · simp
      rw [this]
      have : decide (32 - k ≤ i) = decide (32 - (k + 1) ≤ i) := by
        apply decide_eq_decide.mpr; omega
      rw [this]; simp

theorem times_e0 (a : BitVec 32) : times a e0 = a := by
  apply BitVec.eq_of_getLsbD_eq
  intro i hi
  rw [times, Mt_e0_bit 32 a i (by omega) hi]; simp

theorem times_poly (b : BitVec 32) : times poly b = Dn 32 b := by
  have h := Mt_map (fun x => times poly x) (fun a b => Mt_xor_right 32 poly a b) (by decide)
    (fun a => (Mt_map D D_xor D_zero (fun _ => rfl) 32 poly a).symm) 32 b e0
  rw [show Mt 32 b e0 = b from times_e0 b, show times poly e0 = Dn 32 e0 by decide] at h
  rw [h, ← Mt_map (Dn 32) (Dn_xor 32) (Dn_zero 32) (fun a => Dn_D 32 a) 32 b e0]
  exact congrArg (Dn 32) (times_e0 b)

theorem times_D (a b : BitVec 32) : times (D a) b = D (times a b) := by
  have h1 : times (a >>> 1) b = Mt 31 a (D b) := by
    unfold times
    rw [Mt]
    have : (a >>> 1).getLsbD 31 = false := by rw [BitVec.getLsbD_ushiftRight]; exact BitVec.getLsbD_of_ge _ _ (by omega)
    rw [this]
    simp only [Bool.false_eq_true, if_false, BitVec.zero_xor]
    apply Mt_congr 31 _ _ _ (by omega)
    intro i hi h2
    rw [BitVec.getLsbD_shiftLeft, BitVec.getLsbD_ushiftRight]
    have e : 1 + (i - 1) = i := by omega
    rw [e]
    simp; omega
  have h2 : D (times a b) = Mt 31 a (D b) ^^^ (if a.getLsbD 0 then Dn 32 b else 0#32) := by
    unfold times
    rw [Mt_map D D_xor D_zero (fun _ => rfl), Mt_end 31 _ _ (by omega)]
    rfl
  rw [h2, ← h1]
  unfold D
  unfold times
  rw [Mt_xor_left]
  congr 1
  cases a.getLsbD 0 with
  | true => exact times_poly b
  | false => exact Mt_zero 32 b

theorem times_Dn (n : Nat) : ∀ a b, times (Dn n a) b = Dn n (times a b) := by
  induction n with
  | zero => intro a b; rfl
  | succ n ih => intro a b; rw [Dn, Dn, ih, times_D]

theorem times_one (b : BitVec 32) : times e0 b = b := by
  unfold times
  rw [Mt, show (e0 <<< 1) = 0#32 by decide, Mt_zero]
  simp [e0]

/-- The power of eight times n. -/
def pow8 (n : Nat) : BitVec 32 := Dn (8 * n) e0
theorem times_pow8 (n : Nat) (b : BitVec 32) : times (pow8 n) b = Dn (8 * n) b := by rw [pow8, times_Dn, times_one]

def noughts (a : BitVec 32) (n : Int) : BitVec 32 := ~~~ Dn (8 * n.toNat) (~~~ a)
def join (a b : BitVec 32) (n : Int) : BitVec 32 := Dn (8 * n.toNat) a ^^^ b

theorem not_eq (a : BitVec 32) : ~~~ a = a ^^^ ones := by
  rw [show ones = BitVec.allOnes 32 by decide, BitVec.xor_allOnes]

theorem noughts_eq (a : BitVec 32) (n : Int) : noughts a n = Dn (8 * n.toNat) a ^^^ noughts 0#32 n := by
  simp only [noughts, not_eq, Dn_xor, Dn_zero]
  simp
  ac_rfl

theorem join_noughts (a b : BitVec 32) (n : Int) : join a b n = noughts a n ^^^ b ^^^ noughts 0#32 n := by
  rw [noughts_eq a, join]
  have : ∀ x y z : BitVec 32, x ^^^ y = x ^^^ z ^^^ y ^^^ z := by
    intro x y z
    have : x ^^^ z ^^^ y ^^^ z = x ^^^ y ^^^ (z ^^^ z) := by ac_rfl
    rw [this]; simp
  exact this _ _ _

theorem noughts_noughts (a : BitVec 32) (n m : Int) (hn : 0 ≤ n) (hm : 0 ≤ m) : noughts (noughts a n) m = noughts a (n + m) := by
  simp only [noughts, BitVec.not_not]
  rw [← Dn_add]
  congr 2
  omega
theorem noughts_none (a : BitVec 32) (n : Int) (h : n ≤ 0) : noughts a n = a := by
  rw [noughts, show n.toNat = 0 by omega]
  simp [Dn]
theorem join_zero (b : BitVec 32) (n : Int) : join 0#32 b n = b := by rw [join, Dn_zero]; simp

theorem crc_append (a b : List UInt8) : crc (a ++ b) = join (crc a) (crc b) b.length := by
  simp only [crc, join, sumB_append, not_eq, Int.toNat_natCast]
  rw [Dn_xor]
  have h := sumB_split b ones (sumB ones a ^^^ ones)
  rw [Dn_xor] at h
  have e : ones ^^^ (sumB ones a ^^^ ones) = sumB ones a := by
    rw [show ones ^^^ (sumB ones a ^^^ ones) = sumB ones a ^^^ (ones ^^^ ones) by ac_rfl]; simp
  rw [e] at h
  rw [h]
  ac_rfl

end Go.Proofs.YtcgjejpekefjdaaDoor.Crc
