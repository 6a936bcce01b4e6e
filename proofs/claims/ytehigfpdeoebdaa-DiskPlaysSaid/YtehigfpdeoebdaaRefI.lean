/- The document's disk: Lose. -/
import Derived.Test.YtehigfpdeoebdaaRefH
set_option linter.unusedSimpArgs false
set_option linter.unusedVariables false
namespace Go.Proofs.Ytehigfpdeoebdaa.Dsk
open Go.RowKit
def loseL (K : List Bool) (torn at_ : Int) (n : Nat) : Nat → List (Int × List UInt8) → List (List UInt8) → List (List UInt8)
  | _, [], h => h
  | k, e :: r, h => loseL K torn at_ n (k + 1) r (h.set e.1.toNat (loseS K torn at_ n k e.2 (atH h e.1.toNat)))
theorem loseL_snoc (K : List Bool) (torn at_ : Int) (n : Nat) (e : Int × List UInt8) : ∀ (l : List (Int × List UInt8)) (k : Nat) (h : List (List UInt8)),
    loseL K torn at_ n k (l ++ [e]) h = (loseL K torn at_ n k l h).set e.1.toNat (loseS K torn at_ n (k + l.length) e.2 (atH (loseL K torn at_ n k l h) e.1.toNat))
  | [], k, h => rfl
  | x :: l, k, h => by
    rw [List.cons_append, loseL, loseL_snoc K torn at_ n e l, loseL, List.length_cons, show k + 1 + l.length = k + (l.length + 1) by omega]
theorem loseL_length (K : List Bool) (torn at_ : Int) (n : Nat) : ∀ (l : List (Int × List UInt8)) (k : Nat) (h : List (List UInt8)), (loseL K torn at_ n k l h).length = h.length
  | [], k, h => rfl
  | e :: l, k, h => by rw [loseL, loseL_length K torn at_ n l]; simp
def RefM.lose (r : RefM) (K : List Bool) (torn at_ : Int) : RefM := ⟨loseL K torn at_ r.wait.length 0 r.wait r.held, [], 0, -1⟩
theorem bstr_take (l : List UInt8) (n : Nat) (h : n ≤ l.length) : (bstr l).extract 0 n = bstr (l.take n) := by
  unfold bstr
  apply ByteArray.ext
  rw [ByteArray.data_extract]
  simp
theorem bstr_drop (l : List UInt8) (n : Nat) (h : n ≤ l.length) : (bstr l).extract n (bstr l).size = bstr (l.drop n) := by
  unfold bstr
  apply ByteArray.ext
  rw [ByteArray.data_extract]
  simp only [ByteArray.size, List.size_toArray, List.extract_toArray, List.extract_eq_take_drop]
  rw [List.take_of_length_le (by simp)]
theorem bstr_append (a b : List UInt8) : bstr a ++ bstr b = bstr (a ++ b) := by
  unfold bstr
  apply ByteArray.ext
  simp
theorem own_nil {w : World} {base n c : Nat} {t : TypeId} {A : Option Addr} {vs : List Value} (h : OwnVs w base t (.slice A n c) vs) : A = none → c = 0 := by
  rintro rfl
  rcases h.form with ⟨h1, _⟩ | ⟨g, c', h1, _⟩
  · cases h1; rfl
  · cases h1
theorem own_vals {w : World} {base n c : Nat} {t : TypeId} {A : Option Addr} {vs : List Value} (h : OwnVs w base t (.slice A n c) vs) : ValsAt w A vs := by
  obtain ⟨A', c', h1, _, h2, _⟩ := h.sl
  injection h1 with h1 _ _
  rw [h1]; exact h2
theorem Bools.spot {w : World} {A : Option Addr} {K : List Bool} (h : Bools w A K) (k : Nat) (hk : k < K.length) : ∃ b o, A = some ⟨b, o, none⟩ ∧ w.cell? ⟨b, o + k, none⟩ = some (.bool K[k]) := by
  obtain ⟨ad, hA, hx⟩ := h k hk
  obtain ⟨ad', hA', hx0⟩ := h 0 (by omega)
  rw [hA] at hA'
  cases hA'
  obtain ⟨b, o, s⟩ := ad
  cases s with
  | none => exact ⟨b, o, hA, by rwa [Addr.add_lit] at hx⟩
  | some s =>
    exfalso
    simp only [World.cell?, Addr.add, if_true] at hx0
    split at hx0
    · first | cases hx0 | (rw [if_pos rfl] at hx0; cases hx0)
    · cases hx0
theorem strW_one (l : List (List UInt8)) : ∀ u ∈ l.map strW, u.oneCell' = true := by
  intro u hu
  obtain ⟨x, _, rfl⟩ := List.mem_map.1 hu
  rfl
set_option maxRecDepth 100000 in
set_option maxHeartbeats 2000000 in
theorem LoseR_bad {w : World} {base a : Nat} {hv wv : Value} {r : RefM} (h : RefAt w base a hv wv r) (kv : Value) (torn at_ : Int) (ht : 0 ≤ torn ∧ torn < r.wait.length) (ha : at_ < 0 ∨ 256 < at_) :
    Calls Try.prog 15 #[.pointer (some ⟨a, 0, none⟩), .agg #[kv, .int .i64 torn, .int .i64 at_]] w fun e w' => e = .returned (.tuple #[.pointer none, .int .i64 2]) ∧ Below w.heap.size w w' := by
  obtain ⟨B, c', rfl, _⟩ := h.wform
  have hws := h.ok.wsize
  obtain ⟨w1, hw1⟩ : ∃ w1, w.alloc (.cells #[kv, .int .i64 torn, .int .i64 at_] 33) = w1 := ⟨_, rfl⟩
  have HW1 := Lib.hid hw1
  have HB1 : Hid (Below w.heap.size w w1) := by rw [← hw1]; exact (Below.refl _ _).alloc (Nat.le_refl _) _
  have HA : Hid (RefAt w1 base a hv (.slice B r.wait.length c') r) := h.below HB1.out
  obtain ⟨q, hq⟩ : ∃ q, w.heap.size = q := ⟨_, rfl⟩
  have HQ := Lib.hid hq
  have hlb : w1.heap[q]? = some (.cells #[kv, .int .i64 torn, .int .i64 at_] 33 (0, 0)) := by rw [← hw1, ← hq]; exact heap_alloc_new w _
  have l1 : w1.cell? ⟨q, 1, none⟩ = some (.int .i64 torn) := by rw [cell_of_row _ _ _ _ _ _ hlb]; rfl
  have l2 : w1.cell? ⟨q, 2, none⟩ = some (.int .i64 at_) := by rw [cell_of_row _ _ _ _ _ _ hlb]; rfl
  have c1 := HA.out.c1
  clear h hlb hq
  have e0 : decide (torn ≥ (0 : Int)) = true := by simp; omega
  have e1 : decide (torn < (r.wait.length : Int)) = true := by simp; omega
  go_enter Try.func15, Try.ntmps15
  clear hw1
  go_wp2_with (with_reducible refine park_at (.box 33 _) ?_; intro pq hq)
  refine hq.out ?_
  clear hq
  refine Great.wpList_boxTo rfl 33 _ rfl _ rfl q HQ.out #[kv, .int .i64 torn, .int .i64 at_] rfl ?_
  rw [HW1.out]
  go_wp2_with fail
  go_quiet (fail)
  have HB2 : Hid (Below w.heap.size w (w1.drewN nq)) := HB1.out.trans ((below_drewN w1 nq).mono HB1.out.size)
  rcases ha with ha | ha
  · have e2 : decide (at_ < (0 : Int)) = true := by simpa using ha
    go_wp2
    go_ret2
    exact ⟨rfl, HB2.out⟩
  · have e2 : decide (at_ < (0 : Int)) = false := by simp; omega
    have e3 : decide (at_ > (256 : Int)) = true := by simpa using ha
    go_wp2
    go_ret2
    exact ⟨rfl, HB2.out⟩
set_option maxRecDepth 100000 in
set_option maxHeartbeats 2000000 in
theorem LoseR_ok {w : World} {base a : Nat} {hv wv : Value} {r : RefM} (h : RefAt w base a hv wv r) (Ak : Option Addr) (ck : Nat) (K : List Bool) (torn at_ : Int) (hK : Bools w Ak K) (hKl : K.length ≤ 9223372036854775807)
    (ht : 0 ≤ torn ∧ torn < r.wait.length → 0 ≤ at_ ∧ at_ ≤ 256) (ht2 : -9223372036854775808 ≤ torn ∧ torn ≤ 9223372036854775807) (ha2 : -9223372036854775808 ≤ at_ ∧ at_ ≤ 9223372036854775807) :
    Calls Try.prog 15 #[.pointer (some ⟨a, 0, none⟩), .agg #[.slice Ak K.length ck, .int .i64 torn, .int .i64 at_]] w (RetN w (r.lose K torn at_)) := by
  obtain ⟨A, c, rfl, _⟩ := h.hform
  obtain ⟨B, c', rfl, _⟩ := h.wform
  have hs := h.ok.size
  have hws := h.ok.wsize
  obtain ⟨w1, hw1⟩ : ∃ w1, w.alloc (.cells #[.slice Ak K.length ck, .int .i64 torn, .int .i64 at_] 33) = w1 := ⟨_, rfl⟩
  have HW1 := Lib.hid hw1
  have HB1 : Hid (Below w.heap.size w w1) := by rw [← hw1]; exact (Below.refl _ _).alloc (Nat.le_refl _) _
  have HA : Hid (RefAt w1 base a (.slice A r.held.length c) (.slice B r.wait.length c') r) := h.below HB1.out
  obtain ⟨q, hq⟩ : ∃ q, w.heap.size = q := ⟨_, rfl⟩
  have HQ := Lib.hid hq
  have hlb : w1.heap[q]? = some (.cells #[.slice Ak K.length ck, .int .i64 torn, .int .i64 at_] 33 (0, 0)) := by rw [← hw1, ← hq]; exact heap_alloc_new w _
  have l0 : w1.cell? ⟨q, 0, none⟩ = some (.slice Ak K.length ck) := by rw [cell_of_row _ _ _ _ _ _ hlb]; rfl
  have l1 : w1.cell? ⟨q, 1, none⟩ = some (.int .i64 torn) := by rw [cell_of_row _ _ _ _ _ _ hlb]; rfl
  have l2 : w1.cell? ⟨q, 2, none⟩ = some (.int .i64 at_) := by rw [cell_of_row _ _ _ _ _ _ hlb]; rfl
  have c1 := HA.out.c1
  have HK : Hid (Bools w1 Ak K) := hK.below HB1.out
  have H := Lib.hid h
  have HK0 := Lib.hid hK
  clear h hlb hq hK
  go_enter Try.func15, Try.ntmps15
  clear hw1
  go_wp2_with (with_reducible refine park_at (.box 33 _) ?_; intro pq hq)
  refine hq.out ?_
  clear hq
  refine Great.wpList_boxTo rfl 33 _ rfl _ rfl q HQ.out #[.slice Ak K.length ck, .int .i64 torn, .int .i64 at_] rfl ?_
  rw [HW1.out]
  have hd1 : Hid (Below w1.heap.size w1 w1.drew) := (Below.refl _ _).drew
  obtain ⟨tb, htb⟩ : ∃ tb : Bool, decide (0 ≤ torn ∧ torn < r.wait.length) = tb := ⟨_, rfl⟩
  have HTB := Lib.hid htb
  clear htb
  go_wp2_with fail
  go_cut [6] (fun s wc => s = .bool tb ∧ Hid (Below w1.heap.size w1 wc))
  case first =>
    by_cases h0 : 0 ≤ torn
    · have e0 : decide (torn ≥ (0 : Int)) = true := by simp; omega
      have e1 : decide (torn < (r.wait.length : Int)) = tb := by rw [← HTB.out]; simp [h0]
      go_quiet (fail)
      go_wp2
      go_meet
      case rel => exact ⟨rfl, below_drewN _ _⟩
    · have e0 : decide (torn ≥ (0 : Int)) = false := by simp; omega
      have e1 : tb = false := by rw [← HTB.out]; simp; omega
      go_quiet (fail)
      go_wp2
      go_meet
      case rel => exact ⟨by rw [e1], below_drewN _ _⟩
  case rest =>
    obtain ⟨rfl, HC⟩ := hcut
    have j0 : wc.cell? ⟨q, 0, none⟩ = some (.slice Ak K.length ck) := (HC.out.cell (World.block_lt_of_cell? w1 _ l0)).trans l0
    have j1 : wc.cell? ⟨q, 1, none⟩ = some (.int .i64 torn) := (HC.out.cell (World.block_lt_of_cell? w1 _ l1)).trans l1
    have j2 : wc.cell? ⟨q, 2, none⟩ = some (.int .i64 at_) := (HC.out.cell (World.block_lt_of_cell? w1 _ l2)).trans l2
    have HB2 : Hid (Below w.heap.size w wc) := HB1.out.trans (HC.out.mono HB1.out.size)
    have HA2 : Hid (RefAt wc base a (.slice A r.held.length c) (.slice B r.wait.length c') r) := HA.out.below HC.out
    have HK2 : Hid (Bools wc Ak K) := HK.out.below HC.out
    clear hd1 l0 l1 l2 c1 HA HK HC HB1 HW1
    have c0 := HA2.out.c0
    cases tb
    case' true =>
      have hat := ht (by have := HTB.out; simpa using this)
      have e2 : decide (at_ < (0 : Int)) = false := by simp; omega
      have e3 : decide (at_ > (256 : Int)) = false := by simp; omega
    all_goals
      have hlt : a < wc.heap.size := (HA2.out.foot a (.inl rfl)).2
      have hne : ¬ a = wc.heap.size := by omega
      go_wp2_with (with_reducible refine park_append ?_; intro pq hq6)
      refine hq6.out ?_
      clear hq6
      have hq1 : q < wc.heap.size := World.block_lt_of_cell? wc _ j1
      have hB3 : Below wc.heap.size wc (wc.alloc (.cells #[] 9)) := (Below.refl _ _).alloc (Nat.le_refl _) _
      have hA3 := HA2.out.below hB3
      have hL : OwnVs (wc.alloc (.cells #[] 9)) (q + 1) 9 (.slice (some ⟨wc.heap.size, 0, none⟩) 0 0) [] := OwnVs.lit wc (q + 1) hq1 [] (by decide)
      refine wpList_append_vals elS rfl _ _ rfl (q + 1) _ [] rfl hL A r.held.length c (r.held.map strW) rfl (by simp) (own_nil hA3.row) (own_vals hA3.row) (strW_one _) (by simp; omega) (by have := hB3.size; omega) ?_
      intro v' w4 HV
      have hB4 : Below wc.heap.size wc w4 := hB3.trans ((Kept.of_grown (S := fun k => wc.heap.size ≤ k) HV.out.2 (fun k hk => by cases hk; exact Nat.le_refl _)).below hB3.size (fun k hk hs => by omega))
      have HB4 := Lib.hid hB4
      have HO4 : Hid (OwnVs w4 (q + 1) 9 v' (r.held.map strW)) := by have := HV.out.1; rwa [List.nil_append] at this
      clear hB4 hL hA3 hB3 HV c0
      obtain ⟨p9, c9, e9, _⟩ := HO4.out.sl
      subst e9
      go_wp2_with fail
      have HB5 : Hid (Below wc.heap.size wc (w4.alloc (.cells #[.slice p9 (r.held.map strW).length c9, .slice none 0 0, .int .i64 0, .int .i64 (-1)] 57))) := HB4.out.alloc HB4.out.size _
      have HN : Hid ((w4.alloc (.cells #[.slice p9 (r.held.map strW).length c9, .slice none 0 0, .int .i64 0, .int .i64 (-1)] 57)).heap[w4.heap.size]? = some (.cells #[.slice p9 (r.held.map strW).length c9, .slice none 0 0, .int .i64 0, .int .i64 (-1)] 57 (0, 0))) := heap_alloc_new w4 _
      have HO5 : Hid (OwnVs (w4.alloc (.cells #[.slice p9 (r.held.map strW).length c9, .slice none 0 0, .int .i64 0, .int .i64 (-1)] 57)) (q + 1) 9 (.slice p9 (r.held.map strW).length c9) (r.held.map strW)) := HO4.out.below ((Below.refl _ _).alloc (Nat.le_refl _) _)
      have hx : q + 1 ≤ w4.heap.size := Nat.le_trans hq1 HB4.out.size
      rw [List.length_map] at HB5 HN HO5
      generalize (w4.alloc (.cells #[.slice p9 r.held.length c9, .slice none 0 0, .int .i64 0, .int .i64 (-1)] 57)) = w5 at HB5 HN HO5 ⊢
      generalize w4.heap.size = x at HN hx ⊢
      have HR5 : Hid (RefAt w5 (q + 1) x (.slice p9 r.held.length c9) (.slice none 0 0) ⟨r.held, [], 0, -1⟩) :=
        ⟨HN.out, HO5.out, ⟨rfl, .inl ⟨rfl, rfl⟩⟩, hx, ⟨H.out.ok.hlen, by simp, H.out.ok.size, by simp, by simp, by simp⟩⟩
      clear HN HO5 HO4 HB4 hx
      go_loopw [8] (fun s wr => ∃ j : Nat, j ≤ r.wait.length ∧ s = .int .i64 j ∧ Hid (RefAt wr (q + 1) x (.slice p9 r.held.length c9) (.slice none 0 0) ⟨loseL K torn at_ r.wait.length 0 (r.wait.take j) r.held, [], 0, -1⟩ ∧ Below (q + 1) wc wr)) (fun s _ => r.wait.length - (intOf s).toNat)
      case atStart => exact ⟨0, Nat.zero_le _, rfl, HR5.out, HB5.out.mono hq1⟩
      case round =>
        obtain ⟨j, hj, rfl, HR⟩ := hrel
        have HBr : Hid (Below w.heap.size w wr) := HB2.out.trans (HR.out.2.mono (by rw [HQ.out]; omega))
        have HAr : Hid (RefAt wr base a (.slice A r.held.length c) (.slice B r.wait.length c') r) := H.out.below HBr.out
        have k0 : wr.cell? ⟨q, 0, none⟩ = some (.slice Ak K.length ck) := (HR.out.2.cell (Nat.lt_succ_self q)).trans j0
        have k1 : wr.cell? ⟨q, 1, none⟩ = some (.int .i64 torn) := (HR.out.2.cell (Nat.lt_succ_self q)).trans j1
        have k2 : wr.cell? ⟨q, 2, none⟩ = some (.int .i64 at_) := (HR.out.2.cell (Nat.lt_succ_self q)).trans j2
        have c1 := HAr.out.c1
        by_cases hlt : j < r.wait.length
        · obtain ⟨B2, c2, hBB, hB⟩ := HAr.out.wform
          obtain ⟨g2, hg2, q0, q1, _⟩ := hB j hlt
          injection hBB with hB1 hB2 hB3
          clear hB2
          subst hB1
          subst hB3
          subst hg2
          have hel := H.out.ok.wlen _ (List.getElem_mem hlt)
          obtain ⟨e, he⟩ : ∃ e, r.wait[j] = e := ⟨_, rfl⟩
          have HEe := Lib.hid he
          rw [he] at q0 q1 hel
          go_upto_region 9 with fail
          have HB6 : Hid (Below wr.heap.size wr (wr.alloc (.cells #[.int .i64 e.1, .string (bstr e.2)] 68))) := (Below.refl _ _).alloc (Nat.le_refl _) _
          have hN6 := heap_alloc_new wr (.cells #[.int .i64 e.1, .string (bstr e.2)] 68)
          generalize (wr.alloc (.cells #[.int .i64 e.1, .string (bstr e.2)] 68)) = w6 at HB6 hN6 ⊢
          generalize wr.heap.size = y at hN6 ⊢
          obtain ⟨k, hk⟩ := Int.eq_ofNat_of_zero_le hel.2.1
          have hkl : k < r.held.length := by omega
          have t0 : w6.cell? ⟨y, 0, none⟩ = some (.int .i64 (k : Int)) := by rw [cell_of_row _ _ _ _ _ _ hN6, ← hk]; rfl
          have t1 : w6.cell? ⟨y, 1, none⟩ = some (.string (bstr e.2)) := by rw [cell_of_row _ _ _ _ _ _ hN6]; rfl
          have HR6 : Hid (RefAt w6 (q + 1) x (.slice p9 r.held.length c9) (.slice none 0 0) ⟨loseL K torn at_ r.wait.length 0 (r.wait.take j) r.held, [], 0, -1⟩) := HR.out.1.below HB6.out
          have HB7 : Hid (Below (q + 1) wc w6) := HR.out.2.trans (HB6.out.mono (by have := (HR.out.1.foot x (.inl rfl)).2; have := HR.out.1.lo; omega))
          have l0 : w6.cell? ⟨q, 0, none⟩ = some (.slice Ak K.length ck) := (HB7.out.cell (Nat.lt_succ_self q)).trans j0
          have l1 : w6.cell? ⟨q, 1, none⟩ = some (.int .i64 torn) := (HB7.out.cell (Nat.lt_succ_self q)).trans j1
          have l2 : w6.cell? ⟨q, 2, none⟩ = some (.int .i64 at_) := (HB7.out.cell (Nat.lt_succ_self q)).trans j2
          obtain ⟨hh, hhh⟩ : ∃ hh, loseL K torn at_ r.wait.length 0 (r.wait.take j) r.held = hh := ⟨_, rfl⟩
          have HHH := Lib.hid hhh
          have HLn : Hid (hh.length = r.held.length) := Lib.hid (by rw [← hhh]; exact loseL_length _ _ _ _ _ _ _)
          have HNx : Hid (loseL K torn at_ r.wait.length 0 (r.wait.take (j + 1)) r.held = hh.set k (loseS K torn at_ r.wait.length j e.2 (atH hh k))) := Lib.hid (by
            rw [List.take_succ_eq_append_getElem hlt, he, loseL_snoc, hhh, hk]
            have : (List.take j r.wait).length = j := by rw [List.length_take]; omega
            rw [this, Nat.zero_add]; rfl)
          rw [hhh] at HR6
          obtain ⟨A2, c3, hAA, hA⟩ := HR6.out.hform
          obtain ⟨g, hg, p0, p1⟩ := hA k (by rw [HLn.out]; exact hkl)
          injection hAA with hA1 hA2 hA3
          clear hA2
          subst hA1
          subst hA3
          subst hg
          have hs0 : atH hh k = hh[k]'(by rw [HLn.out]; exact hkl) := atH_eq _ _ _
          simp only [← hs0] at p0
          have HSl : Hid ((atH hh k).length = 256) := by rw [hs0]; exact HR6.out.ok.hlen _ (List.getElem_mem _)
          have x0 := HR6.out.c0
          obtain ⟨sk, hsk⟩ : ∃ sk, atH hh k = sk := ⟨_, rfl⟩
          have HSame : Hid (hh.set k sk = hh) := Lib.hid (by rw [← hsk, hs0]; exact List.set_getElem_self _)
          rw [hsk] at p0 HSl HNx
          have HEl := Lib.hid hel.1
          clear q0 q1 hel k0 k1 k2 c1 hB hA hN6 he hk hs0 hsk hhh HBr
          by_cases htn : (0 ≤ torn ∧ torn < r.wait.length) ∧ (j : Int) = torn
          · first
            | (exfalso; have := HTB.out; simp only [decide_eq_false_iff_not] at this; exact this htn.1)
            | (have e4 : ((j : Int) == torn) = true := by simp [htn.2]
               obtain ⟨n, hn⟩ := Int.eq_ofNat_of_zero_le hat.1
               subst hn
               have z4 : (bstr e.2).size = 256 := by rw [bstr_size, HEl.out]
               have z5 : (bstr sk).size = 256 := by rw [bstr_size, HSl.out]
               have z1 := bstr_take e.2 n (by rw [HEl.out]; omega)
               have z2 := bstr_drop sk n (by rw [HSl.out]; omega)
               rw [z5] at z2
               have z3 : ∀ w', (Op.stringOp .add (bstr (e.2.take n)) (bstr (sk.drop n))).run Try.prog w' = .ok (.string (bstr (e.2.take n ++ sk.drop n))) w' := fun w' => by
                 rw [run_string_add_sum _ _ _ (by rw [bstr_size, bstr_size, List.length_take, List.length_drop, HSl.out]; omega), bstr_append]
               have z6 : Hid (loseS K torn n r.wait.length j e.2 sk = e.2.take n ++ sk.drop n) := Lib.hid (by unfold loseS; rw [if_pos htn]; simp)
               have z7 : (e.2.take n ++ sk.drop n).length = 256 := by rw [List.length_append, List.length_take, List.length_drop, HEl.out, HSl.out]; omega
               have Z7 := Lib.hid z7
               clear z7
               obtain ⟨se, hse⟩ : ∃ se, bstr e.2 = se := ⟨_, rfl⟩
               obtain ⟨ss, hss⟩ : ∃ ss, bstr sk = ss := ⟨_, rfl⟩
               obtain ⟨pa, hpa⟩ : ∃ pa, bstr (e.2.take n) = pa := ⟨_, rfl⟩
               obtain ⟨pb, hpb⟩ : ∃ pb, bstr (sk.drop n) = pb := ⟨_, rfl⟩
               obtain ⟨lc, hlc⟩ : ∃ lc, e.2.take n ++ sk.drop n = lc := ⟨_, rfl⟩
               obtain ⟨pc, hpc⟩ : ∃ pc, bstr lc = pc := ⟨_, rfl⟩
               have HPC := Lib.hid hpc
               rw [hlc] at z6 Z7 z3
               rw [hse, hpa] at z1
               rw [hse] at z4 t1
               rw [hss, hpb] at z2
               rw [hss] at z5 p0
               rw [hpa, hpb, hpc] at z3
               clear hpa hpb hlc hpc
               have y1 : n ≤ 256 := by omega
               have y2 : (n : Int) ≤ 256 := by omega
               clear htn hat hse hss
               go_wp2_with fail
               go_still_tail 24, (by kernel_rfl)
               have HB8 : Hid (Below w6.heap.size w6 (w6.drewN 1)) := below_drewN w6 1
               change wpList _ _ _ _ _ (w6.drewN 1)
               have p06 : (w6.drewN 1).cell? ⟨g, k, none⟩ = some (.string ss) := p0
               have p16 : (w6.drewN 1).frozen? ⟨g, k, none⟩ = false := p1
               have HR8 := Lib.hid (HR6.out.below HB8.out)
               have hqg : q + 1 ≤ g := (HR6.out.foot g (.inr (.inl rfl))).1
               have HC8 : Hid (Below (q + 1) wc (w6.drewN 1)) := HB7.out.trans (HB8.out.mono (by have := (HR6.out.foot x (.inl rfl)).2; have := HR6.out.lo; omega))
               obtain ⟨w7, hw7⟩ : ∃ w7, w6.drewN 1 = w7 := ⟨_, rfl⟩
               rw [hw7] at HB8 p06 p16 HR8 HC8 ⊢
               clear hw7 p0 p1 x0 t0 t1
               have HD : Hid (RefAt (w7.setCell ⟨g, k, none⟩ (.string pc)) (q + 1) x (.slice (some ⟨g, 0, none⟩) r.held.length c9) (.slice none 0 0) ⟨loseL K torn n r.wait.length 0 (r.wait.take (j + 1)) r.held, [], 0, -1⟩) := by
                 rw [HNx.out, z6.out]; have := HR8.out.setH k lc Z7.out; rw [HPC.out] at this; exact this
               have HE : Hid (Below (q + 1) wc (w7.setCell ⟨g, k, none⟩ (.string pc))) := HC8.out.trans ((Kept.set1 w7 g k _).below (by have := HC8.out.size; omega) (fun b hb e => by omega))
               go_wp2
               go_roundw
               case rel => exact ⟨j + 1, by omega, by go_num, HD.out, HE.out⟩
               case measure => simp [intOf]; omega)
          · have e4 : ((j : Int) == torn) = false := by
              simp only [beq_eq_false_iff_ne, ne_eq]; intro e; exact htn ⟨⟨by omega, by omega⟩, e⟩
            obtain ⟨ss, hss⟩ : ∃ ss, bstr sk = ss := ⟨_, rfl⟩
            rw [hss] at p0
            clear hss
            by_cases hjk : j < K.length
            · have e5 : decide (j < K.length) = true := by simpa using hjk
              have HBw : Hid (Below w.heap.size w w6) := HB2.out.trans (HB7.out.mono (by rw [HQ.out]; omega))
              obtain ⟨bk, ok, hka, hkc⟩ := HK0.out.spot j hjk
              subst hka
              have hk6 : w6.cell? ⟨bk, ok + j, none⟩ = some (.bool K[j]) := (HBw.out.cell (World.block_lt_of_cell? w _ hkc)).trans hkc
              cases hkb : K[j]
              · have z6 : Hid (loseS K torn at_ r.wait.length j e.2 sk = sk) := Lib.hid (by unfold loseS; rw [if_neg htn, if_neg]; rw [List.getD_eq_getElem?_getD, List.getElem?_eq_getElem hjk, hkb]; simp)
                rw [hkb] at hk6
                clear hkc hkb htn
                have HD : Hid (RefAt w6 (q + 1) x (.slice (some ⟨g, 0, none⟩) r.held.length c9) (.slice none 0 0) ⟨loseL K torn at_ r.wait.length 0 (r.wait.take (j + 1)) r.held, [], 0, -1⟩) := by
                  rw [HNx.out, z6.out, HSame.out]; exact HR6.out
                go_wp2
                go_roundw
                case rel => exact ⟨j + 1, by omega, by go_num, HD.out, HB7.out⟩
                case measure => simp [intOf]; omega
              · have z6 : Hid (loseS K torn at_ r.wait.length j e.2 sk = e.2) := Lib.hid (by unfold loseS; rw [if_neg htn, if_pos]; rw [List.getD_eq_getElem?_getD, List.getElem?_eq_getElem hjk, hkb]; simp)
                rw [hkb] at hk6
                obtain ⟨pc, hpc⟩ : ∃ pc, bstr e.2 = pc := ⟨_, rfl⟩
                have HPC := Lib.hid hpc
                rw [hpc] at t1
                clear hkc hkb htn hpc
                go_wp2_with fail
                go_still_tail 9, (by kernel_rfl)
                have HB8 : Hid (Below w6.heap.size w6 (w6.drewN 1)) := below_drewN w6 1
                change wpList _ _ _ _ _ (w6.drewN 1)
                have p06 : (w6.drewN 1).cell? ⟨g, k, none⟩ = some (.string ss) := p0
                have p16 : (w6.drewN 1).frozen? ⟨g, k, none⟩ = false := p1
                have HR8 := Lib.hid (HR6.out.below HB8.out)
                have hqg : q + 1 ≤ g := (HR6.out.foot g (.inr (.inl rfl))).1
                have HC8 : Hid (Below (q + 1) wc (w6.drewN 1)) := HB7.out.trans (HB8.out.mono (by have := (HR6.out.foot x (.inl rfl)).2; have := HR6.out.lo; omega))
                obtain ⟨w7, hw7⟩ : ∃ w7, w6.drewN 1 = w7 := ⟨_, rfl⟩
                rw [hw7] at HB8 p06 p16 HR8 HC8 ⊢
                clear hw7 p0 p1 x0 t0 t1
                have HD : Hid (RefAt (w7.setCell ⟨g, k, none⟩ (.string pc)) (q + 1) x (.slice (some ⟨g, 0, none⟩) r.held.length c9) (.slice none 0 0) ⟨loseL K torn at_ r.wait.length 0 (r.wait.take (j + 1)) r.held, [], 0, -1⟩) := by
                  rw [HNx.out, z6.out]; have := HR8.out.setH k e.2 HEl.out; rw [HPC.out] at this; exact this
                have HE : Hid (Below (q + 1) wc (w7.setCell ⟨g, k, none⟩ (.string pc))) := HC8.out.trans ((Kept.set1 w7 g k _).below (by have := HC8.out.size; omega) (fun b hb e => by omega))
                go_wp2
                go_roundw
                case rel => exact ⟨j + 1, by omega, by go_num, HD.out, HE.out⟩
                case measure => simp [intOf]; omega
            · have e5 : decide (j < K.length) = false := by simpa using hjk
              have z6 : Hid (loseS K torn at_ r.wait.length j e.2 sk = sk) := Lib.hid (by unfold loseS; rw [if_neg htn, if_neg]; rw [List.getD_eq_getElem?_getD, List.getElem?_eq_none (by omega)]; simp)
              clear htn
              have HD : Hid (RefAt w6 (q + 1) x (.slice (some ⟨g, 0, none⟩) r.held.length c9) (.slice none 0 0) ⟨loseL K torn at_ r.wait.length 0 (r.wait.take (j + 1)) r.held, [], 0, -1⟩) := by
                rw [HNx.out, z6.out, HSame.out]; exact HR6.out
              go_wp2
              go_roundw
              case rel => exact ⟨j + 1, by omega, by go_num, HD.out, HB7.out⟩
              case measure => simp [intOf]; omega
        · obtain rfl : j = r.wait.length := by omega
          go_wp2
          go_ret2
          have hR1 := HR.out.1
          rw [List.take_length] at hR1
          exact ⟨_, _, rfl, hR1.base' (by rw [HQ.out]; omega), HBr.out⟩
end Go.Proofs.Ytehigfpdeoebdaa.Dsk
