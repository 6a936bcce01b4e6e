/- The walks of crc.step, Sum, Seal, Open. -/
import Derived.Test.YtcgjejpekefjdaaDoorProg
import Derived.Test.YtcgjejpekefjdaaDoorCrcPure
import Derived.Test.YtcgjejpekefjdaaDoorMem
namespace Go.Proofs.YtcgjejpekefjdaaDoor.Crc
open Go.RowKit Go.Proofs.YtcgjejpekefjdaaDoor
set_option linter.unusedSimpArgs false
set_option linter.unusedVariables false

/-- The table of sixteen lies where the program's text lays it. -/
def HalfIs (w : World) : Prop := ∀ i : Nat, i < 16 → w.cell? ⟨0, i, none⟩ = some (.int .u32 (n32 (half i)))

theorem half_at {w : World} (hh : HalfIs w) (x : BitVec 32) : n32 (x &&& 15#32) < 16 ∧ 0 ≤ n32 (x &&& 15#32) ∧ w.cell? ⟨0, (n32 (x &&& 15#32)).toNat, none⟩ = some (.int .u32 (n32 (halfOf x))) := by
  have l := and15_lt x
  refine ⟨by unfold n32; omega, n32_lo _, ?_⟩
  rw [show (n32 (x &&& 15#32)).toNat = (x &&& 15#32).toNat by unfold n32; omega]
  exact hh _ l

set_option maxHeartbeats 400000 in
theorem step_calls (h : BitVec 32) (c : UInt8) (w : World) (hh : HalfIs w) :
    Calls Tryd.prog 83 #[.int .u32 (n32 h), .int .u8 (c.toNat : Int)] w fun e w' => e = .returned (.int .u32 (n32 (stepB h c))) ∧ w = w' := by
  obtain ⟨x, hx⟩ : ∃ x, x = h ^^^ c.toBitVec.setWidth 32 := ⟨_, rfl⟩
  have e1 : bits .xor .u32 (n32 h) (c.toNat : Int) = n32 x := by rw [hx]; exact xor32_u8 h c
  have e2 := and32_15 x
  have e3 := shr32_4 x
  obtain ⟨l1, l1', t1⟩ := half_at hh x
  have e4 := xor32 (x >>> 4) (halfOf x)
  obtain ⟨y, hy⟩ : ∃ y, y = (x >>> 4) ^^^ halfOf x := ⟨_, rfl⟩
  rw [← hy] at e4
  have e5 := and32_15 y
  have e6 := shr32_4 y
  obtain ⟨l2, l2', t2⟩ := half_at hh y
  have e7 := xor32 (y >>> 4) (halfOf y)
  have fin : stepB h c = (y >>> 4) ^^^ halfOf y := by rw [stepB_eq, hy, hx]
  have FIN := Lib.hid fin
  have HH := Lib.hid hh
  clear fin hx hy hh
  obtain ⟨b1, b2⟩ := ltu8 c
  go_enter Tryd.func83, Tryd.ntmps83
  go_wp2
  go_ret
  exact ⟨ret_int (congrArg n32 FIN.out.symm), rfl⟩

theorem crc_take (l : List UInt8) (k : Nat) (h : k < l.length) : sumB ones (l.take (k + 1)) = stepB (sumB ones (l.take k)) (at8 l k) := by
  rw [take_snoc8 l k h, sumB_snoc]

set_option maxHeartbeats 400000 in
theorem Sum_calls (A : Option Addr) (c : Nat) (l : List UInt8) (w : World) (hh : HalfIs w) (hb : Bytes w A l) (hl : l.length ≤ maxLen) :
    Calls Tryd.prog 77 #[.slice A l.length c] w fun e w' => e = .returned (.int .u32 (n32 (crc l))) ∧ w = w' := by
  unfold maxLen at hl
  have HH := Lib.hid hh
  have HB := Lib.hid hb
  clear hh hb
  go_enter Tryd.func77, Tryd.ntmps77
  go_wp2
  go_loop [3, 8] (fun h i => ∃ k : Nat, k ≤ l.length ∧ i = .int .i64 k ∧ h = .int .u32 (n32 (sumB ones (l.take k)))) (fun _ i => l.length - (intOf i).toNat)
  case atStart => exact ⟨0, Nat.zero_le _, rfl, rfl⟩
  case round =>
    obtain ⟨k, hk, rfl, rfl⟩ := hrel
    by_cases hlt : k < l.length
    · obtain ⟨ad, hA, hx⟩ := HB.out k hlt
      cases hA
      have hs := crc_take l k hlt
      have HS := Lib.hid hs
      clear hs
      go_wp2_with (go_at_call 83; refine (step_calls _ _ _ HH.out).mono ?_; rintro e w' ⟨rfl, rfl⟩)
      go_round
      case rel => exact ⟨k + 1, by omega, by go_num, by rw [HS.out]⟩
      case measure => simp [intOf]; omega
    · have en := not32 (sumB ones (l.take k))
      have HE := Lib.hid en
      clear en
      go_wp2
      go_ret
      exact ⟨ret_int (by rw [HE.out, List.take_of_length_le (by omega)]; rfl), rfl⟩

theorem Sum_calls' (A : Option Addr) (c : Nat) (l : List UInt8) (m : Nat) (w : World) (hm : m = l.length) (hh : HalfIs w) (hb : Bytes w A l) (hl : m ≤ maxLen) :
    Calls Tryd.prog 77 #[.slice A m c] w fun e w' => e = .returned (.int .u32 (n32 (crc l))) ∧ w = w' := by
  subst hm; exact Sum_calls A c l w hh hb hl

theorem xor32_poly (a : BitVec 32) : bits .xor .u32 (n32 a) (3988292384 : Int) = n32 (a ^^^ poly) := by
  rw [show (3988292384 : Int) = n32 poly from rfl, xor32]
attribute [local go_sem] signed_u32 xor32_poly xor32 and32_1 shr32_1 shr32_31 shl32_1 not32

/-- Four bytes, the lowest ahead. -/
def le4 (x : BitVec 32) : List UInt8 := [byteOf x, byteOf (x >>> 8), byteOf (x >>> 16), byteOf (x >>> 24)]
def sealB (l : List UInt8) : List UInt8 := l ++ le4 (crc l)
theorem le4_length (x : BitVec 32) : (le4 x).length = 4 := rfl
theorem sealB_length (l : List UInt8) : (sealB l).length = l.length + 4 := by simp [sealB, le4_length]

/-- What is handed back: bytes in memory of its own; nothing else has turned. -/
def RetB (w0 : World) (l : List UInt8) (e : Ending) (w' : World) : Prop :=
  ∃ A c, e = .returned (.slice A l.length c) ∧ OwnB w' w0.heap.size (.slice A l.length c) l ∧ Below w0.heap.size w0 w'
theorem RetB.mk {w0 w' : World} {l : List UInt8} {v : Value} (h : OwnB w' w0.heap.size v l) (hb : Below w0.heap.size w0 w') : RetB w0 l (.returned v) w' := by
  rcases h.form with ⟨rfl, rfl⟩ | ⟨g, c, rfl, _⟩
  · exact ⟨none, 0, rfl, h, hb⟩
  · exact ⟨_, c, rfl, h, hb⟩

theorem bytes_of_block {w : World} {b : Nat} {cs : List Value} {T : TypeId} {fr : Nat × Nat} {l : List UInt8} (h : w.heap[b]? = some (.cells cs.toArray T fr)) (hc : cs = cells8 l) : Bytes w (some ⟨b, 0, none⟩) l := by
  intro i hi
  refine ⟨_, rfl, ?_⟩
  rw [Addr.add_lit, Nat.zero_add]
  unfold World.cell?
  simp only [h]
  subst hc
  simpa using cells8_get l i hi

attribute [local go_sem] byteOf_mod shr32_8 shr32_16 shr32_24
set_option maxHeartbeats 400000 in
theorem Seal_calls (A : Option Addr) (c : Nat) (l : List UInt8) (w : World) (hh : HalfIs w) (hb : Bytes w A l) (hnil : A = none → c = 0) (hl : l.length + 4 ≤ 140737488355328) :
    Calls Tryd.prog 61 #[.slice A l.length c] w (RetB w (sealB l)) := by
  have HH := Lib.hid hh
  have HB := Lib.hid hb
  have HN := Lib.hid hnil
  clear hh hb hnil
  go_enter Tryd.func61, Tryd.ntmps61
  go_wp2_with (first | (go_at_call 77; refine (Sum_calls A c l _ HH.out HB.out (by unfold maxLen; omega)).mono ?_; rintro e w' ⟨rfl, rfl⟩) | (with_reducible refine park_make ?_; intro q hq))
  refine hq.out ?_
  clear hq
  refine wpList_make_room rfl _ _ rfl w.heap.size _ (l.length + 4) rfl rfl (by omega) (by omega) (Nat.le_refl _) ?_
  intro w1 hown hg
  have HB1 := Lib.hid ((Below.refl w.heap.size w).grown hg (Nat.le_refl _) (fun k hk => by cases hk))
  have HO := Lib.hid hown
  clear hown hg
  go_wp2_with (with_reducible refine park_append ?_; intro q hq)
  refine hq.out ?_
  clear hq
  refine wpList_append_bytes rfl _ _ rfl w.heap.size _ [] rfl HO.out A l.length c l rfl rfl HN.out (HB.out.below HB1.out) (by simp; omega) HB1.out.size ?_
  intro v2 w2 hown2 hg2 _
  have HB2 := Lib.hid (HB1.out.grown hg2 HB1.out.size (fun k hk => by cases hk; exact Nat.le_refl _))
  have HO2 := Lib.hid hown2
  clear hown2 hg2
  go_wp2_with (with_reducible refine park_append ?_; intro q hq)
  refine hq.out ?_
  clear hq
  refine wpList_append_bytes rfl _ _ rfl w.heap.size v2 l rfl (by simpa using HO2.out.alloc _) (some ⟨w2.heap.size, 0, none⟩) 4 4 (le4 (crc l)) rfl rfl (fun h => by cases h) (bytes_of_block (heap_alloc_new w2 _) (by simp [le4, cells8])) (by simp [le4_length]; omega) (by simp; have := HB2.out.size; omega) ?_
  intro v3 w3 hown3 hg3 _
  have HB3 := Lib.hid ((HB2.out.alloc HB2.out.size _).grown hg3 (by simp; have := HB2.out.size; omega) (fun k hk => (HO2.out.lt k hk).1))
  have HO3 := Lib.hid hown3
  clear hown3 hg3
  go_wp2
  go_ret
  exact RetB.mk HO3.out HB3.out

/-- What is handed back: bytes in memory of its own and a number. -/
def RetBN (w0 : World) (l : List UInt8) (n : Int) (e : Ending) (w' : World) : Prop :=
  ∃ A c, e = .returned (.tuple #[.slice A l.length c, .int .i64 n]) ∧ OwnB w' w0.heap.size (.slice A l.length c) l ∧ Below w0.heap.size w0 w'
theorem RetBN.mk {w0 w' : World} {l : List UInt8} {v : Value} {n : Int} (h : OwnB w' w0.heap.size v l) (hb : Below w0.heap.size w0 w') : RetBN w0 l n (.returned (.tuple #[v, .int .i64 n])) w' := by
  rcases h.form with ⟨rfl, rfl⟩ | ⟨g, c, rfl, _⟩
  · exact ⟨none, 0, rfl, h, hb⟩
  · exact ⟨_, c, rfl, h, hb⟩

/-- What bytes are opened as: the bytes ahead of their sum and 0; or none and the error's number. -/
def openB (l : List UInt8) : List UInt8 × Int :=
  if l.length < 4 then ([], 21) else if l.drop (l.length - 4) = le4 (crc (l.take (l.length - 4))) then (l.take (l.length - 4), 0) else ([], 20)

set_option maxHeartbeats 400000 in
theorem Open_calls (A : Option Addr) (c : Nat) (l : List UInt8) (w : World) (hh : HalfIs w) (hb : Bytes w A l) (hnil : A = none → c = 0) (hc : l.length ≤ c) (hl : l.length ≤ 140737488355328) :
    Calls Tryd.prog 71 #[.slice A l.length c] w (RetBN w (openB l).1 (openB l).2) := by
  have HH := Lib.hid hh
  have HB := Lib.hid hb
  have HN := Lib.hid hnil
  clear hh hb hnil
  by_cases h4 : l.length < 4
  · have e : openB l = ([], 21) := by unfold openB; rw [if_pos h4]
    rw [e]
    clear e
    go_enter Tryd.func71, Tryd.ntmps71
    go_wp2_with fail
    go_ret2
    exact RetBN.mk (World.ownsRow_nil _ _ _ _) (Below.refl _ _)
  · obtain ⟨n, hn⟩ : ∃ n, l.length = n + 4 := ⟨l.length - 4, by omega⟩
    obtain ⟨b, o, rfl⟩ := HB.out.spot (by omega)
    clear HN
    have hcn : ¬ c = n := by omega
    have hnc : n < c := by omega
    have hn4 : n + 4 ≤ c := by omega
    have hnm : n + 4 ≤ 140737488355328 := by omega
    have HL := Lib.hid hn
    have HO : Hid (openB l = if l.drop n = le4 (crc (l.take n)) then (l.take n, 0) else ([], 20)) := by
      show openB l = _
      unfold openB; rw [if_neg h4, hn]; rfl
    have HD := Lib.hid (HB.out.drop n)
    have HDL : Hid ((l.drop n).length = 4) := by show (l.drop n).length = 4; rw [List.length_drop]; omega
    have ht : n = (l.take n).length := by rw [List.length_take, hn]; omega
    have HT := Lib.hid ht
    rw [hn]
    clear hn h4 hc hl ht
    go_enter Tryd.func71, Tryd.ntmps71
    go_wp2_with (go_at_call 77; refine (Sum_calls' _ c (l.take n) _ _ HT.out HH.out (HB.out.take n) (by unfold maxLen; omega)).mono ?_; rintro e w' ⟨rfl, rfl⟩)
    generalize hs : crc (l.take n) = s at *
    generalize hd : l.drop n = d at *
    clear hs hd
    go_loop [21] (fun i => ∃ k : Nat, k ≤ 4 ∧ i = .int .i64 k ∧ Hid (∀ j, j < k → at8 d j = at8 (le4 s) j)) (fun i => 4 - (intOf i).toNat)
    case atStart => exact ⟨0, by omega, rfl, fun j hj => absurd hj (by omega)⟩
    case round =>
      obtain ⟨k, hk, rfl, HP⟩ := hrel
      by_cases hlt : k < 4
      · obtain ⟨ad, hA, hx⟩ := HD.out k (by rw [HDL.out]; exact hlt)
        cases hA
        by_cases he : at8 d k = at8 (le4 s) k
        · have he1 : (((at8 (le4 s) k).toNat : Int) != ((at8 d k).toNat : Int)) = false := by rw [he]; simp
          have HN : Hid (∀ j, j < k + 1 → at8 d j = at8 (le4 s) j) := by
            intro j hj
            by_cases h : j = k
            · rw [h]; exact he
            · exact HP.out j (by omega)
          clear HP he
          rw [Addr.add_lit] at hx
          obtain rfl | rfl | rfl | rfl : k = 0 ∨ k = 1 ∨ k = 2 ∨ k = 3 := by omega
          all_goals
            try simp only [Nat.add_zero] at hx
            have he2 := he1
            simp only [show at8 (le4 s) 0 = byteOf s from rfl, show at8 (le4 s) 1 = byteOf (s >>> 8) from rfl, show at8 (le4 s) 2 = byteOf (s >>> 16) from rfl, show at8 (le4 s) 3 = byteOf (s >>> 24) from rfl] at he2
            clear he1
            go_wp2_with fail
            exact ⟨⟨_, by decide, rfl, HN⟩, by decide⟩
        · have he1 : (((at8 (le4 s) k).toNat : Int) != ((at8 d k).toNat : Int)) = true := by
            rw [bne_iff_ne]
            intro h
            exact he (UInt8.toNat_inj.mp (by omega))
          have HR : Hid (openB l = ([], 20)) := by
            show openB l = _
            rw [HO.out, if_neg]
            intro h
            rw [h] at he
            exact he rfl
          rw [HR.out]
          clear HP he HO HR
          rw [Addr.add_lit] at hx
          obtain rfl | rfl | rfl | rfl : k = 0 ∨ k = 1 ∨ k = 2 ∨ k = 3 := by omega
          all_goals
            try simp only [Nat.add_zero] at hx
            have he2 := he1
            simp only [show at8 (le4 s) 0 = byteOf s from rfl, show at8 (le4 s) 1 = byteOf (s >>> 8) from rfl, show at8 (le4 s) 2 = byteOf (s >>> 16) from rfl, show at8 (le4 s) 3 = byteOf (s >>> 24) from rfl] at he2
            clear he1
            go_wp2_with fail
            go_ret2
            exact RetBN.mk (World.ownsRow_nil _ _ _ _) (Below.refl _ _)
      · have hk4 : k = 4 := by omega
        have HR : Hid (openB l = (l.take n, 0)) := by
          show openB l = _
          rw [HO.out, if_pos]
          apply List.ext_getElem
          · rw [HDL.out]; rfl
          · intro j h1 h2
            have := HP.out j (by rw [hk4]; rw [HDL.out] at h1; exact h1)
            rw [at8_eq _ _ h1, at8_eq _ _ h2] at this
            exact this
        clear HP HO
        go_wp2_with (with_reducible refine park_append ?_; intro q hq)
        refine hq.out ?_
        clear hq
        refine wpList_append_bytes rfl _ _ rfl w.heap.size _ [] rfl (World.ownsRow_nil _ _ _ _) (some ⟨b, o, none⟩) n c (l.take n) rfl HT.out (fun h => by cases h) (HB.out.take n) (by rw [← HT.out]; simp; omega) (Nat.le_refl _) ?_
        intro v2 w2 hown2 hg2 _
        have HB2 := Lib.hid ((Below.refl w.heap.size w).grown hg2 (Nat.le_refl _) (fun k hk => by cases hk))
        have HO2 := Lib.hid hown2
        clear hown2 hg2
        go_wp2
        go_ret2
        rw [HR.out]
        exact RetBN.mk HO2.out HB2.out
theorem HalfIs.below {w w' : World} (h : HalfIs w) (hb : Below w.heap.size w w') : HalfIs w' := fun i hi =>
  (hb.cell (World.block_lt_of_cell? w _ (h i hi))).trans (h i hi)
theorem _root_.Go.Proofs.YtcgjejpekefjdaaDoor.OwnB.nonnil {w : World} {base : Nat} {v : Value} {l : List UInt8} (h : OwnB w base v l) (hn : v ≠ .slice none 0 0) : ∃ g c, v = .slice (some ⟨g, 0, none⟩) l.length c ∧ base ≤ g ∧ g < w.heap.size ∧ l.length ≤ c := by
  rcases h.form with ⟨h1, _⟩ | h1
  · exact absurd h1 hn
  · exact h1
end Go.Proofs.YtcgjejpekefjdaaDoor.Crc
