/- The walks of crc.Seal and crc.Open. -/
import Derived.Test.YtgodnmlggomaaaaDoorCrcWalk
namespace Go.Proofs.YtgodnmlggomaaaaDoor.Crc
open Go.RowKit Go.Proofs.YtgodnmlggomaaaaDoor
set_option linter.unusedSimpArgs false
set_option linter.unusedVariables false

/-- Four bytes, the lowest ahead. -/
def le4 (x : BitVec 32) : List UInt8 := [byteOf x, byteOf (x >>> 8), byteOf (x >>> 16), byteOf (x >>> 24)]
def sealB (l : List UInt8) : List UInt8 := l ++ le4 (crc l)
theorem le4_length (x : BitVec 32) : (le4 x).length = 4 := rfl
theorem sealB_length (l : List UInt8) : (sealB l).length = l.length + 4 := by simp [sealB, le4_length]

/-- What is handed back: bytes in memory of its own; nothing else has turned. -/
def RetB (w0 : World) (l : List UInt8) (e : Ending) (w' : World) : Prop :=
  ∃ A c, e = .returned (.slice A l.length c) ∧ OwnB w' w0.heap.size (.slice A l.length c) l ∧ Below w0.heap.size w0 w'
theorem RetB.mk {w0 w' : World} {l : List UInt8} {v : Value} (h : OwnB w' w0.heap.size v l) (hb : Below w0.heap.size w0 w') : RetB w0 l (.returned v) w' := by
  rcases h.form with ⟨rfl, rfl⟩ | ⟨g, c, rfl, _⟩
  · exact ⟨none, 0, rfl, h, hb⟩
  · exact ⟨_, c, rfl, h, hb⟩

theorem bytes_of_block {w : World} {b : Nat} {cs : List Value} {T : TypeId} {fr : Nat × Nat} {l : List UInt8} (h : w.heap[b]? = some (.cells cs.toArray T fr)) (hc : cs = cells8 l) : Bytes w (some ⟨b, 0, none⟩) l := by
  intro i hi
  refine ⟨_, rfl, ?_⟩
  rw [Addr.add_lit, Nat.zero_add]
  unfold World.cell?
  simp only [h]
  subst hc
  simpa using cells8_get l i hi

attribute [local go_sem] byteOf_mod shr32_8 shr32_16 shr32_24
set_option maxHeartbeats 400000 in
theorem Seal_calls (A : Option Addr) (c : Nat) (l : List UInt8) (w : World) (hh : HalfIs w) (hb : Bytes w A l) (hnil : A = none → c = 0) (hl : l.length + 4 ≤ 140737488355328) :
    Calls Tryd.prog 17 #[.slice A l.length c] w (RetB w (sealB l)) := by
  have HH := Lib.hid hh
  have HB := Lib.hid hb
  have HN := Lib.hid hnil
  clear hh hb hnil
  go_enter Tryd.func17, Tryd.ntmps17
  go_wp2_with (first | (go_at_call 10; refine (Sum_calls A c l _ HH.out HB.out (by unfold maxLen; omega)).mono ?_; rintro e w' ⟨rfl, rfl⟩) | (with_reducible refine park_make ?_; intro q hq))
  refine hq.out ?_
  clear hq
  refine wpList_make_room rfl _ _ rfl w.heap.size _ (l.length + 4) rfl rfl (by omega) (by omega) (Nat.le_refl _) ?_
  intro w1 hown hg
  have HB1 := Lib.hid ((Below.refl w.heap.size w).grown hg (Nat.le_refl _) (fun k hk => by cases hk))
  have HO := Lib.hid hown
  clear hown hg
  go_wp2_with (with_reducible refine park_append ?_; intro q hq)
  refine hq.out ?_
  clear hq
  refine wpList_append_bytes rfl _ _ rfl w.heap.size _ [] rfl HO.out A l.length c l rfl rfl HN.out (HB.out.below HB1.out) (by simp; omega) HB1.out.size ?_
  intro v2 w2 hown2 hg2 _
  have HB2 := Lib.hid (HB1.out.grown hg2 HB1.out.size (fun k hk => by cases hk; exact Nat.le_refl _))
  have HO2 := Lib.hid hown2
  clear hown2 hg2
  go_wp2_with (with_reducible refine park_append ?_; intro q hq)
  refine hq.out ?_
  clear hq
  refine wpList_append_bytes rfl _ _ rfl w.heap.size v2 l rfl (by simpa using HO2.out.alloc _) (some ⟨w2.heap.size, 0, none⟩) 4 4 (le4 (crc l)) rfl rfl (fun h => by cases h) (bytes_of_block (heap_alloc_new w2 _) (by simp [le4, cells8])) (by simp [le4_length]; omega) (by simp; have := HB2.out.size; omega) ?_
  intro v3 w3 hown3 hg3 _
  have HB3 := Lib.hid ((HB2.out.alloc HB2.out.size _).grown hg3 (by simp; have := HB2.out.size; omega) (fun k hk => (HO2.out.lt k hk).1))
  have HO3 := Lib.hid hown3
  clear hown3 hg3
  go_wp2
  go_ret
  exact RetB.mk HO3.out HB3.out

/-- What is handed back: bytes in memory of its own and a number. -/
def RetBN (w0 : World) (l : List UInt8) (n : Int) (e : Ending) (w' : World) : Prop :=
  ∃ A c, e = .returned (.tuple #[.slice A l.length c, .int .i64 n]) ∧ OwnB w' w0.heap.size (.slice A l.length c) l ∧ Below w0.heap.size w0 w'
theorem RetBN.mk {w0 w' : World} {l : List UInt8} {v : Value} {n : Int} (h : OwnB w' w0.heap.size v l) (hb : Below w0.heap.size w0 w') : RetBN w0 l n (.returned (.tuple #[v, .int .i64 n])) w' := by
  rcases h.form with ⟨rfl, rfl⟩ | ⟨g, c, rfl, _⟩
  · exact ⟨none, 0, rfl, h, hb⟩
  · exact ⟨_, c, rfl, h, hb⟩

/-- What bytes are opened as: the bytes ahead of their sum and 0; or none and the error's number. -/
def openB (l : List UInt8) : List UInt8 × Int :=
  if l.length < 4 then ([], 21) else if l.drop (l.length - 4) = le4 (crc (l.take (l.length - 4))) then (l.take (l.length - 4), 0) else ([], 20)

set_option maxHeartbeats 400000 in
theorem Open_calls (A : Option Addr) (c : Nat) (l : List UInt8) (w : World) (hh : HalfIs w) (hb : Bytes w A l) (hnil : A = none → c = 0) (hc : l.length ≤ c) (hl : l.length ≤ 140737488355328) :
    Calls Tryd.prog 18 #[.slice A l.length c] w (RetBN w (openB l).1 (openB l).2) := by
  have HH := Lib.hid hh
  have HB := Lib.hid hb
  have HN := Lib.hid hnil
  clear hh hb hnil
  by_cases h4 : l.length < 4
  · have e : openB l = ([], 21) := by unfold openB; rw [if_pos h4]
    rw [e]
    clear e
    go_enter Tryd.func18, Tryd.ntmps18
    go_wp2_with fail
    go_ret2
    exact RetBN.mk (World.ownsRow_nil _ _ _ _) (Below.refl _ _)
  · obtain ⟨n, hn⟩ : ∃ n, l.length = n + 4 := ⟨l.length - 4, by omega⟩
    obtain ⟨b, o, rfl⟩ := HB.out.spot (by omega)
    clear HN
    have hcn : ¬ c = n := by omega
    have hnc : n < c := by omega
    have hn4 : n + 4 ≤ c := by omega
    have hnm : n + 4 ≤ 140737488355328 := by omega
    have HL := Lib.hid hn
    have HO : Hid (openB l = if l.drop n = le4 (crc (l.take n)) then (l.take n, 0) else ([], 20)) := by
      show openB l = _
      unfold openB; rw [if_neg h4, hn]; rfl
    have HD := Lib.hid (HB.out.drop n)
    have HDL : Hid ((l.drop n).length = 4) := by show (l.drop n).length = 4; rw [List.length_drop]; omega
    have ht : n = (l.take n).length := by rw [List.length_take, hn]; omega
    have HT := Lib.hid ht
    rw [hn]
    clear hn h4 hc hl ht
    go_enter Tryd.func18, Tryd.ntmps18
    go_wp2_with (go_at_call 10; refine (Sum_calls' _ c (l.take n) _ _ HT.out HH.out (HB.out.take n) (by unfold maxLen; omega)).mono ?_; rintro e w' ⟨rfl, rfl⟩)
    generalize hs : crc (l.take n) = s at *
    generalize hd : l.drop n = d at *
    clear hs hd
    go_loop [21] (fun i => ∃ k : Nat, k ≤ 4 ∧ i = .int .i64 k ∧ Hid (∀ j, j < k → at8 d j = at8 (le4 s) j)) (fun i => 4 - (intOf i).toNat)
    case atStart => exact ⟨0, by omega, rfl, fun j hj => absurd hj (by omega)⟩
    case round =>
      obtain ⟨k, hk, rfl, HP⟩ := hrel
      by_cases hlt : k < 4
      · obtain ⟨ad, hA, hx⟩ := HD.out k (by rw [HDL.out]; exact hlt)
        cases hA
        by_cases he : at8 d k = at8 (le4 s) k
        · have he1 : (((at8 (le4 s) k).toNat : Int) != ((at8 d k).toNat : Int)) = false := by rw [he]; simp
          have HN : Hid (∀ j, j < k + 1 → at8 d j = at8 (le4 s) j) := by
            intro j hj
            by_cases h : j = k
            · rw [h]; exact he
            · exact HP.out j (by omega)
          clear HP he
          rw [Addr.add_lit] at hx
          obtain rfl | rfl | rfl | rfl : k = 0 ∨ k = 1 ∨ k = 2 ∨ k = 3 := by omega
          all_goals
            try simp only [Nat.add_zero] at hx
            have he2 := he1
            simp only [show at8 (le4 s) 0 = byteOf s from rfl, show at8 (le4 s) 1 = byteOf (s >>> 8) from rfl, show at8 (le4 s) 2 = byteOf (s >>> 16) from rfl, show at8 (le4 s) 3 = byteOf (s >>> 24) from rfl] at he2
            clear he1
            go_wp2_with fail
            exact ⟨⟨_, by decide, rfl, HN⟩, by decide⟩
        · have he1 : (((at8 (le4 s) k).toNat : Int) != ((at8 d k).toNat : Int)) = true := by
            rw [bne_iff_ne]
            intro h
            exact he (UInt8.toNat_inj.mp (by omega))
          have HR : Hid (openB l = ([], 20)) := by
            show openB l = _
            rw [HO.out, if_neg]
            intro h
            rw [h] at he
            exact he rfl
          rw [HR.out]
          clear HP he HO HR
          rw [Addr.add_lit] at hx
          obtain rfl | rfl | rfl | rfl : k = 0 ∨ k = 1 ∨ k = 2 ∨ k = 3 := by omega
          all_goals
            try simp only [Nat.add_zero] at hx
            have he2 := he1
            simp only [show at8 (le4 s) 0 = byteOf s from rfl, show at8 (le4 s) 1 = byteOf (s >>> 8) from rfl, show at8 (le4 s) 2 = byteOf (s >>> 16) from rfl, show at8 (le4 s) 3 = byteOf (s >>> 24) from rfl] at he2
            clear he1
            go_wp2_with fail
            go_ret2
            exact RetBN.mk (World.ownsRow_nil _ _ _ _) (Below.refl _ _)
      · have hk4 : k = 4 := by omega
        have HR : Hid (openB l = (l.take n, 0)) := by
          show openB l = _
          rw [HO.out, if_pos]
          apply List.ext_getElem
          · rw [HDL.out]; rfl
          · intro j h1 h2
            have := HP.out j (by rw [hk4]; rw [HDL.out] at h1; exact h1)
            rw [at8_eq _ _ h1, at8_eq _ _ h2] at this
            exact this
        clear HP HO
        go_wp2_with (with_reducible refine park_append ?_; intro q hq)
        refine hq.out ?_
        clear hq
        refine wpList_append_bytes rfl _ _ rfl w.heap.size _ [] rfl (World.ownsRow_nil _ _ _ _) (some ⟨b, o, none⟩) n c (l.take n) rfl HT.out (fun h => by cases h) (HB.out.take n) (by rw [← HT.out]; simp; omega) (Nat.le_refl _) ?_
        intro v2 w2 hown2 hg2 _
        have HB2 := Lib.hid ((Below.refl w.heap.size w).grown hg2 (Nat.le_refl _) (fun k hk => by cases hk))
        have HO2 := Lib.hid hown2
        clear hown2 hg2
        go_wp2
        go_ret2
        rw [HR.out]
        exact RetBN.mk HO2.out HB2.out
end Go.Proofs.YtgodnmlggomaaaaDoor.Crc
