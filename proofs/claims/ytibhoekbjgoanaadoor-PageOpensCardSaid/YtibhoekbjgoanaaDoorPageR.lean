/- Pages: the walks of Insert and New where they refuse, Seal, Open. -/
import Derived.Test.YtibhoekbjgoanaaDoorPageI
set_option linter.unusedSimpArgs false
set_option linter.unusedVariables false
namespace Go.Proofs.YtibhoekbjgoanaaDoor
open Go.RowKit Go.Proofs.YtibhoekbjgoanaaDoor.Crc
theorem OwnB.of_blk {w : World} {base r : Nat} {l : List UInt8} (h : BlkB w r 5 l) (hl : l.length = 256) (hb : base ≤ r) : OwnB w base (.slice (some ⟨r, 0, none⟩) 256 256) l := by
  unfold OwnB World.ownsRow
  rw [hl]
  refine ⟨by rw [cells8_length, hl], .inr ⟨r, 256, (cells8 l).toArray, rfl, hb, h, Nat.le_refl _, by unfold maxLen; decide, by simp [cells8_length, hl], ?_⟩⟩
  rw [Nat.mul_one]
  exact List.take_of_length_le (by simp [cells8_length, hl])
set_option maxRecDepth 100000 in
set_option maxHeartbeats 400000 in
theorem Insert_room (A : Option Addr) (c : Nat) (l : List UInt8) (no : Nat) (k : UInt8) (cs : List (List UInt8)) (i : Nat) (Ab : Option Addr) (m cb : Nat) (w : World)
    (hb : Bytes w A l) (hP : PgL l no k cs) (hno : no ≤ 2147483647) (hk : k ≠ 0) (hc : 256 ≤ c) (hcm : c ≤ 9223372036854775807) (hi : i ≤ cs.length) (hm : m ≤ 9223372036854775807) (hfit : 244 < 2 * cs.length + sizC cs + 2 + m) :
    Calls Tryd.prog 26 #[.slice A 256 c, .int .i64 (i : Int), .slice Ab m cb] w fun e w' => e = .returned (.tuple #[.slice none 0 0, .int .i64 32]) ∧ Below w.heap.size w w' := by
  have hS := hP.sound hno hk
  have hl := hP.len
  obtain ⟨bk, o, rfl⟩ := hb.spot (by omega)
  have hN : cntB l = cs.length := hP.count
  have hsz : sizB l = sizC cs := hP.size
  have hleft : leftP l = 244 - (2 * cs.length + sizC cs) := by unfold leftP; rw [hN, hsz]
  have HS := sound_calls (some ⟨bk, o, none⟩) 256 c l w hl.symm hb hc hcm (by decide)
  rw [hS] at HS
  have hLe := fun n => left_calls (some ⟨bk, o, none⟩) 256 c l (w.drewN n) hl.symm (hb.below (kept_drewN w n)) hS
  rw [hleft] at hLe
  have hf2 : 2 * cs.length + sizC cs ≤ 244 := hP.1
  obtain ⟨N, hNN⟩ : ∃ N, cs.length = N := ⟨_, rfl⟩
  obtain ⟨S, hSS⟩ : ∃ S, sizC cs = S := ⟨_, rfl⟩
  rw [hNN] at hN hLe hfit hi hf2
  rw [hSS] at hLe hfit hf2
  have x5 : (w.cell? ⟨bk, o + 5, none⟩) = some (.int .u8 (N : Int)) := by
    obtain ⟨ad, h, hx⟩ := hb 5 (by omega)
    cases h
    rw [Addr.add_lit] at hx
    rw [← hN]; exact hx
  have HD := Lib.hid (fun n => (kept_drewN w n).cell (World.block_lt_of_cell? w _ x5) ▸ x5 : ∀ n, (w.drewN n).cell? ⟨bk, o + 5, none⟩ = some (.int .u8 (N : Int)))
  have d1 : decide ((i : Int) < 0) = false := by simp
  have d2 : decide (N < i) = false := by simp; omega
  obtain ⟨L, hL⟩ : ∃ L, 244 - (2 * N + S) = L := ⟨_, rfl⟩
  rw [hL] at hLe
  have hL2 : L ≤ 244 := by omega
  have d3 : decide ((m : Int) > (L : Int) - 2) = true := by simp; omega
  have f1 : IntKind.i64.wrap (N : Int) = (N : Int) := IntWalk.i64_in _ (by omega)
  have HHS := Lib.hid HS
  have HLe := Lib.hid hLe
  clear HS hLe hN hsz hNN hSS hb hP hS hl x5 hleft hL
  go_enter Tryd.func26, Tryd.ntmps26
  go_wp2_with (go_at_call 50; refine HHS.out.mono ?_; rintro e w2 ⟨rfl, m2, rfl⟩; refine park ?_; intro q hq)
  have x5 := HD.out m2
  refine hq.out ?_
  clear hq
  go_wp2_with (go_at_call 51; refine (HLe.out _).mono ?_; rintro e w3 ⟨rfl, m3, rfl⟩; rw [World.drewN_drewN]; refine park ?_; intro q hq)
  refine hq.out ?_
  clear hq x5
  go_wp2_with fail
  go_ret2
  exact ⟨rfl, kept_drewN _ _⟩
theorem newP_bad (no : Int) (k : UInt8) (h : no < 0 ∨ 2147483647 < no ∨ k = 0) : newP no k = ([], 2) := by unfold newP; rw [if_pos h]
set_option maxHeartbeats 400000 in
theorem New_bad (no : Int) (k : UInt8) (w : World) (h : no < 0 ∨ 2147483647 < no ∨ k = 0) :
    Calls Tryd.prog 15 #[.int .i64 no, .int .u8 (k.toNat : Int)] w fun e w' => e = .returned (.tuple #[.slice none 0 0, .int .i64 2]) ∧ w = w' := by
  by_cases h1 : no < 0
  · have d1 : decide (no < 0) = true := by simpa using h1
    clear h h1
    go_enter Tryd.func15, Tryd.ntmps15
    go_wp2_with fail
    go_ret2
    exact ⟨rfl, rfl⟩
  · have d1 : decide (no < 0) = false := by simpa using h1
    by_cases h2 : 2147483647 < no
    · have d2 : decide (no > 2147483647) = true := by simpa using h2
      clear h h1 h2
      go_enter Tryd.func15, Tryd.ntmps15
      go_wp2_with fail
      go_ret2
      exact ⟨rfl, rfl⟩
    · have d2 : decide (no > 2147483647) = false := by simpa using h2
      have h3 : k = 0 := by rcases h with h | h | h
                            · exact absurd h h1
                            · exact absurd h h2
                            · exact h
      subst h3
      clear h h1 h2
      go_enter Tryd.func15, Tryd.ntmps15
      go_wp2_with fail
      go_ret2
      exact ⟨rfl, rfl⟩
def sealP (l : List UInt8) : List UInt8 × Int := if soundB l = true then (sealB (l.take 252), 0) else ([], 22)
set_option maxHeartbeats 400000 in
theorem SealP_calls (A : Option Addr) (n c : Nat) (l : List UInt8) (w : World) (hh : HalfIs w) (hn : n = l.length) (hb : Bytes w A l) (hc : n ≤ c) (hm : c ≤ 9223372036854775807) (hs : n ≤ 140737488355328) :
    Calls Tryd.prog 32 #[.slice A n c] w (RetBN w (sealP l).1 (sealP l).2) := by
  have HS := sound_calls A n c l w hn hb hc hm hs
  by_cases hS : soundB l = true
  · rw [hS] at HS
    have e : sealP l = (sealB (l.take 252), 0) := by unfold sealP; rw [if_pos hS]
    rw [e]
    have h256 := soundB_len l hS
    obtain ⟨b, o, rfl⟩ := hb.spot (by omega)
    have hl2 : (l.take 252).length = 252 := by rw [List.length_take, h256]; rfl
    have hC := fun n => Seal_calls (some ⟨b, o, none⟩) c (l.take 252) (w.drewN n) (hh.below (below_drewN w n)) ((hb.below (kept_drewN w n)).take 252) (fun h => by cases h) (by rw [hl2]; decide)
    rw [hl2] at hC
    have HHS := Lib.hid HS
    have HC := Lib.hid hC
    have g1 : 252 ≤ c := by omega
    clear HS hC hS e hb hn hl2 h256
    go_enter Tryd.func32, Tryd.ntmps32
    go_wp2_with (first | (go_at_call 50; refine HHS.out.mono ?_; rintro e w2 ⟨rfl, m2, rfl⟩) | (go_at_call 39; refine (HC.out _).mono ?_; rintro e w3 ⟨A3, c3, rfl, hO3, hb3⟩))
    go_ret2
    exact RetBN.mk (hO3.base (kept_drewN w _).size) ((kept_drewN w _).trans (hb3.mono (kept_drewN w _).size))
  · have hS' : soundB l = false := by simpa using hS
    rw [hS'] at HS
    have e : sealP l = ([], 22) := by unfold sealP; rw [if_neg hS]
    rw [e]
    have HHS := Lib.hid HS
    clear HS e hb hn hS hS'
    go_enter Tryd.func32, Tryd.ntmps32
    go_wp2_with (go_at_call 50; refine HHS.out.mono ?_; rintro e w2 ⟨rfl, m2, rfl⟩)
    go_ret2
    exact RetBN.mk (World.ownsRow_nil _ _ _ _) (kept_drewN w _)
def numP (l : List UInt8) : Nat := natB (l.take 4)
def openP (l : List UInt8) (no : Int) : List UInt8 × Int :=
  if l.length ≠ 256 then ([], 21) else if (openB l).2 ≠ 0 then ([], (openB l).2) else if soundB l = false then ([], 22) else if (numP l : Int) ≠ no then ([], 23) else (ownP l, 0)
set_option maxHeartbeats 1000000 in
theorem OpenP_calls (A : Option Addr) (n c : Nat) (l : List UInt8) (no : Int) (w : World) (hh : HalfIs w) (hn : n = l.length) (hb : Bytes w A l) (hc : n ≤ c) (hm : c ≤ 9223372036854775807) (hs : n ≤ 140737488355328) :
    Calls Tryd.prog 34 #[.slice A n c, .int .i64 no] w (RetBN w (openP l no).1 (openP l no).2) := by
  by_cases h256 : l.length = 256
  · obtain ⟨b, o, rfl⟩ := hb.spot (by omega)
    obtain rfl : n = 256 := by omega
    have hC := Open_calls (some ⟨b, o, none⟩) c l w hh hb (fun h => by cases h) (by omega) (by omega)
    have hA := hb.lt (by omega)
    rw [h256] at hC
    have HC := Lib.hid hC
    have HL := Lib.hid h256
    have e0 : openP l no = if (openB l).2 ≠ 0 then ([], (openB l).2) else if soundB l = false then ([], 22) else if (numP l : Int) ≠ no then ([], 23) else (ownP l, 0) := by unfold openP; rw [if_neg (by simp [h256])]
    obtain ⟨er, her⟩ : ∃ er, (openB l).2 = er := ⟨_, rfl⟩
    rw [her] at HC e0
    have E0 := Lib.hid e0
    have HB := Lib.hid hb
    have HA := Lib.hid hA
    clear hC e0 her hb hn h256 hA
    go_enter Tryd.func34, Tryd.ntmps34
    go_wp2_with (go_at_call 44; refine HC.out.mono ?_; rintro e w1 ⟨A1, c1, rfl, hO1, hb1⟩; refine park ?_; intro q hq)
    have HB1 := Lib.hid hb1
    have HBy1 := Lib.hid (HB.out.below hb1)
    clear hO1 hb1
    by_cases h0 : er = 0
    · subst h0
      refine hq.out ?_
      clear hq
      have HS := sound_calls (some ⟨b, o, none⟩) 256 c l w1 HL.out.symm HBy1.out hc hm (by decide)
      have d0 : ((0 : Int) != 0) = false := rfl
      have E1 : Hid (openP l no = if soundB l = false then ([], 22) else if (numP l : Int) ≠ no then ([], 23) else (ownP l, 0)) := by show _ = _; rw [E0.out, if_neg (by decide)]
      by_cases hS : soundB l = true
      · rw [hS] at HS
        have HHS := Lib.hid HS
        have E2 : Hid (openP l no = if (numP l : Int) ≠ no then ([], 23) else (ownP l, 0)) := by show _ = _; rw [E1.out, if_neg (by simp [hS])]
        have HR := Lib.hid (fun m => Read_calls (some ⟨b, o, none⟩) 256 c l (w1.drewN m) HL.out.symm (HBy1.out.below (kept_drewN w1 m)) (fun ad h => Nat.lt_of_lt_of_le (HA.out ad h) (Nat.le_trans HB1.out.size (kept_drewN w1 m).size)) hc hm)
        clear HS hS
        go_wp2_with (first | (go_at_call 50; refine HHS.out.mono ?_; rintro e w2 ⟨rfl, m2, rfl⟩) | (go_at_call 45; refine (HR.out _).mono ?_; rintro e w3 ⟨rfl, hr3, hb3⟩; refine park ?_; intro q hq))
        have HB3 : Hid (Below w.heap.size w w3) := (HB1.out.trans ((kept_drewN w1 _).mono HB1.out.size)).trans (hb3.mono (Nat.le_trans HB1.out.size (kept_drewN w1 _).size))
        have hrg : w.heap.size ≤ (w1.drewN m2).heap.size := Nat.le_trans HB1.out.size (kept_drewN w1 _).size
        obtain ⟨r, hr⟩ : ∃ r, (w1.drewN m2).heap.size = r := ⟨_, rfl⟩
        rw [hr] at hr3 hrg hq
        have hF := Fixed_calls hr3 4 (by rw [HL.out]; decide) (by decide)
        rw [show ((4 : Nat) : Int) = 4 from rfl] at hF
        obtain ⟨num, hnum⟩ : ∃ num, natB (l.take 4) = num := ⟨_, rfl⟩
        have hlt : num < 4294967296 := by have := natB_lt (l.take 4); rw [hnum, List.length_take, HL.out] at this; exact this
        rw [hnum] at hF
        have HF := Lib.hid hF
        have HN := Lib.hid hnum
        have HRg := Lib.hid hrg
        have c1 : IntKind.i64.wrap (num : Int) = (num : Int) := IntWalk.i64_in _ (by omega)
        clear hr3 hb3 hr hF hnum hrg
        refine hq.out ?_
        clear hq
        go_wp2_with (go_at_call 46; refine HF.out.mono ?_; rintro e w4 ⟨rfl, hr4, hk4⟩; refine park ?_; intro q hq)
        have HB4 : Hid (Below w.heap.size w w4) := HB3.out.trans (hk4.below HB3.out.size (fun k hk e => by have := HRg.out; omega))
        have HOw := Lib.hid (own_calls (some ⟨b, o, none⟩) 256 c l w4 HL.out.symm (HB.out.below HB4.out) (by decide) hc hm)
        clear hr4 hk4
        by_cases hno : (num : Int) = no
        · have d1 : ((num : Int) != no) = false := by simp [hno]
          have E3 : Hid (openP l no = (ownP l, 0)) := by show _ = _; rw [E2.out, if_neg]; unfold numP; rw [HN.out]; simpa using hno
          clear hno
          refine hq.out ?_
          clear hq
          go_wp2_with (go_at_call 52; refine HOw.out.mono ?_; rintro e w5 ⟨r5, rfl, hr5, hA5, hb5⟩)
          go_ret2
          have hl5 : (ownP l).length = 256 := ownP_len l (by rw [HL.out]; decide)
          rw [E3.out]
          have := OwnB.of_blk hA5 hl5 (Nat.le_trans HB4.out.size hr5)
          exact RetBN.mk this (HB4.out.trans (hb5.mono HB4.out.size))
        · have d1 : ((num : Int) != no) = true := by simpa using hno
          have E3 : Hid (openP l no = ([], 23)) := by show _ = _; rw [E2.out, if_pos]; unfold numP; rw [HN.out]; exact hno
          clear hno
          refine hq.out ?_
          clear hq
          go_wp2_with fail
          go_ret2
          rw [E3.out]
          exact RetBN.mk (World.ownsRow_nil _ _ _ _) HB4.out
      · have hS' : soundB l = false := by simpa using hS
        rw [hS'] at HS
        have HHS := Lib.hid HS
        have E2 : Hid (openP l no = ([], 22)) := by show _ = _; rw [E1.out, if_pos hS']
        clear HS hS hS'
        go_wp2_with (go_at_call 50; refine HHS.out.mono ?_; rintro e w2 ⟨rfl, m2, rfl⟩)
        go_ret2
        rw [E2.out]
        exact RetBN.mk (World.ownsRow_nil _ _ _ _) (HB1.out.trans ((kept_drewN w1 _).mono HB1.out.size))
    · have d0 : (er != 0) = true := by simpa using h0
      have E1 : Hid (openP l no = ([], er)) := by show _ = _; rw [E0.out, if_pos h0]
      clear h0
      refine hq.out ?_
      clear hq
      go_wp2_with fail
      go_ret2
      rw [E1.out]
      exact RetBN.mk (World.ownsRow_nil _ _ _ _) HB1.out
  · have e : openP l no = ([], 21) := by unfold openP; rw [if_pos h256]
    rw [e]
    have h2 : ((n : Int) != 256) = true := by simp; omega
    clear e hb hn h256
    go_enter Tryd.func34, Tryd.ntmps34
    go_wp2_with fail
    go_ret2
    exact RetBN.mk (World.ownsRow_nil _ _ _ _) (Below.refl _ _)
end Go.Proofs.YtibhoekbjgoanaaDoor
