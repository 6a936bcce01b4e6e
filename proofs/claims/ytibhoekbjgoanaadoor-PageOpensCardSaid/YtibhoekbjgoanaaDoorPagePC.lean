/- The document's Seal, Open. -/
import Derived.Test.YtibhoekbjgoanaaDoorPagePB
set_option linter.unusedSimpArgs false
set_option linter.unusedVariables false
namespace Go.Proofs.YtibhoekbjgoanaaDoor
open Go.RowKit Go.Proofs.YtibhoekbjgoanaaDoor.Crc
set_option maxHeartbeats 1000000 in
theorem refPSeal_calls (A : Option Addr) (n c : Nat) (l : List UInt8) (w : World) (hn : n = l.length) (hb : Bytes w A l) (hc : n ≤ c) :
    Calls Tryd.prog 33 #[.slice A n c] w (RetBN w (sealP l).1 (sealP l).2) := by
  have HPa := Lib.hid (refParse_calls A n c l w hn hb hc)
  have HB := Lib.hid hb
  have HN := Lib.hid hn
  have HC := Lib.hid hc
  clear hn hb hc
  go_enter Tryd.func33, Tryd.ntmps33
  go_wp2_with (go_at_call 59; (with_reducible refine HPa.out.mono ?_); rintro e w1 ⟨hb1, hor⟩; refine park ?_; intro q hq)
  have HB1 := Lib.hid hb1
  clear hb1 HPa
  rcases hor with ⟨hS, rfl⟩ | ⟨hS, A2, c2, rfl, hR⟩
  · have e : sealP l = ([], 22) := by unfold sealP; rw [if_neg (by rw [hS]; simp)]
    have E := Lib.hid e
    clear e hS
    refine hq.out ?_
    clear hq
    go_wp2_with fail
    go_ret2
    rw [E.out]
    exact RetBN.mk (World.ownsRow_nil _ _ _ _) (HB1.out.alloc HB1.out.size _)
  · have e : sealP l = (sealB (l.take 252), 0) := by unfold sealP; rw [if_pos hS]
    have E := Lib.hid e
    have h256 := soundB_len l hS
    obtain ⟨b, o, rfl⟩ := HB.out.spot (by omega)
    have h2 : n = 256 := by have := HN.out; omega
    subst h2
    have p1 : 252 ≤ c := by have := HC.out; omega
    have hl2 : (l.take 252).length = 252 := by rw [List.length_take, h256]; rfl
    have HSe := Lib.hid (fun (w' : World) (h : Below w.heap.size w w') => refSeal_calls (some ⟨b, o, none⟩) c 252 (l.take 252) w' hl2.symm ((HB.out.below h).take 252) (fun h => by cases h) (by decide))
    have HB2 : Hid (Below w.heap.size w (w1.alloc (Obj.cells #[.int .i64 (numP l : Int), .int .u8 ((at8 l 4).toNat : Int), .slice A2 (cntB l) c2] 63))) := HB1.out.alloc HB1.out.size _
    clear e hS h256 hl2 hR
    refine hq.out ?_
    clear hq
    go_wp2_with (go_at_call 41; (with_reducible refine (HSe.out _ HB2.out).mono ?_); rintro e w3 ⟨A3, c3, rfl, hO3, hb3⟩)
    go_ret2
    rw [E.out]
    exact RetBN.mk (hO3.base HB2.out.size) (HB2.out.trans (hb3.mono HB2.out.size))
set_option maxHeartbeats 1000000 in
theorem refPOpen_calls (A : Option Addr) (n c : Nat) (l : List UInt8) (no : Int) (w : World) (hn : n = l.length) (hb : Bytes w A l) (hc : n ≤ c) (hs : n ≤ 140737488355328) :
    Calls Tryd.prog 35 #[.slice A n c, .int .i64 no] w (RetBN w (openP l no).1 (openP l no).2) := by
  by_cases h256 : l.length = 256
  · obtain ⟨b, o, rfl⟩ := hb.spot (by omega)
    obtain rfl : n = 256 := by omega
    have hC := refOpen_calls (some ⟨b, o, none⟩) c 256 l w hn hb (fun h => by cases h) hc (by decide)
    have HC := Lib.hid hC
    have HL := Lib.hid h256
    have e0 : openP l no = if (openB l).2 ≠ 0 then ([], (openB l).2) else if soundB l = false then ([], 22) else if (numP l : Int) ≠ no then ([], 23) else (ownP l, 0) := by unfold openP; rw [if_neg (by simp [h256])]
    obtain ⟨er, her⟩ : ∃ er, (openB l).2 = er := ⟨_, rfl⟩
    rw [her] at HC e0
    have E0 := Lib.hid e0
    have HB := Lib.hid hb
    have HCc := Lib.hid hc
    clear hC e0 her hb hn h256 hc
    by_cases h0 : er = 0
    · subst h0
      have HC2 : Hid (Calls Tryd.prog 48 #[.slice (some ⟨b, o, none⟩) 256 c] w fun e w' => (∃ v, e = .returned (.tuple #[v, .int .i64 0])) ∧ Below w.heap.size w w') := HC.out.mono fun e w' ⟨he, hb⟩ => ⟨⟨_, he⟩, hb⟩
      go_enter Tryd.func35, Tryd.ntmps35
      go_wp2_with (go_at_call 48; (with_reducible refine HC2.out.mono ?_); rintro e w1 ⟨⟨v1, rfl⟩, hb1⟩; refine park ?_; intro q hq)
      have HB1 := Lib.hid hb1
      have HPa := Lib.hid (refParse_calls (some ⟨b, o, none⟩) 256 c l w1 HL.out.symm (HB.out.below hb1) HCc.out)
      have E1 : Hid (openP l no = if soundB l = false then ([], 22) else if (numP l : Int) ≠ no then ([], 23) else (ownP l, 0)) := by show _ = _; rw [E0.out, if_neg (by decide)]
      clear hb1 HC HC2
      refine hq.out ?_
      clear hq
      go_wp2_with (go_at_call 59; (with_reducible refine HPa.out.mono ?_); rintro e w2 ⟨hb2, hor⟩; refine park ?_; intro q hq)
      have HB2 : Hid (Below w.heap.size w w2) := HB1.out.trans (hb2.mono HB1.out.size)
      clear hb2 HPa
      rcases hor with ⟨hS, rfl⟩ | ⟨hS, A2, c2, rfl, hR⟩
      · have E2 : Hid (openP l no = ([], 22)) := by show _ = _; rw [E1.out, if_pos hS]
        clear hS
        refine hq.out ?_
        clear hq
        go_wp2_with fail
        go_ret2
        rw [E2.out]
        exact RetBN.mk (World.ownsRow_nil _ _ _ _) (HB2.out.alloc HB2.out.size _)
      · have hpg := sound_parse l hS
        have hup := sound_up l hS
        have hnum := numP_le l hup.1 hup.2.1
        have E2 : Hid (openP l no = if (numP l : Int) ≠ no then ([], 23) else (pageB (numP l) (at8 l 4) (cellsR l (cntB l) (cntB l)), 0)) := by show _ = _; rw [E1.out, if_neg (by rw [hS]; simp), hpg.own]
        have HBy := Lib.hid (fun (w' : World) (h : RowsB w' A2 (cellsR l (cntB l) (cntB l))) => refPBytes_calls (numP l) (at8 l 4) A2 (cntB l) c2 (cellsR l (cntB l) (cntB l)) w' hnum (cellsR_len _ _ _).symm h hpg.1)
        obtain ⟨N, hN⟩ : ∃ N, cntB l = N := ⟨_, rfl⟩
        obtain ⟨num, hnu⟩ : ∃ num, numP l = num := ⟨_, rfl⟩
        obtain ⟨kd, hkd⟩ : ∃ kd, at8 l 4 = kd := ⟨_, rfl⟩
        rw [hN, hnu, hkd] at HBy E2
        rw [hN] at hR hq
        rw [hnu, hkd] at hq
        have HB3 : Hid (Below w.heap.size w (w2.alloc (Obj.cells #[.int .i64 (num : Int), .int .u8 (kd.toNat : Int), .slice A2 N c2] 63))) := HB2.out.alloc HB2.out.size _
        have HR3 : Hid (RowsB (w2.alloc (Obj.cells #[.int .i64 (num : Int), .int .u8 (kd.toNat : Int), .slice A2 N c2] 63)) A2 (cellsR l N N)) := hR.below ((Below.refl _ _).alloc (Nat.le_refl _) _)
        clear hpg hup hnum hN hnu hkd hS hR
        by_cases hno : (num : Int) = no
        · have d1 : ((num : Int) != no) = false := by simp [hno]
          have E3 : Hid (openP l no = (pageB num kd (cellsR l N N), 0)) := by show _ = _; rw [E2.out, if_neg (by simpa using hno)]
          clear hno
          refine hq.out ?_
          clear hq
          go_wp2_with (go_at_call 37; (with_reducible refine (HBy.out _ HR3.out).mono ?_); rintro e w4 ⟨A4, c4, rfl, hO4, hb4⟩)
          go_ret2
          rw [E3.out]
          exact RetBN.mk (hO4.base HB3.out.size) (HB3.out.trans (hb4.mono HB3.out.size))
        · have d1 : ((num : Int) != no) = true := by simpa using hno
          have E3 : Hid (openP l no = ([], 23)) := by show _ = _; rw [E2.out, if_pos hno]
          clear hno
          refine hq.out ?_
          clear hq
          go_wp2_with fail
          go_ret2
          rw [E3.out]
          exact RetBN.mk (World.ownsRow_nil _ _ _ _) HB3.out
    · have d0 : (er != 0) = true := by simpa using h0
      have E1 : Hid (openP l no = ([], er)) := by show _ = _; rw [E0.out, if_pos h0]
      have HC2 : Hid (Calls Tryd.prog 48 #[.slice (some ⟨b, o, none⟩) 256 c] w fun e w' => (∃ v, e = .returned (.tuple #[v, .int .i64 er])) ∧ Below w.heap.size w w') := HC.out.mono fun e w' ⟨he, hb⟩ => ⟨⟨_, he⟩, hb⟩
      clear h0 HC
      go_enter Tryd.func35, Tryd.ntmps35
      go_wp2_with (go_at_call 48; (with_reducible refine HC2.out.mono ?_); rintro e w1 ⟨⟨v1, rfl⟩, hb1⟩; refine park ?_; intro q hq)
      have HB1 := Lib.hid hb1
      clear hb1
      refine hq.out ?_
      clear hq
      go_wp2_with fail
      go_ret2
      rw [E1.out]
      exact RetBN.mk (l := []) (v := .slice none 0 0) (World.ownsRow_nil _ _ _ _) HB1.out
  · have e : openP l no = ([], 21) := by unfold openP; rw [if_pos h256]
    rw [e]
    have h2 : ((n : Int) != 256) = true := by simp; omega
    clear e hb hn h256
    go_enter Tryd.func35, Tryd.ntmps35
    go_wp2_with fail
    go_ret2
    exact RetBN.mk (World.ownsRow_nil _ _ _ _) (Below.refl _ _)
end Go.Proofs.YtibhoekbjgoanaaDoor
