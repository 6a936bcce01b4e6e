/- The walk of StampTears. -/
import Derived.Test.YtibhoekbjgoanaaDoorStampL
import Derived.Test.YtibhoekbjgoanaaDoorStampT
import Derived.Test.YtibhoekbjgoanaaDoorHand
set_option linter.unusedSimpArgs false
set_option linter.unusedVariables false
namespace Go.Proofs.YtibhoekbjgoanaaDoor
open Go.RowKit Go.Proofs.YtibhoekbjgoanaaDoor.Crc
set_option maxRecDepth 100000 in
set_option maxHeartbeats 2000000 in
theorem stampTears_row (A : Option Addr) (c : Nat) (old : List UInt8) (B : Option Addr) (d : Nat) (young : List UInt8) (at_ : Int) (w : World) (hh : HalfIs w)
    (hb : Bytes w A old) (hnil : A = none → c = 0) (hc : old.length ≤ c) (hl : old.length ≤ 140737488351232)
    (hb2 : Bytes w B young) (hnil2 : B = none → d = 0) (hc2 : young.length ≤ d) (hl2 : young.length ≤ 140737488351232) (hat : -9223372036854775808 ≤ at_ ∧ at_ ≤ 9223372036854775807) :
    Calls Tryd.prog 7 #[.slice A old.length c, .slice B young.length d, .int .i64 at_] w fun e w' => e = .returned (.bool true) ∧ Below w.heap.size w w' := by
  have HH := Lib.hid hh
  have HA := Lib.hid hb
  have HB := Lib.hid hb2
  have HNA := Lib.hid hnil
  have HNB := Lib.hid hnil2
  obtain ⟨n, hn⟩ : ∃ n, old.length = n := ⟨_, rfl⟩
  obtain ⟨m, hm⟩ : ∃ m, young.length = m := ⟨_, rfl⟩
  have HN := Lib.hid hn
  have HM := Lib.hid hm
  rw [hn] at hc hl ⊢
  rw [hm] at hc2 hl2 ⊢
  clear hh hb hb2 hnil hnil2 hn hm
  have hd : Hid (Below w.heap.size w w.drew) := (Below.refl _ _).drew
  by_cases h1 : n > 1000
  · have e1 : decide ((n : Int) > 1000) = true := by simp; omega
    go_enter Tryd.func7, Tryd.ntmps7
    go_wp2_with fail
    go_quiet (fail)
    go_wp2_with fail
    go_ret
    exact ⟨rfl, below_drewN _ _⟩
  · have e1 : decide ((n : Int) > 1000) = false := by simp; omega
    by_cases h2 : m > 1000
    · have e2 : decide ((m : Int) > 1000) = true := by simp; omega
      go_enter Tryd.func7, Tryd.ntmps7
      go_wp2_with fail
      go_quiet (fail)
      go_wp2_with fail
      go_ret
      exact ⟨rfl, below_drewN _ _⟩
    · have e2 : decide ((m : Int) > 1000) = false := by simp; omega
      have C1 := Lib.hid (fun (w' : World) (h : Hid (Below w.heap.size w w')) => Torn_calls A n c old B m d young at_ w' HN.out.symm (HA.out.below h.out) hc HNA.out HM.out.symm (HB.out.below h.out) hc2 HNB.out (by omega) (by omega))
      have C2 := Lib.hid (fun (w' : World) (h : Hid (Below w.heap.size w w')) => refTorn_calls A n c old B m d young at_ w' HN.out.symm (HA.out.below h.out) HM.out.symm (HB.out.below h.out) (by omega) (by omega) hat)
      have C3 := Lib.hid (fun (w' : World) (h : Hid (Below w.heap.size w w')) => works7_calls w' (HH.out.below h.out))
      generalize tornB old young at_ = r at C1 C2
      clear HA HB HH HNA HNB HN HM
      go_enter Tryd.func7, Tryd.ntmps7
      go_wp2_with fail
      refine wp_region_any (by as_aux_lemma => kernel_rfl) ?_
      change wpAny _ _ _ _ _ _ _ (World.drew _)
      refine anyTake (i := 0) (v := .slice A n c) (some 7) rfl rfl (by as_aux_lemma => kernel_rfl) (by as_aux_lemma => kernel_rfl) (by as_aux_lemma => kernel_rfl) (fun _ _ _ h => h) (Or.inl ⟨by rfl, fun w => by go_simp⟩) ?_
      try simp only [Act.put, List.setIfInBounds_toArray, List.set_cons_zero, List.set_cons_succ]
      refine anyTake (i := 1) (v := .int .i64 (n : Int)) (some 8) rfl rfl (by as_aux_lemma => kernel_rfl) (by as_aux_lemma => kernel_rfl) (by as_aux_lemma => kernel_rfl) (fun _ _ _ h => h) (Or.inl ⟨by rfl, fun w => by go_simp⟩) ?_
      try simp only [Act.put, List.setIfInBounds_toArray, List.set_cons_zero, List.set_cons_succ]
      refine anyTake (i := 2) (v := .bool false) (some 9) rfl rfl (by as_aux_lemma => kernel_rfl) (by as_aux_lemma => kernel_rfl) (by as_aux_lemma => kernel_rfl) (fun _ _ _ h => h) (Or.inl ⟨by rfl, fun w => by go_simp⟩) ?_
      try simp only [Act.put, List.setIfInBounds_toArray, List.set_cons_zero, List.set_cons_succ]
      refine anyTake (i := 3) (v := .bool false) (some 10) rfl rfl (by as_aux_lemma => kernel_rfl) (by as_aux_lemma => kernel_rfl) (by as_aux_lemma => kernel_rfl) (fun _ _ _ h => h) (Or.inl ⟨by rfl, fun w => by go_simp⟩) ?_
      try simp only [Act.put, List.setIfInBounds_toArray, List.set_cons_zero, List.set_cons_succ]
      refine anyTake (i := 4) (v := .slice B m d) (some 11) rfl rfl (by as_aux_lemma => kernel_rfl) (by as_aux_lemma => kernel_rfl) (by as_aux_lemma => kernel_rfl) (fun _ _ _ h => h) (Or.inl ⟨by rfl, fun w => by go_simp⟩) ?_
      try simp only [Act.put, List.setIfInBounds_toArray, List.set_cons_zero, List.set_cons_succ]
      refine anyTake (i := 5) (v := .int .i64 (m : Int)) (some 12) rfl rfl (by as_aux_lemma => kernel_rfl) (by as_aux_lemma => kernel_rfl) (by as_aux_lemma => kernel_rfl) (fun _ _ _ h => h) (Or.inl ⟨by rfl, fun w => by go_simp⟩) ?_
      try simp only [Act.put, List.setIfInBounds_toArray, List.set_cons_zero, List.set_cons_succ]
      refine anyTake (i := 6) (v := .bool false) (some 13) rfl rfl (by as_aux_lemma => kernel_rfl) (by as_aux_lemma => kernel_rfl) (by as_aux_lemma => kernel_rfl) (fun _ _ _ h => h) (Or.inl ⟨by rfl, fun w => by go_simp⟩) ?_
      try simp only [Act.put, List.setIfInBounds_toArray, List.set_cons_zero, List.set_cons_succ]
      refine anyTake (i := 7) (v := .bool false) (some 14) rfl rfl (by as_aux_lemma => kernel_rfl) (by as_aux_lemma => kernel_rfl) (by as_aux_lemma => kernel_rfl) (fun _ _ _ h => h) (Or.inl ⟨by rfl, fun w => by go_simp⟩) ?_
      try simp only [Act.put, List.setIfInBounds_toArray, List.set_cons_zero, List.set_cons_succ]
      refine anyTake (i := 8) (v := .bool false) (some 15) rfl rfl (by as_aux_lemma => kernel_rfl) (by as_aux_lemma => kernel_rfl) (by as_aux_lemma => kernel_rfl) (fun _ _ _ h => h) (Or.inl ⟨by rfl, fun w => by go_simp⟩) ?_
      try simp only [Act.put, List.setIfInBounds_toArray, List.set_cons_zero, List.set_cons_succ]
      refine anyTake (i := 9) (v := .slice A n c) (some 16) rfl rfl (by as_aux_lemma => kernel_rfl) (by as_aux_lemma => kernel_rfl) (by as_aux_lemma => kernel_rfl) (fun _ _ _ h => h) (Or.inl ⟨by rfl, fun w => by go_simp⟩) ?_
      try simp only [Act.put, List.setIfInBounds_toArray, List.set_cons_zero, List.set_cons_succ]
      refine anyTake (i := 10) (v := .slice B m d) (some 17) rfl rfl (by as_aux_lemma => kernel_rfl) (by as_aux_lemma => kernel_rfl) (by as_aux_lemma => kernel_rfl) (fun _ _ _ h => h) (Or.inl ⟨by rfl, fun w => by go_simp⟩) ?_
      try simp only [Act.put, List.setIfInBounds_toArray, List.set_cons_zero, List.set_cons_succ]
      refine anyTake (i := 11) (v := .int .i64 at_) (some 18) rfl rfl (by as_aux_lemma => kernel_rfl) (by as_aux_lemma => kernel_rfl) (by as_aux_lemma => kernel_rfl) (fun _ _ _ h => h) (Or.inl ⟨by rfl, fun w => by go_simp⟩) ?_
      try simp only [Act.put, List.setIfInBounds_toArray, List.set_cons_zero, List.set_cons_succ]
      refine anyTake (i := 14) (v := .slice A n c) (some 21) rfl rfl (by as_aux_lemma => kernel_rfl) (by as_aux_lemma => kernel_rfl) (by as_aux_lemma => kernel_rfl) (fun _ _ _ h => h) (Or.inl ⟨by rfl, fun w => by go_simp⟩) ?_
      try simp only [Act.put, List.setIfInBounds_toArray, List.set_cons_zero, List.set_cons_succ]
      refine anyTake (i := 15) (v := .slice B m d) (some 22) rfl rfl (by as_aux_lemma => kernel_rfl) (by as_aux_lemma => kernel_rfl) (by as_aux_lemma => kernel_rfl) (fun _ _ _ h => h) (Or.inl ⟨by rfl, fun w => by go_simp⟩) ?_
      try simp only [Act.put, List.setIfInBounds_toArray, List.set_cons_zero, List.set_cons_succ]
      refine anyTake (i := 16) (v := .int .i64 at_) (some 23) rfl rfl (by as_aux_lemma => kernel_rfl) (by as_aux_lemma => kernel_rfl) (by as_aux_lemma => kernel_rfl) (fun _ _ _ h => h) (Or.inl ⟨by rfl, fun w => by go_simp⟩) ?_
      try simp only [Act.put, List.setIfInBounds_toArray, List.set_cons_zero, List.set_cons_succ]
      refine wpAny_ready (rs := [12]) (by as_aux_lemma => kernel_rfl) (by simp) ?_
      refine AllReady.cons rfl (fun K hK => ?_) AllReady.nil
      have HK := Lib.hid hK
      clear hK
      go_wp2_with (go_at_call 22; (with_reducible refine (C1.out _ hd).mono ?_); rintro e wa ⟨Aa, ca, rfl, hOa, hba⟩; refine park ?_; intro q hq)
      have HBa : Hid (Below w.heap.size w wa) := hd.out.trans (hba.mono hd.out.size)
      have HOa := Lib.hid hOa
      clear hOa hba
      refine hq.out ?_
      clear hq
      refine HK.out _ _ ?_
      clear HK
      try simp only [Act.put, List.setIfInBounds_toArray, List.set_cons_zero, List.set_cons_succ]
      refine wpAny_of_held (S := fun w' => Hid (Below wa.heap.size wa w')) _ _ _ _ ?_
      refine heldTake (i := 13) (v := .string (bstr r)) (some 20) rfl rfl (by as_aux_lemma => kernel_rfl) (by as_aux_lemma => kernel_rfl) (by as_aux_lemma => kernel_rfl) (fun _ _ _ h => h) (yieldsIf_conv (by rfl) 23 9 (.tmp 19) rfl (.slice Aa r.length ca) rfl (fun w' h => run_str rfl (HOa.out.below h.out).bytes)) (hid0 wa) ?_
      try simp only [Act.put, List.setIfInBounds_toArray, List.set_cons_zero, List.set_cons_succ]
      refine heldOne (i := 17) (by as_aux_lemma => kernel_rfl) rfl (fun K hK => ?_)
      have HK := Lib.hid hK
      clear hK
      rw [if_pos (by rfl)]
      go_wp2_with (go_at_call 23; (with_reducible refine (C2.out _ HBa).mono ?_); rintro e wb ⟨Ab, cb, rfl, hOb, hbb⟩; refine park ?_; intro q hq)
      have HBb : Hid (Below w.heap.size w wb) := HBa.out.trans (hbb.mono HBa.out.size)
      have HSb : Hid (Below wa.heap.size wa wb) := hbb
      have hcb := run_str (c := cb) rfl hOb.bytes
      clear hOb hbb
      refine hq.out ?_
      clear hq
      refine HK.out _ _ HSb ?_
      clear HK
      try simp only [Act.put, List.setIfInBounds_toArray, List.set_cons_zero, List.set_cons_succ]
      refine heldOne (i := 18) (by as_aux_lemma => kernel_rfl) rfl (fun K hK => ?_)
      have HK := Lib.hid hK
      clear hK
      rw [if_pos (by rfl)]
      go_wp2_with fail
      refine HK.out _ _ HSb ?_
      clear HK
      try simp only [Act.put, List.setIfInBounds_toArray, List.set_cons_zero, List.set_cons_succ]
      refine heldOne (i := 19) (by as_aux_lemma => kernel_rfl) rfl (fun K hK => ?_)
      have HK := Lib.hid hK
      clear hK
      rw [if_pos (by rfl)]
      go_wp2_with fail
      refine HK.out _ _ HSb ?_
      clear HK
      try simp only [Act.put, List.setIfInBounds_toArray, List.set_cons_zero, List.set_cons_succ]
      refine heldOne (i := 20) (by as_aux_lemma => kernel_rfl) rfl (fun K hK => ?_)
      have HK := Lib.hid hK
      clear hK
      rw [if_pos (by rfl)]
      go_wp2_with fail
      refine HK.out _ _ HSb ?_
      clear HK
      try simp only [Act.put, List.setIfInBounds_toArray, List.set_cons_zero, List.set_cons_succ]
      refine heldOne (i := 21) (by as_aux_lemma => kernel_rfl) rfl (fun K hK => ?_)
      have HK := Lib.hid hK
      clear hK
      rw [if_pos (by rfl)]
      go_wp2_with (go_at_call 19; (with_reducible refine (C3.out _ HBb).mono ?_); rintro e wz ⟨rfl, hbz⟩; refine park ?_; intro q hq)
      have HBz : Hid (Below w.heap.size w wz) := HBb.out.trans (hbz.mono HBb.out.size)
      have HSz : Hid (Below wa.heap.size wa wz) := HSb.out.trans (hbz.mono HSb.out.size)
      clear hbz hcb
      refine hq.out ?_
      clear hq
      refine HK.out _ _ HSz ?_
      clear HK
      try simp only [Act.put, List.setIfInBounds_toArray, List.set_cons_zero, List.set_cons_succ]
      refine heldOne (i := 22) (by as_aux_lemma => kernel_rfl) rfl (fun K hK => ?_)
      have HK := Lib.hid hK
      clear hK
      rw [if_pos (by rfl)]
      go_wp2_with fail
      refine HK.out _ _ HSz ?_
      clear HK
      try simp only [Act.put, List.setIfInBounds_toArray, List.set_cons_zero, List.set_cons_succ]
      refine heldOne (i := 23) (by as_aux_lemma => kernel_rfl) rfl (fun K hK => ?_)
      have HK := Lib.hid hK
      clear hK
      rw [if_pos (by rfl)]
      go_wp2_with fail
      refine HK.out _ _ HSz ?_
      clear HK
      try simp only [Act.put, List.setIfInBounds_toArray, List.set_cons_zero, List.set_cons_succ]
      refine heldOne (i := 24) (by as_aux_lemma => kernel_rfl) rfl (fun K hK => ?_)
      have HK := Lib.hid hK
      clear hK
      rw [if_pos (by rfl)]
      go_wp2_with fail
      refine HK.out _ _ HSz ?_
      clear HK
      try simp only [Act.put, List.setIfInBounds_toArray, List.set_cons_zero, List.set_cons_succ]
      refine wpAnyH_done (by as_aux_lemma => kernel_rfl) ?_ _
      go_wp2_with fail
      go_ret
      exact ⟨rfl, HBz.out⟩
end Go.Proofs.YtibhoekbjgoanaaDoor
