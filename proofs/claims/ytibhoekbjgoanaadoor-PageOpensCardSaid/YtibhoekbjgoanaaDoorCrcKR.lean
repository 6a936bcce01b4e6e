/- The walks of the document's own answers for the sums: Sum, Seal, Open. -/
import Derived.Test.YtibhoekbjgoanaaDoorCrcK
import Derived.Deep.RegionWith
namespace Go.Proofs.YtibhoekbjgoanaaDoor.Crc
open Go.RowKit Go.Proofs.YtibhoekbjgoanaaDoor
set_option linter.unusedSimpArgs false
set_option linter.unusedVariables false
attribute [local go_sem] signed_u32 xor32_poly xor32 shr32_1

theorem lsb_rem (a : BitVec 32) : (n32 a % (2 : Int) == 1) = a.getLsbD 0 := by
  unfold n32
  have h : a.getLsbD 0 = decide (a.toNat / 2 ^ 0 % 2 = 1) := by rw [BitVec.getLsbD, Nat.testBit_eq_decide_div_mod_eq]
  rw [h, Bool.eq_iff_iff, beq_iff_eq, decide_eq_true_iff]
  omega

set_option maxRecDepth 100000 in
set_option maxHeartbeats 400000 in
theorem refdown_calls (h : BitVec 32) (w : World) :
    Calls Tryd.prog 74 #[.int .u32 (n32 h)] w fun e w' => e = .returned (.int .u32 (n32 (D h))) ∧ w = w' := by
  have t := lsb_rem h
  have b1 := n32_lo h
  have b2 := n32_hi h
  cases hl : h.getLsbD 0
  all_goals
    rw [hl] at t
    have HL := Lib.hid hl
    clear hl
    go_enter Tryd.func74, Tryd.ntmps74
    go_wp2
    go_ret
    exact ⟨ret_int (by unfold D; rw [HL.out]; first | rfl | (simp; done) | (simp; exact shr32_1 h)), rfl⟩

theorem raw_take (h : BitVec 32) (l : List UInt8) (k : Nat) (hk : k < l.length) : sumB h (l.take (k + 1)) = Dn 8 (sumB h (l.take k) ^^^ (at8 l k).toBitVec.setWidth 32) := by
  rw [take_snoc8 l k hk, sumB_snoc]; rfl

set_option maxRecDepth 100000 in
set_option maxHeartbeats 1000000 in
theorem refRaw_calls (h : BitVec 32) (A : Option Addr) (c m : Nat) (l : List UInt8) (w : World) (hm : m = l.length) (hb : Bytes w A l) (hl : m ≤ 9223372036854775807) :
    Calls Tryd.prog 67 #[.int .u32 (n32 h), .slice A m c] w fun e w' => e = .returned (.int .u32 (n32 (sumB h l))) ∧ w = w' := by
  subst hm
  have HB := Lib.hid hb
  clear hb
  go_enter Tryd.func67, Tryd.ntmps67
  go_wp2
  go_loop [0, 5] (fun x i => ∃ k : Nat, k ≤ l.length ∧ i = .int .i64 k ∧ x = .int .u32 (n32 (sumB h (l.take k)))) (fun _ i => l.length - (intOf i).toNat)
  case atStart => exact ⟨0, Nat.zero_le _, rfl, rfl⟩
  case round =>
    obtain ⟨k, hk, rfl, rfl⟩ := hrel
    by_cases hlt : k < l.length
    · obtain ⟨ad, hA, hx⟩ := HB.out k hlt
      cases hA
      have HS := Lib.hid (raw_take h l k hlt)
      obtain ⟨y, hy⟩ : ∃ y, y = sumB h (l.take k) ^^^ (at8 l k).toBitVec.setWidth 32 := ⟨_, rfl⟩
      have e1 : bits .xor .u32 (n32 (sumB h (l.take k))) ((at8 l k).toNat : Int) = n32 y := by rw [hy]; exact xor32_u8 _ _
      have HY := Lib.hid hy
      clear hy
      obtain ⟨b1, b2⟩ := ltu8 (at8 l k)
      go_wp2
      go_loop [0, 6] (fun x j => ∃ q : Nat, q ≤ 8 ∧ j = .int .i64 q ∧ x = .int .u32 (n32 (Dn q y))) (fun _ j => 8 - (intOf j).toNat)
      case atStart => exact ⟨0, by decide, rfl, rfl⟩
      case round =>
        obtain ⟨q, hq, rfl, rfl⟩ := hrel
        by_cases hlq : q < 8
        · have HD := Lib.hid (Dn_succ' q y)
          go_wp2_with (go_at_call 74; refine (refdown_calls _ _).mono ?_; rintro e w' ⟨rfl, rfl⟩)
          go_round
          case rel => exact ⟨q + 1, by omega, by go_num, by rw [HD.out]⟩
          case measure => simp [intOf]; omega
        · have hq8 : q = 8 := by omega
          have HE : Hid (n32 (Dn q y) = n32 (sumB h (l.take (k + 1)))) := by show _ = _; rw [HS.out, ← HY.out, hq8]
          clear hq8
          go_wp2
          go_round
          case rel => exact ⟨k + 1, by omega, by go_num, by rw [HE.out]⟩
          case measure => simp [intOf]; omega
    · go_wp2
      go_ret
      exact ⟨ret_int (by rw [List.take_of_length_le (by omega)]), rfl⟩

set_option maxRecDepth 100000 in
set_option maxHeartbeats 400000 in
theorem refSum_calls (A : Option Addr) (c m : Nat) (l : List UInt8) (w : World) (hm : m = l.length) (hb : Bytes w A l) (hl : m ≤ 9223372036854775807) :
    Calls Tryd.prog 61 #[.slice A m c] w fun e w' => e = .returned (.int .u32 (n32 (crc l))) ∧ w = w' := by
  have HB := Lib.hid hb
  have HM := Lib.hid hm
  clear hb hm
  have en := not32 (sumB ones l)
  have C := Lib.hid (show Calls Tryd.prog 67 #[.int .u32 4294967295, .slice A m c] w fun e w' => e = .returned (.int .u32 (n32 (sumB ones l))) ∧ w = w' from refRaw_calls ones A c m l w HM.out HB.out hl)
  go_enter Tryd.func61, Tryd.ntmps61
  go_wp2_with (go_at_call 67; refine C.out.mono ?_; rintro e w' ⟨rfl, rfl⟩)
  go_ret
  exact ⟨rfl, rfl⟩

attribute [local go_sem] byteOf_mod shr32_8 shr32_16 shr32_24

set_option maxRecDepth 100000 in
set_option maxHeartbeats 400000 in
theorem refSeal_calls (A : Option Addr) (c m : Nat) (l : List UInt8) (w : World) (hm : m = l.length) (hb : Bytes w A l) (hnil : A = none → c = 0) (hl : m + 4 ≤ 140737488355328) :
    Calls Tryd.prog 41 #[.slice A m c] w (RetB w (sealB l)) := by
  subst hm
  have HB := Lib.hid hb
  have HN := Lib.hid hnil
  clear hb hnil
  have b1 := n32_lo (crc l)
  have b2 := n32_hi (crc l)
  go_enter Tryd.func41, Tryd.ntmps41
  go_wp2_with (first | (go_at_call 61; refine (refSum_calls A c _ l _ rfl HB.out (by omega)).mono ?_; rintro e w' ⟨rfl, rfl⟩) | (with_reducible refine park_append ?_; intro q hq))
  refine hq.out ?_
  clear hq
  refine wpList_append_bytes rfl _ _ rfl w.heap.size _ [] rfl (OwnB.lit w _ (Nat.le_refl _) [] [] rfl 0 rfl (by decide)) A l.length c l rfl rfl HN.out (HB.out.alloc _) (by simp; omega) (by simp) ?_
  intro v2 w2 hown2 hg2 _
  have HB2 := Lib.hid (((Below.refl w.heap.size w).alloc (Nat.le_refl _) _).grown hg2 (by simp) (fun k hk => by cases hk; exact Nat.le_refl _))
  have HO2 := Lib.hid hown2
  clear hown2 hg2
  go_wp2_with (with_reducible refine park_append ?_; intro q hq)
  refine hq.out ?_
  clear hq
  refine wpList_append_bytes rfl _ _ rfl w.heap.size v2 l rfl (by simpa using HO2.out.alloc _) (some ⟨w2.heap.size, 0, none⟩) 4 4 (le4 (crc l)) rfl rfl (fun h => by cases h) (bytes_of_block (heap_alloc_new w2 _) ?bb) (by simp [le4_length]; omega) (by simp; have := HB2.out.size; omega) ?_
  case bb => simp [le4, cells8, byteOf_tmod, u8_mod]
  intro v3 w3 hown3 hg3 _
  have HB3 := Lib.hid ((HB2.out.alloc HB2.out.size _).grown hg3 (by simp; have := HB2.out.size; omega) (fun k hk => (HO2.out.lt k hk).1))
  have HO3 := Lib.hid hown3
  clear hown3 hg3
  go_wp2
  go_ret
  exact RetB.mk HO3.out HB3.out

theorem open_iff (l : List UInt8) (h : ¬ l.length < 4) : (l.drop (l.length - 4) = le4 (crc (l.take (l.length - 4)))) ↔ sealB (l.take (l.length - 4)) = l := by
  unfold sealB
  constructor
  · intro e; rw [← e, List.take_append_drop]
  · intro e
    have := congrArg (fun x => x.drop (l.length - 4)) e
    rw [← show List.drop (l.length - 4) (List.take (l.length - 4) l ++ le4 (crc (List.take (l.length - 4) l))) = List.drop (l.length - 4) l from this, List.drop_append_of_le_length (by rw [List.length_take]; omega), List.drop_eq_nil_of_le (by rw [List.length_take]; omega), List.nil_append]

set_option maxRecDepth 100000 in
set_option maxHeartbeats 1000000 in
theorem refOpen_calls (A : Option Addr) (c m : Nat) (l : List UInt8) (w : World) (hm : m = l.length) (hb : Bytes w A l) (hnil : A = none → c = 0) (hc : m ≤ c) (hl : m ≤ 140737488355328) :
    Calls Tryd.prog 48 #[.slice A m c] w fun e w' => e = .returned (.tuple #[if (openB l).2 = 0 then .slice A (m - 4) c else .slice none 0 0, .int .i64 (openB l).2]) ∧ Below w.heap.size w w' := by
  subst hm
  have HB := Lib.hid hb
  have HN := Lib.hid hnil
  clear hb hnil
  by_cases h4 : l.length < 4
  · have e : openB l = ([], 21) := by unfold openB; rw [if_pos h4]
    rw [e]
    clear e
    go_enter Tryd.func48, Tryd.ntmps48
    go_wp2
    go_ret2
    exact ⟨rfl, Below.refl _ _⟩
  · obtain ⟨n, hn⟩ : ∃ n, l.length = n + 4 := ⟨l.length - 4, by omega⟩
    have hcn : n ≤ c := by omega
    have hbig : n + 4 ≤ 140737488355328 := by omega
    have hn4 : (n : Int) + 4 - 4 = n := by omega
    have HS : Hid (openB l = if sealB (l.take n) = l then (l.take n, 0) else ([], 20)) := by
      show openB l = _
      have := open_iff l h4
      rw [hn, Nat.add_sub_cancel] at this
      unfold openB; rw [if_neg h4, hn, Nat.add_sub_cancel]
      by_cases e : sealB (l.take n) = l
      · rw [if_pos e, if_pos (this.mpr e)]
      · rw [if_neg e, if_neg (fun x => e (this.mp x))]
    have HL := Lib.hid hn
    have HT : Hid (n = (l.take n).length) := by show n = _; rw [List.length_take, hn]; omega
    have hsub : l.length - 4 = n := by omega
    rw [hsub]
    rw [hn]
    clear hn h4 hc hl hsub
    have es : IntKind.i64.wrap ((n : Int) + 4 - 4) = n := by rw [hn4]; exact IntWalk.i64_in _ (by omega)
    have hcv := fun (w' : World) (h : Hid (Below w.heap.size w w')) => run_str (m := n + 4) (c := c) HL.out.symm (HB.out.below h.out)
    have C1 := Lib.hid (fun (w' : World) (h : Hid (Below w.heap.size w w')) => refSeal_calls A c n (l.take n) w' HT.out ((HB.out.below h.out).take n) HN.out hbig)
    generalize l.take n = p at *
    have hd : Hid (Below w.heap.size w w.drew) := (Below.refl _ _).drew
    by_cases he : sealB p = l
    · have hb1 : ((bstr (sealB p)).toList == (bstr l).toList) = true := by rw [he]; simp
      rw [HS.out, if_pos he]
      simp only [↓reduceIte]
      clear he HS
      go_enter Tryd.func48, Tryd.ntmps48
      go_wp2
      go_region_with (first | (go_at_call 41; (with_reducible refine (C1.out _ (by assumption)).mono ?_); rintro e w' ⟨A', c', rfl, hown, hb⟩; have hb2 := (show Hid (Below w.heap.size w w') from Below.trans (show Below w.heap.size w _ from by assumption) (hb.mono (by have := Below.size (show Below w.heap.size w _ from by assumption); omega))); have hs := run_str (c := c') rfl hown.bytes; clear hown hb))
      all_goals
        go_wp2
        go_ret2
        exact ⟨rfl, by assumption⟩
    · have hb1 : ((bstr (sealB p)).toList == (bstr l).toList) = false := by
        rw [bstr_toList, bstr_toList]
        exact beq_eq_false_iff_ne.mpr he
      rw [HS.out, if_neg he]
      simp only [show ¬ (20 : Int) = 0 by decide, ↓reduceIte]
      clear he HS
      go_enter Tryd.func48, Tryd.ntmps48
      go_wp2
      go_region_with (first | (go_at_call 41; (with_reducible refine (C1.out _ (by assumption)).mono ?_); rintro e w' ⟨A', c', rfl, hown, hb⟩; have hb2 := (show Hid (Below w.heap.size w w') from Below.trans (show Below w.heap.size w _ from by assumption) (hb.mono (by have := Below.size (show Below w.heap.size w _ from by assumption); omega))); have hs := run_str (c := c') rfl hown.bytes; clear hown hb))
      all_goals
        go_wp2
        go_ret2
        exact ⟨rfl, by assumption⟩
def RefOpened (w0 : World) (l : List UInt8) (e : Ending) (w' : World) : Prop :=
  ∃ Az cz, e = .returned (.tuple #[.slice Az (openB l).1.length cz, .int .i64 (openB l).2]) ∧ Bytes w0 Az (openB l).1 ∧ Below w0.heap.size w0 w'
set_option maxRecDepth 100000 in
theorem refOpen_told (A : Option Addr) (c m : Nat) (l : List UInt8) (w : World) (hm : m = l.length) (hb : Bytes w A l) (hnil : A = none → c = 0) (hc : m ≤ c) (hl : m ≤ 140737488355328) :
    Calls Tryd.prog 48 #[.slice A m c] w (RefOpened w l) :=
  (refOpen_calls A c m l w hm hb hnil hc hl).mono fun e w' ⟨he, hw⟩ => by
    subst hm
    by_cases h0 : (openB l).2 = 0
    · have h1 : (openB l).1 = l.take (l.length - 4) := by
        unfold openB at h0 ⊢
        by_cases h4 : l.length < 4
        · rw [if_pos h4] at h0; exact absurd h0 (by decide)
        · rw [if_neg h4] at h0 ⊢
          split at h0
          · rename_i h; rw [if_pos h]
          · exact absurd h0 (by decide)
      rw [if_pos h0] at he
      refine ⟨A, c, ?_, ?_, hw⟩
      · rw [he, h1, List.length_take, Nat.min_eq_left (by omega)]
      · rw [h1]; exact hb.take _
    · have h1 : (openB l).1 = [] := by
        unfold openB at h0 ⊢
        by_cases h4 : l.length < 4
        · rw [if_pos h4]
        · rw [if_neg h4] at h0 ⊢
          split at h0
          · exact absurd rfl h0
          · rename_i h; rw [if_neg h]
      rw [if_neg h0] at he
      refine ⟨none, 0, ?_, ?_, hw⟩
      · rw [he, h1]; rfl
      · rw [h1]; exact Bytes.nil _ _

end Go.Proofs.YtibhoekbjgoanaaDoor.Crc
