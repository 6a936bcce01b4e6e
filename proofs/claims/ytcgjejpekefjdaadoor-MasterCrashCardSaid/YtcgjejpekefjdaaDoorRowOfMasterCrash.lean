/- The statement of MasterCrash: for every input the law answers true, and each argument reads afterwards as it read before; the listed variables start as the program's text lays them. -/
import Derived.Test.YtcgjejpekefjdaaDoorRows
import Derived.Test.YtcgjejpekefjdaaDoorCards
import Derived.Test.YtcgjejpekefjdaaDoorTie
import Derived.Test.YtcgjejpekefjdaaDoorRowKit
import Derived.Test.YtcgjejpekefjdaaDoorMasterCrashW
import Derived.Test.YtcgjejpekefjdaaDoorU64Kit
import Derived.Test.YtcgjejpekefjdaaDoorIntKit
import Derived.Test.YtcgjejpekefjdaaDoorLossKit
import Derived.WalkKit
import Derived.ProofKit
import Derived.OpenShut
import Derived.ShutString
import Derived.ChangeOld
import Derived.Below
import Derived.SizedLaws
import Derived.ChangeSame
import Derived.ChangeVars
import Derived.JoinedOf
import Derived.RowKit
import Derived.RowKitTokens
import Derived.LaidLaws
import Derived.LaidHandle
import Derived.LaidMore
import Derived.Lib.LaidTab
import Derived.SevenTiedAt
import Derived.Lay
import Derived.Stop.LaidErr
namespace Go.Proofs.YtcgjejpekefjdaaDoor.masterCrash
open Go.ChangeShapes Go.WideShapes Go.ChangeAt Go.RowKit Go.Proofs.YtcgjejpekefjdaaDoor
open Go.ChangeMaps (open_string shut_string)
set_option linter.unusedVariables false
set_option linter.unusedSimpArgs false
theorem own : ownKnob Tryd.prog.godebug = none := by kernel_rfl
theorem laidOut : laidOutB Tryd.prog = true := by kernel_rfl
theorem door_met (os : Os) (args : Array Value) : laidMetH Tryd.prog Rows.masterCrashRow.laid ((World.laidAll Tryd.prog os Rows.masterCrashRow.laid).forCall (fun _ _ => 0) ⟨#[], args, []⟩).memory :=
  laidMetH_of_parts (laidMet_laidAll args (by kernel_rfl) (by kernel_rfl)) (by kernel_rfl)
theorem half_datum : (Rows.laid_tabulary_crc_half : DataW Unit) = Lib.tabData .u32 (Crc.halfL.map fun x : BitVec 32 => (x.toNat : Int)) := by kernel_rfl
theorem half_of {W : World} (h : laidMetH Tryd.prog Rows.masterCrashRow.laid W) : Crc.HalfIs W := by
  have h' : laidMet Tryd.prog Rows.masterCrashRow.laid W := h
  unfold Rows.masterCrashRow at h'
  simp only at h'
  replace h' := laidMet.tail h'
  rw [half_datum] at h'
  have hT := Lib.tabIs_of_head (k := .u32) (zs := Crc.halfL.map fun x : BitVec 32 => (x.toNat : Int)) (P := Tryd.prog) (name := "tabulary/crc.half") (g := 0) (t := 148) (e := 130) (n := 16) (by kernel_rfl) (by kernel_rfl) Tryd.underlying148 Tryd.underlying130 (by kernel_rfl) (by kernel_rfl) h'
  intro i hi
  have hc := hT.cell (g := 0) (by kernel_rfl) i (by simpa [Crc.halfL] using hi)
  rw [hc]
  have : ∀ j, j < 16 → (Crc.halfL.map fun x : BitVec 32 => (x.toNat : Int)).getD j 0 = n32 (Crc.half j) := by decide
  rw [this i hi]
set_option maxRecDepth 100000 in
theorem lifted (os : Os) (started : os.Started) (H : Type) (enc : TypeId × Value → H) :
    ReturnsInHanded {} Tryd.checked os 5 .any (fun w args => (Rows.masterCrashSpec.pre enc Tryd.prog Tryd.f5 Rows.masterCrashRow.domain false w args ∧ laidMetH Tryd.prog Rows.masterCrashRow.laid w) ∧ sizedMet enc Tryd.prog Tryd.f5 (OpenSpec.ofChange Rows.masterCrashSpec) false w args) (Rows.masterCrashSpec.post enc Tryd.prog Tryd.f5 false true false false) := by
  refine returnsInHanded_of_change_and (C := Tryd.checked) (X := fun w _ => laidMetH Tryd.prog Rows.masterCrashRow.laid w) (fun _ _ _ hh h => h.of_heap hh) own started (by kernel_rfl) Tryd.func5
    (ChangeSpec.witness_shaped (enc := enc) (C := Tryd.checked) (os := os) (X := fun w _ => laidMetH Tryd.prog Rows.masterCrashRow.laid w) false (World.laidAll Tryd.prog os Rows.masterCrashRow.laid) #[.slice none 0 0, .slice none 0 0, .int .i64 0, .agg #[.slice none 0 0, .int .i64 0, .int .i64 0]] 8 (World.laidAll_os _ _ _) (World.shaped_of_RefB (by kernel_rfl) (by kernel_rfl)) (by kernel_rfl) (by kernel_rfl) (by kernel_rfl) (door_met os _)) ?_
  intro W base args ds gs before hval0 hW hcnd hsz0 hL _
  have hsz : (DataW.weightsEach Tryd.prog (Tryd.f5.params.toList ++ Rows.masterCrashSpec.plain.varTypes Tryd.prog) (ds ++ gs)).all (· ≤ reachBytes) = true := hsz0
  have hval : ∀ (j : Nat) t v, Tryd.f5.params[j]? = some t → args[j]? = some v → Value.okWide Tryd.prog W .any base t v := hval0
  have hW' := hW
  obtain ⟨p, q, hA0, hV, rfl, hfz, hnd⟩ := hW
  have hA : DataW.TrodAll enc Tryd.prog W 0 (fun _ => true) true Tryd.f5.params.toList args.toList ds p := hA0
  rw [Tryd.params5] at hA hval hsz
  obtain ⟨v0, vs0, d0, ds0, p0, q0, hargs, rfl, rfl, h0, r0⟩ := trodAll_cons hA
  obtain ⟨v1, vs1, d1, ds1, p1, q1, rfl, rfl, rfl, h1, r1⟩ := trodAll_cons r0
  obtain ⟨v2, vs2, d2, ds2, p2, q2, rfl, rfl, rfl, h2, r2⟩ := trodAll_cons r1
  obtain ⟨v3, vs3, d3, ds3, p3, q3, rfl, rfl, rfl, h3, r3⟩ := trodAll_cons r2
  obtain ⟨rfl, rfl, rfl⟩ := trodAll_nil r3
  obtain rfl : args = #[v0, v1, v2, v3] := by cases args; simp_all
  obtain ⟨rfl, rfl⟩ := trodVars_none hV
  obtain ⟨A0, len0, c0, rfl⟩ := okWide_slice Tryd.underlying45 (hval 0 45 v0 rfl rfl)
  have k0 := h0
  have lt0 : ∀ x ∈ p0, x.block < W.heap.size := by obtain ⟨m, hm⟩ := k0; exact DataW.trod_lt m _ _ _ hm
  obtain ⟨l0, rfl, hb0, hn0, hc0, hl0⟩ := open_rowsU Tryd.underlying45 Tryd.underlying22 Tryd.underlying49 (by kernel_rfl) (by kernel_rfl) h0
  obtain ⟨A1, len1, c1, rfl⟩ := okWide_slice Tryd.underlying22 (hval 1 22 v1 rfl rfl)
  have k1 := h1
  have lt1 : ∀ x ∈ p1, x.block < W.heap.size := by obtain ⟨m, hm⟩ := k1; exact DataW.trod_lt m _ _ _ hm
  obtain ⟨l1, rfl, hb1, hn1, hc1, hl1, hr1⟩ := open_u64s hsz (j := 1) (t := 22) rfl rfl Tryd.underlying22 Tryd.underlying49 (by kernel_rfl) (by kernel_rfl) h1
  obtain ⟨a2, rfl, rfl, rfl, w2⟩ := open_int Tryd.underlying3 (hval 2 3 v2 rfl rfl) h2
  have g2 : -9223372036854775808 ≤ a2 ∧ a2 ≤ 9223372036854775807 := by simp [Lit.wf, IntKind.min, IntKind.max, IntKind.signed, IntKind.bits] at w2; omega
  have k3 := h3
  have lt3 : ∀ x ∈ p3, x.block < W.heap.size := by obtain ⟨m, hm⟩ := k3; exact DataW.trod_lt m _ _ _ hm
  obtain ⟨A3, c3, K3, x3, y3, rfl, hb3, hl3, gx3, gy3⟩ := open_loss hsz (j := 3) (t := 54) rfl rfl fields25 types25 one25 (by kernel_rfl) Tryd.underlying52 Tryd.underlying4 (by kernel_rfl) (by kernel_rfl) Tryd.underlying3 (hval 3 54 v3 rfl rfl) h3
  clear hA0 hval0 hsz0 hsz
  refine (masterCrash_row A0 c0 l0 A1 c1 l1 a2 A3 c3 K3 x3 y3 W (half_of hL) hb0 hn0 hc0 hl0 hb1 hn1 hc1 hl1 hr1 g2 hb3 hl3 gx3 gy3).mono fun e W' ⟨he, bel⟩ => ?_
  subst he
  exact ⟨_, rfl, _, _, _, [], _, [], hW', trodAll_mk1 (shut_bool Tryd.underlying4 _), (trodAll_cons_mk (Below.trod laidOut (by kernel_rfl) (of_decide_eq_true (by kernel_rfl)) k0 bel lt0) (trodAll_cons_mk (Below.trod laidOut (by kernel_rfl) (of_decide_eq_true (by kernel_rfl)) k1 bel lt1) (trodAll_cons_mk (shut_int Tryd.underlying3 w2) (trodAll_cons_mk (Below.trod laidOut (by kernel_rfl) (of_decide_eq_true (by kernel_rfl)) k3 bel lt3) trodAll_mk0)))), rfl, bel.frame _, fun h => by cases h⟩
theorem over : Rows.masterCrashRow.holds Tryd.pinned (OpenSpec.ofChange Rows.masterCrashSpec) :=
  OpenClaim.holds_of_wide 5 Tryd.f5 rfl rfl rfl rfl rfl rfl rfl ⟨rfl, rfl, rfl, rfl, rfl⟩ rfl rfl rfl rfl rfl (by kernel_rfl) Tryd.func5 (by kernel_rfl)
    (of_decide_eq_true (by kernel_rfl)) (by unfold Func.isWrapper; first | (rw [if_pos (by decide +kernel)]; kernel_rfl) | (rw [if_neg (by decide +kernel)]; exact ⟨rfl, rfl⟩))
    (fun os started H enc _ => lifted os started H enc)
theorem wants (t : TypeId) (h : t ∈ [45, 22, 3, 54]) : Tryd.prog.wantsStandIn t = false := by
  revert t h; intro t h
  simp only [List.mem_cons, List.mem_nil_iff, or_false] at h
  rcases h with rfl | rfl | rfl | rfl
  all_goals kernel_rfl
theorem proved : Rows.MasterCrashCardSaid :=
  Claim7.holds_tied_plain_at .later [] [.data, .data, .pinned] true (true, "fbc4cd2ed57b865b3ce4db9340db1b72fd7aa0f06b063b9f42e206a507b83cdc") false
    over (fun _ h => by cases h) (by kernel_rfl) (fun _ h => by cases h) masterCrash_row_tie rfl ⟨rfl, rfl⟩ (by kernel_rfl) rfl
    (fun f fn hf hfn => by
      obtain rfl : f = 5 := Option.some.inj ((show Tryd.prog.funcNamed "tabulary/tabularylaw10.MasterCrash" = some 5 by kernel_rfl).symm.trans hf) |>.symm
      obtain rfl : fn = Tryd.f5 := (Option.some.inj (Tryd.func5.symm.trans hfn)).symm
      exact ⟨by kernel_rfl, fun j t ht => by
        rw [Tryd.params5] at ht
        exact wants t (List.mem_of_getElem? (by simpa using ht))⟩)
    (by kernel_rfl)
end Go.Proofs.YtcgjejpekefjdaaDoor.masterCrash
namespace Go.Proofs.YtcgjejpekefjdaaDoor
/-- The statement, under a short name. -/
theorem masterCrash_holds : Rows.MasterCrashCardSaid := masterCrash.proved
#print axioms masterCrash_holds
end Go.Proofs.YtcgjejpekefjdaaDoor
