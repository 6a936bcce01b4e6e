/- The statement of PageOpens: for every input the law answers true, and each argument reads afterwards as it read before; the listed variables start as the program's text lays them. -/
import Derived.Test.YtibhoekbjgoanaaDoorRows
import Derived.Test.YtibhoekbjgoanaaDoorCards
import Derived.Test.YtibhoekbjgoanaaDoorTie
import Derived.Test.YtibhoekbjgoanaaDoorRowKit
import Derived.Test.YtibhoekbjgoanaaDoorPageOpensW
import Derived.WalkKit
import Derived.ProofKit
import Derived.OpenShut
import Derived.ShutString
import Derived.ChangeOld
import Derived.Below
import Derived.SizedLaws
import Derived.ChangeSame
import Derived.ChangeVars
import Derived.JoinedOf
import Derived.RowKit
import Derived.RowKitTokens
import Derived.LaidLaws
import Derived.LaidHandle
import Derived.LaidMore
import Derived.Lib.LaidTab
import Derived.SevenTiedAt
import Derived.Lay
import Derived.Stop.LaidErr
namespace Go.Proofs.YtibhoekbjgoanaaDoor.pageOpens
open Go.ChangeShapes Go.WideShapes Go.ChangeAt Go.RowKit Go.Proofs.YtibhoekbjgoanaaDoor
open Go.ChangeMaps (open_string shut_string)
set_option linter.unusedVariables false
set_option linter.unusedSimpArgs false
theorem own : ownKnob Tryd.prog.godebug = none := by kernel_rfl
theorem laidOut : laidOutB Tryd.prog = true := by kernel_rfl
theorem door_met (os : Os) (args : Array Value) : laidMetH Tryd.prog Rows.pageOpensRow.laid ((World.laidAll Tryd.prog os Rows.pageOpensRow.laid).forCall (fun _ _ => 0) ⟨#[], args, []⟩).memory :=
  laidMetH_of_parts (laidMet_laidAll args (by kernel_rfl) (by kernel_rfl)) (by kernel_rfl)
theorem half_datum : (Rows.laid_tabulary_crc_half : DataW Unit) = Lib.tabData .u32 (Crc.halfL.map fun x : BitVec 32 => (x.toNat : Int)) := by kernel_rfl
theorem half_of {W : World} (h : laidMetH Tryd.prog Rows.pageOpensRow.laid W) : Crc.HalfIs W := by
  have h' : laidMet Tryd.prog Rows.pageOpensRow.laid W := h
  unfold Rows.pageOpensRow at h'
  simp only at h'
  replace h' := laidMet.tail h'
  rw [half_datum] at h'
  have hT := Lib.tabIs_of_head (k := .u32) (zs := Crc.halfL.map fun x : BitVec 32 => (x.toNat : Int)) (P := Tryd.prog) (name := "tabulary/crc.half") (g := 0) (t := 99) (e := 41) (n := 16) (by kernel_rfl) (by kernel_rfl) Tryd.underlying99 Tryd.underlying41 (by kernel_rfl) (by kernel_rfl) h'
  intro i hi
  have hc := hT.cell (g := 0) (by kernel_rfl) i (by simpa [Crc.halfL] using hi)
  rw [hc]
  have : ∀ j, j < 16 → (Crc.halfL.map fun x : BitVec 32 => (x.toNat : Int)).getD j 0 = n32 (Crc.half j) := by decide
  rw [this i hi]
set_option maxRecDepth 100000 in
theorem lifted (os : Os) (started : os.Started) (H : Type) (enc : TypeId × Value → H) :
    ReturnsInHanded {} Tryd.checked os 10 .any (fun w args => (Rows.pageOpensSpec.pre enc Tryd.prog Tryd.f10 Rows.pageOpensRow.domain false w args ∧ laidMetH Tryd.prog Rows.pageOpensRow.laid w) ∧ sizedMet enc Tryd.prog Tryd.f10 (OpenSpec.ofChange Rows.pageOpensSpec) false w args) (Rows.pageOpensSpec.post enc Tryd.prog Tryd.f10 false true false false) := by
  refine returnsInHanded_of_change_and (C := Tryd.checked) (X := fun w _ => laidMetH Tryd.prog Rows.pageOpensRow.laid w) (fun _ _ _ hh h => h.of_heap hh) own started (by kernel_rfl) Tryd.func10
    (ChangeSpec.witness_shaped (enc := enc) (C := Tryd.checked) (os := os) (X := fun w _ => laidMetH Tryd.prog Rows.pageOpensRow.laid w) false (World.laidAll Tryd.prog os Rows.pageOpensRow.laid) #[.slice none 0 0, .int .i64 0] 8 (World.laidAll_os _ _ _) (World.shaped_of_RefB (by kernel_rfl) (by kernel_rfl)) (by kernel_rfl) (by kernel_rfl) (by kernel_rfl) (door_met os _)) ?_
  intro W base args ds gs before hval0 hW hcnd hsz0 hL _
  have hsz : (DataW.weightsEach Tryd.prog (Tryd.f10.params.toList ++ Rows.pageOpensSpec.plain.varTypes Tryd.prog) (ds ++ gs)).all (· ≤ reachBytes) = true := hsz0
  have hval : ∀ (j : Nat) t v, Tryd.f10.params[j]? = some t → args[j]? = some v → Value.okWide Tryd.prog W .any base t v := hval0
  have hW' := hW
  obtain ⟨p, q, hA0, hV, rfl, hfz, hnd⟩ := hW
  have hA : DataW.TrodAll enc Tryd.prog W 0 (fun _ => true) true Tryd.f10.params.toList args.toList ds p := hA0
  rw [Tryd.params10] at hA hval hsz
  obtain ⟨v0, vs0, d0, ds0, p0, q0, hargs, rfl, rfl, h0, r0⟩ := trodAll_cons hA
  obtain ⟨v1, vs1, d1, ds1, p1, q1, rfl, rfl, rfl, h1, r1⟩ := trodAll_cons r0
  obtain ⟨rfl, rfl, rfl⟩ := trodAll_nil r1
  obtain rfl : args = #[v0, v1] := by cases args; simp_all
  obtain ⟨rfl, rfl⟩ := trodVars_none hV
  obtain ⟨A0, len0, c0, rfl⟩ := okWide_slice Tryd.underlying23 (hval 0 23 v0 rfl rfl)
  have k0 := h0
  have lt0 : ∀ x ∈ p0, x.block < W.heap.size := by obtain ⟨m, hm⟩ := k0; exact DataW.trod_lt m _ _ _ hm
  obtain ⟨l0, rfl, hb0, hn0, hc0, hl0⟩ := open_bytes hsz (j := 0) (t := 23) rfl rfl Tryd.underlying23 Tryd.underlying5 (by kernel_rfl) (by kernel_rfl) h0
  obtain ⟨a1, rfl, rfl, rfl, w1⟩ := open_int Tryd.underlying3 (hval 1 3 v1 rfl rfl) h1
  have g1 : -9223372036854775808 ≤ a1 ∧ a1 ≤ 9223372036854775807 := by simp [Lit.wf, IntKind.min, IntKind.max, IntKind.signed, IntKind.bits] at w1; omega
  clear hA0 hval0 hsz0 hsz
  refine (pageOpens_row A0 c0 l0 a1 W (half_of hL) hb0 hn0 hc0 hl0 g1).mono fun e W' ⟨he, bel⟩ => ?_
  subst he
  exact ⟨_, rfl, _, _, _, [], _, [], hW', trodAll_mk1 (shut_bool Tryd.underlying4 _), (trodAll_cons_mk (Below.trod laidOut (by kernel_rfl) (of_decide_eq_true (by kernel_rfl)) k0 bel lt0) (trodAll_cons_mk (shut_int Tryd.underlying3 w1) trodAll_mk0)), rfl, bel.frame _, fun h => by cases h⟩
theorem over : Rows.pageOpensRow.holds Tryd.pinned (OpenSpec.ofChange Rows.pageOpensSpec) :=
  OpenClaim.holds_of_wide 10 Tryd.f10 rfl rfl rfl rfl rfl rfl rfl ⟨rfl, rfl, rfl, rfl, rfl⟩ rfl rfl rfl rfl rfl (by kernel_rfl) Tryd.func10 (by kernel_rfl)
    (of_decide_eq_true (by kernel_rfl)) (by unfold Func.isWrapper; first | (rw [if_pos (by decide +kernel)]; kernel_rfl) | (rw [if_neg (by decide +kernel)]; exact ⟨rfl, rfl⟩))
    (fun os started H enc _ => lifted os started H enc)
theorem wants (t : TypeId) (h : t ∈ [23, 3]) : Tryd.prog.wantsStandIn t = false := by
  revert t h; intro t h
  simp only [List.mem_cons, List.mem_nil_iff, or_false] at h
  rcases h with rfl | rfl
  all_goals kernel_rfl
theorem proved : Rows.PageOpensCardSaid :=
  Claim7.holds_tied_plain_at .later [] [.data, .data, .pinned] true (true, "d1ce6d597a5772dab1a36aa688351bd4dae099d7dcb9f536c43f7f736f7d1b83") false
    over (fun _ h => by cases h) (by kernel_rfl) (fun _ h => by cases h) pageOpens_row_tie rfl ⟨rfl, rfl⟩ (by kernel_rfl) rfl
    (fun f fn hf hfn => by
      obtain rfl : f = 10 := Option.some.inj ((show Tryd.prog.funcNamed "tabulary/tabularylaw09.PageOpens" = some 10 by kernel_rfl).symm.trans hf) |>.symm
      obtain rfl : fn = Tryd.f10 := (Option.some.inj (Tryd.func10.symm.trans hfn)).symm
      exact ⟨by kernel_rfl, fun j t ht => by
        rw [Tryd.params10] at ht
        exact wants t (List.mem_of_getElem? (by simpa using ht))⟩)
    (by kernel_rfl)
end Go.Proofs.YtibhoekbjgoanaaDoor.pageOpens
namespace Go.Proofs.YtibhoekbjgoanaaDoor
/-- The statement, under a short name. -/
theorem pageOpens_holds : Rows.PageOpensCardSaid := pageOpens.proved
#print axioms pageOpens_holds
end Go.Proofs.YtibhoekbjgoanaaDoor
