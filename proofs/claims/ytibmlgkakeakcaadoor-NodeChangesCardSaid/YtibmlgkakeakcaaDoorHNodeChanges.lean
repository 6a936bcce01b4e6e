/- The statement of NodeChanges: for every input the law answers true, and each argument reads afterwards as it read before; the listed variables start as the program's text lays them. -/
import Derived.Test.YtibmlgkakeakcaaDoorG14
import Derived.Test.YtibmlgkakeakcaaDoorG10
import Derived.Test.YtibmlgkakeakcaaDoorG7
import Derived.Test.YtibmlgkakeakcaaDoorG8
import Derived.Test.YtibmlgkakeakcaaDoorG11
import Derived.Test.YtibmlgkakeakcaaDoorG12
import Derived.Test.YtibmlgkakeakcaaDoorG5
import Derived.Test.YtibmlgkakeakcaaDoorG3
import Derived.Test.YtibmlgkakeakcaaDoorRows
import Derived.Test.YtibmlgkakeakcaaDoorCards
import Derived.Test.YtibmlgkakeakcaaDoorTie
import Derived.WalkKit
import Derived.ProofKit
import Derived.OpenShut
import Derived.ShutString
import Derived.ChangeOld
import Derived.Below
import Derived.SizedLaws
import Derived.ChangeSame
import Derived.ChangeVars
import Derived.JoinedOf
import Derived.RowKit
import Derived.RowKitTokens
import Derived.LaidLaws
import Derived.LaidHandle
import Derived.LaidMore
import Derived.Lib.LaidTab
import Derived.SevenTiedAt
import Derived.Lay
import Derived.Stop.LaidErr
/- Both sides of each change of a node answer alike (printed by wip/gen/unigen.py). -/
set_option linter.unusedSimpArgs false
set_option linter.unusedVariables false
namespace Go.Proofs.YtibmlgkakeakcaaDoor
open Go.RowKit Go.Proofs.YtibmlgkakeakcaaDoor.Crc
theorem NodeT.zero (w : World) : NodeT w zeroM none 0 none 0 none 0 := ⟨NodeAt.zero w, fun h => absurd h (by simp [zeroM])⟩
theorem outM_small {n : NodeM} {k : Nat} (h : n.keys.length ≤ k ∧ n.vals.length ≤ k ∧ n.kids.length ≤ k) : (outM n).keys.length ≤ k ∧ (outM n).vals.length ≤ k ∧ (outM n).kids.length ≤ k := by
  unfold outM
  split
  · exact h
  · exact ⟨Nat.zero_le _, Nat.zero_le _, Nat.zero_le _⟩
theorem InsertU (n : NodeM) (hs : n.keys.length ≤ 1000) (i : Int) (key : List UInt8) {dA : Option Addr} {dc : Nat} {ds : List UInt8} (hdn : dA = none → dc = 0) (hdc : ds.length ≤ dc ∧ ds.length ≤ 9223372036854775807) (hdl : ds.length ≤ 1000) (kid : Int) :
    ∃ (R : NodeM) (c : Int), (R.keys.length ≤ 5000 ∧ R.vals.length ≤ 5000 ∧ R.kids.length ≤ 5000) ∧ (∀ w' kA kc vA vc iA ic, NodeAt w' n kA kc vA vc iA ic → Bytes w' dA ds → Calls Tryd.prog 22 #[.agg #[.bool n.leaf, .slice kA n.keys.length kc, .slice vA n.vals.length vc, .slice iA n.kids.length ic], .int .i64 i, .string (bstr key), .slice dA ds.length dc, .int .i64 kid] w' fun e w'' => ∃ kB kd vB vd iB id, e = .returned (.tuple #[.agg #[.bool R.leaf, .slice kB R.keys.length kd, .slice vB R.vals.length vd, .slice iB R.kids.length id], .int .i64 c]) ∧ Hid (NodeOwn w'' w'.heap.size R kB kd vB vd iB id ∧ Below w'.heap.size w' w'')) ∧
      (∀ w' kA kc vA vc iA ic, NodeAt w' n kA kc vA vc iA ic → Bytes w' dA ds → Calls Tryd.prog 26 #[.agg #[.bool n.leaf, .slice kA n.keys.length kc, .slice vA n.vals.length vc, .slice iA n.kids.length ic], .int .i64 i, .string (bstr key), .slice dA ds.length dc, .int .i64 kid] w' fun e w'' => ∃ kB kd vB vd iB id, e = .returned (.tuple #[.agg #[.bool R.leaf, .slice kB R.keys.length kd, .slice vB R.vals.length vd, .slice iB R.kids.length id], .int .i64 c]) ∧ Hid (NodeT w'' R kB kd vB vd iB id ∧ Below w'.heap.size w' w'')) := by
  by_cases hr : RightM n
  · by_cases hi : i < 0 ∨ (n.keys.length : Int) < i
    · refine ⟨zeroM, 40, ⟨Nat.zero_le _, Nat.zero_le _, Nat.zero_le _⟩, fun w' kA kc vA vc iA ic h hd => ?_, fun w' kA kc vA vc iA ic h hd => ?_⟩
      · refine (InsertN_none h i _ _ _ _ _ hr hi).mono ?_
        rintro e w'' ⟨rfl, hb⟩
        exact ⟨none, 0, none, 0, none, 0, rfl, NodeOwn.zero _ _, hb.out⟩
      · refine (InsertRf_none h i _ _ _ _ _ hr hi).mono ?_
        rintro e w'' ⟨rfl, hb⟩
        exact ⟨none, 0, none, 0, none, 0, rfl, NodeT.zero _, hb.out⟩
    · obtain ⟨j, rfl⟩ : ∃ j : Nat, i = (j : Int) := ⟨i.toNat, by omega⟩
      have hj : j ≤ n.keys.length := by omega
      obtain ⟨hv1, hv2, hv3⟩ := hr.lens
      refine ⟨outM (insM n j key ds kid), codeN (insM n j key ds kid), ?_, fun w' kA kc vA vc iA ic h hd => ?_, fun w' kA kc vA vc iA ic h hd => ?_⟩
      · refine outM_small ⟨by rw [insM_len]; omega, ?_, ?_⟩
        · unfold insM; simp only; split
          · rw [ins_length]; omega
          · omega
        · unfold insM; simp only; split
          · omega
          · rw [ins_length]; omega
      · exact InsertN_calls h hr hs j hj key hd hdn hdl kid
      · exact refInsert_calls h hr hs j hj key hd hdn hdc kid
  · refine ⟨zeroM, 22, ⟨Nat.zero_le _, Nat.zero_le _, Nat.zero_le _⟩, fun w' kA kc vA vc iA ic h hd => ?_, fun w' kA kc vA vc iA ic h hd => ?_⟩
    · refine (InsertN_form h i _ _ _ _ _ hr).mono ?_
      rintro e w'' ⟨rfl, hb⟩
      exact ⟨none, 0, none, 0, none, 0, rfl, NodeOwn.zero _ _, hb.out⟩
    · refine (InsertRf_form h i _ _ _ _ _ hr).mono ?_
      rintro e w'' ⟨rfl, hb⟩
      exact ⟨none, 0, none, 0, none, 0, rfl, NodeT.zero _, hb.out⟩
theorem RemoveU (n : NodeM) (hs : n.keys.length ≤ 1000) (i : Int) :
    ∃ (R : NodeM) (c : Int), (R.keys.length ≤ 5000 ∧ R.vals.length ≤ 5000 ∧ R.kids.length ≤ 5000) ∧ (∀ w' kA kc vA vc iA ic, NodeAt w' n kA kc vA vc iA ic → Calls Tryd.prog 23 #[.agg #[.bool n.leaf, .slice kA n.keys.length kc, .slice vA n.vals.length vc, .slice iA n.kids.length ic], .int .i64 i] w' fun e w'' => ∃ kB kd vB vd iB id, e = .returned (.tuple #[.agg #[.bool R.leaf, .slice kB R.keys.length kd, .slice vB R.vals.length vd, .slice iB R.kids.length id], .int .i64 c]) ∧ Hid (NodeOwn w'' w'.heap.size R kB kd vB vd iB id ∧ Below w'.heap.size w' w'')) ∧
      (∀ w' kA kc vA vc iA ic, NodeAt w' n kA kc vA vc iA ic → Calls Tryd.prog 28 #[.agg #[.bool n.leaf, .slice kA n.keys.length kc, .slice vA n.vals.length vc, .slice iA n.kids.length ic], .int .i64 i] w' fun e w'' => ∃ kB kd vB vd iB id, e = .returned (.tuple #[.agg #[.bool R.leaf, .slice kB R.keys.length kd, .slice vB R.vals.length vd, .slice iB R.kids.length id], .int .i64 c]) ∧ Hid (NodeT w'' R kB kd vB vd iB id ∧ Below w'.heap.size w' w'')) := by
  by_cases hr : RightM n
  · by_cases hi : i < 0 ∨ (n.keys.length : Int) ≤ i
    · refine ⟨zeroM, 40, ⟨Nat.zero_le _, Nat.zero_le _, Nat.zero_le _⟩, fun w' kA kc vA vc iA ic h => ?_, fun w' kA kc vA vc iA ic h => ?_⟩
      · refine (RemoveN_none h i hr hi).mono ?_
        rintro e w'' ⟨rfl, hb⟩
        exact ⟨none, 0, none, 0, none, 0, rfl, NodeOwn.zero _ _, hb.out⟩
      · refine (RemoveRf_none h i hr hi).mono ?_
        rintro e w'' ⟨rfl, hb⟩
        exact ⟨none, 0, none, 0, none, 0, rfl, NodeT.zero _, hb.out⟩
    · obtain ⟨j, rfl⟩ : ∃ j : Nat, i = (j : Int) := ⟨i.toNat, by omega⟩
      have hj : j < n.keys.length := by omega
      obtain ⟨hv1, hv2, hv3⟩ := hr.lens
      refine ⟨outM (firstM (delM n j)), codeN (firstM (delM n j)), ?_, fun w' kA kc vA vc iA ic h => ?_, fun w' kA kc vA vc iA ic h => ?_⟩
      · obtain ⟨q1, q2, q3, q4⟩ := firstM_shape (delM n j)
        refine outM_small ⟨?_, ?_, ?_⟩
        · rw [q2]; show (n.keys.take j ++ n.keys.drop (j + 1)).length ≤ _; rw [List.length_append, List.length_take, List.length_drop]; omega
        · rw [q3]; unfold delM; simp only; split
          · rw [List.length_append, List.length_take, List.length_drop]; omega
          · omega
        · rw [q4]; unfold delM; simp only; split
          · omega
          · rw [List.length_append, List.length_take, List.length_drop]; omega
      · exact RemoveO_calls h hr hs j hj
      · exact refRemove_calls h hr hs j hj
  · refine ⟨zeroM, 22, ⟨Nat.zero_le _, Nat.zero_le _, Nat.zero_le _⟩, fun w' kA kc vA vc iA ic h => ?_, fun w' kA kc vA vc iA ic h => ?_⟩
    · refine (RemoveN_form h i hr).mono ?_
      rintro e w'' ⟨rfl, hb⟩
      exact ⟨none, 0, none, 0, none, 0, rfl, NodeOwn.zero _ _, hb.out⟩
    · refine (RemoveRf_form h i hr).mono ?_
      rintro e w'' ⟨rfl, hb⟩
      exact ⟨none, 0, none, 0, none, 0, rfl, NodeT.zero _, hb.out⟩
theorem CutU (n : NodeM) (hs : n.keys.length ≤ 1000) :
    ∃ (R S : NodeM) (c : Int), (R.keys.length ≤ 5000 ∧ R.vals.length ≤ 5000 ∧ R.kids.length ≤ 5000) ∧ (S.keys.length ≤ 5000 ∧ S.vals.length ≤ 5000 ∧ S.kids.length ≤ 5000) ∧ (∀ w' kA kc vA vc iA ic, NodeAt w' n kA kc vA vc iA ic → Calls Tryd.prog 24 #[.agg #[.bool n.leaf, .slice kA n.keys.length kc, .slice vA n.vals.length vc, .slice iA n.kids.length ic]] w' fun e w'' => ∃ kB kd vB vd iB id kC ke vC ve iC ie, e = .returned (.tuple #[.agg #[.bool R.leaf, .slice kB R.keys.length kd, .slice vB R.vals.length vd, .slice iB R.kids.length id], .agg #[.bool S.leaf, .slice kC S.keys.length ke, .slice vC S.vals.length ve, .slice iC S.kids.length ie], .int .i64 c]) ∧ Hid (NodeOwn w'' w'.heap.size R kB kd vB vd iB id ∧ NodeOwn w'' w'.heap.size S kC ke vC ve iC ie ∧ Below w'.heap.size w' w'')) ∧
      (∀ w' kA kc vA vc iA ic, NodeAt w' n kA kc vA vc iA ic → Calls Tryd.prog 29 #[.agg #[.bool n.leaf, .slice kA n.keys.length kc, .slice vA n.vals.length vc, .slice iA n.kids.length ic]] w' fun e w'' => ∃ kB kd vB vd iB id kC ke vC ve iC ie, e = .returned (.tuple #[.agg #[.bool R.leaf, .slice kB R.keys.length kd, .slice vB R.vals.length vd, .slice iB R.kids.length id], .agg #[.bool S.leaf, .slice kC S.keys.length ke, .slice vC S.vals.length ve, .slice iC S.kids.length ie], .int .i64 c]) ∧ Hid (NodeT w'' R kB kd vB vd iB id ∧ NodeT w'' S kC ke vC ve iC ie ∧ Below w'.heap.size w' w'')) := by
  by_cases hr : RightM n
  · by_cases h2 : 2 ≤ n.keys.length
    · obtain ⟨hv1, hv2, hv3⟩ := hr.lens
      have hpt : ∀ a b, (firstM (partM n a b)).keys.length ≤ 5000 ∧ (firstM (partM n a b)).vals.length ≤ 5000 ∧ (firstM (partM n a b)).kids.length ≤ 5000 := fun a b => by
        obtain ⟨q1, q2, q3, q4⟩ := firstM_shape (partM n a b)
        rw [q2, q3, q4]
        refine ⟨?_, ?_, ?_⟩
        · show ((n.keys.take b).drop a).length ≤ _; rw [List.length_drop, List.length_take]; omega
        · unfold partM; simp only; split
          · rw [List.length_drop, List.length_take]; omega
          · exact Nat.zero_le _
        · unfold partM; simp only; split
          · exact Nat.zero_le _
          · rw [List.length_drop, List.length_take]; omega
      have l1 : (halfA n).leaf = n.leaf := (firstM_shape (partM n 0 (midN n))).1
      have l2 : (halfB n).leaf = n.leaf := (firstM_shape (partM n (midN n) n.keys.length)).1
      refine ⟨halfA n, halfB n, 0, hpt _ _, hpt _ _, fun w' kA kc vA vc iA ic h => ?_, fun w' kA kc vA vc iA ic h => ?_⟩
      · rw [l1, l2]; exact Cut_calls h hr hs h2
      · rw [l1, l2]; exact refCut_calls h hr hs h2
    · have h3 : RightM n ∧ n.keys.length < 2 := ⟨hr, by omega⟩
      refine ⟨zeroM, zeroM, 40, ⟨Nat.zero_le _, Nat.zero_le _, Nat.zero_le _⟩, ⟨Nat.zero_le _, Nat.zero_le _, Nat.zero_le _⟩, fun w' kA kc vA vc iA ic h => ?_, fun w' kA kc vA vc iA ic h => ?_⟩
      · refine (Cut_none h h3 hs).mono ?_
        rintro e w'' ⟨rfl, hb⟩
        exact ⟨none, 0, none, 0, none, 0, none, 0, none, 0, none, 0, rfl, NodeOwn.zero _ _, NodeOwn.zero _ _, hb.out⟩
      · refine (refCut_none h h3 hs).mono ?_
        rintro e w'' ⟨rfl, hb⟩
        exact ⟨none, 0, none, 0, none, 0, none, 0, none, 0, none, 0, rfl, NodeT.zero _, NodeT.zero _, hb.out⟩
  · -- no node that may be
    refine ⟨zeroM, zeroM, 22, ⟨Nat.zero_le _, Nat.zero_le _, Nat.zero_le _⟩, ⟨Nat.zero_le _, Nat.zero_le _, Nat.zero_le _⟩, fun w' kA kc vA vc iA ic h => ?_, fun w' kA kc vA vc iA ic h => ?_⟩
    · refine (Cut_form h hr hs).mono ?_
      rintro e w'' ⟨rfl, hb⟩
      exact ⟨none, 0, none, 0, none, 0, none, 0, none, 0, none, 0, rfl, NodeOwn.zero _ _, NodeOwn.zero _ _, hb.out⟩
    · refine (refCut_form h hr hs).mono ?_
      rintro e w'' ⟨rfl, hb⟩
      exact ⟨none, 0, none, 0, none, 0, none, 0, none, 0, none, 0, rfl, NodeT.zero _, NodeT.zero _, hb.out⟩
theorem JoinN_calls {w : World} {a b : NodeM} {key : List UInt8} {kA : Option Addr} {kc : Nat} {vA : Option Addr} {vc : Nat} {iA : Option Addr} {ic : Nat} {kX : Option Addr} {kx : Nat} {vX : Option Addr} {vx : Nat} {iX : Option Addr} {ix : Nat} (h : NodeAt w a kA kc vA vc iA ic) (h' : NodeAt w b kX kx vX vx iX ix) (hl : a.leaf = b.leaf) (hr : RightM a) (hr' : RightM b) (hn : a.keys.length ≤ 1000) (hn' : b.keys.length ≤ 1000) :
    Calls Tryd.prog 25 #[.agg #[.bool a.leaf, .slice kA a.keys.length kc, .slice vA a.vals.length vc, .slice iA a.kids.length ic], .string (bstr key), .agg #[.bool b.leaf, .slice kX b.keys.length kx, .slice vX b.vals.length vx, .slice iX b.kids.length ix]] w fun e w' => ∃ kB kd vB vd iB id, e = .returned (.tuple #[.agg #[.bool (outM (joinM a key b)).leaf, .slice kB (outM (joinM a key b)).keys.length kd, .slice vB (outM (joinM a key b)).vals.length vd, .slice iB (outM (joinM a key b)).kids.length id], .int .i64 (codeN (joinM a key b))]) ∧ Hid (NodeOwn w' w.heap.size (outM (joinM a key b)) kB kd vB vd iB id ∧ Below w.heap.size w w') := by
  by_cases hj : RightM (joinM a key b)
  · rw [outM_right hj, codeN_right hj]
    obtain ⟨lf, ks, vs, is⟩ := a
    obtain ⟨lf', ls, us, js⟩ := b
    simp only at hl
    subst hl
    cases lf
    · exact Join_inner h h' hr hr' hn hn' hj
    · exact Join_leaf h h' hr hr' hn hn' hj
  · rw [outM_bad hj, codeN_bad hj]
    obtain ⟨lf, ks, vs, is⟩ := a
    obtain ⟨lf', ls, us, js⟩ := b
    simp only at hl
    subst hl
    cases lf
    · refine (JoinB_inner h h' hr hr' hn hn' hj).mono ?_
      rintro e w'' ⟨rfl, hb⟩
      exact ⟨none, 0, none, 0, none, 0, rfl, NodeOwn.zero _ _, hb.out⟩
    · refine (JoinB_leaf h h' hr hr' hn hn' hj).mono ?_
      rintro e w'' ⟨rfl, hb⟩
      exact ⟨none, 0, none, 0, none, 0, rfl, NodeOwn.zero _ _, hb.out⟩
theorem JoinU (n m : NodeM) (hs : n.keys.length ≤ 1000) (hs' : m.keys.length ≤ 1000) (key : List UInt8) :
    ∃ (R : NodeM) (c : Int), (R.keys.length ≤ 5000 ∧ R.vals.length ≤ 5000 ∧ R.kids.length ≤ 5000) ∧ (∀ w' kA kc vA vc iA ic kX kx vX vx iX ix, NodeAt w' n kA kc vA vc iA ic → NodeAt w' m kX kx vX vx iX ix → Calls Tryd.prog 25 #[.agg #[.bool n.leaf, .slice kA n.keys.length kc, .slice vA n.vals.length vc, .slice iA n.kids.length ic], .string (bstr key), .agg #[.bool m.leaf, .slice kX m.keys.length kx, .slice vX m.vals.length vx, .slice iX m.kids.length ix]] w' fun e w'' => ∃ kB kd vB vd iB id, e = .returned (.tuple #[.agg #[.bool R.leaf, .slice kB R.keys.length kd, .slice vB R.vals.length vd, .slice iB R.kids.length id], .int .i64 c]) ∧ Hid (NodeOwn w'' w'.heap.size R kB kd vB vd iB id ∧ Below w'.heap.size w' w'')) ∧
      (∀ w' kA kc vA vc iA ic kX kx vX vx iX ix, NodeAt w' n kA kc vA vc iA ic → NodeAt w' m kX kx vX vx iX ix → Calls Tryd.prog 30 #[.agg #[.bool n.leaf, .slice kA n.keys.length kc, .slice vA n.vals.length vc, .slice iA n.kids.length ic], .string (bstr key), .agg #[.bool m.leaf, .slice kX m.keys.length kx, .slice vX m.vals.length vx, .slice iX m.kids.length ix]] w' fun e w'' => ∃ kB kd vB vd iB id, e = .returned (.tuple #[.agg #[.bool R.leaf, .slice kB R.keys.length kd, .slice vB R.vals.length vd, .slice iB R.kids.length id], .int .i64 c]) ∧ Hid (NodeT w'' R kB kd vB vd iB id ∧ Below w'.heap.size w' w'')) := by
  by_cases hc : RightM n ∧ RightM m ∧ n.leaf = m.leaf
  · obtain ⟨hr, hr', hl⟩ := hc
    obtain ⟨hv1, hv2, hv3⟩ := hr.lens
    obtain ⟨hu1, hu2, hu3⟩ := hr'.lens
    refine ⟨outM (joinM n key m), codeN (joinM n key m), ?_, fun w' kA kc vA vc iA ic kX kx vX vx iX ix h h' => ?_, fun w' kA kc vA vc iA ic kX kx vX vx iX ix h h' => ?_⟩
    · refine outM_small ⟨?_, ?_, ?_⟩
      · unfold joinM; simp only; split
        · rw [List.length_append]; omega
        · rw [List.length_append, List.length_set]; omega
      · show (n.vals ++ m.vals).length ≤ _; rw [List.length_append]; omega
      · show (n.kids ++ m.kids).length ≤ _; rw [List.length_append]; omega
    · exact JoinN_calls h h' hl hr hr' hs hs'
    · exact refJoin_calls h h' hl hr hr' hs hs'
  · refine ⟨zeroM, 22, ⟨Nat.zero_le _, Nat.zero_le _, Nat.zero_le _⟩, fun w' kA kc vA vc iA ic kX kx vX vx iX ix h h' => ?_, fun w' kA kc vA vc iA ic kX kx vX vx iX ix h h' => ?_⟩
    · refine (JoinF_calls h h' hc _).mono ?_
      rintro e w'' ⟨rfl, hb⟩
      exact ⟨none, 0, none, 0, none, 0, rfl, NodeOwn.zero _ _, hb.out⟩
    · refine (JoinRf_calls h h' hc _).mono ?_
      rintro e w'' ⟨rfl, hb⟩
      exact ⟨none, 0, none, 0, none, 0, rfl, NodeT.zero _, hb.out⟩
end Go.Proofs.YtibmlgkakeakcaaDoor
/- The walk of NodeChanges. -/
set_option linter.unusedSimpArgs false
set_option linter.unusedVariables false
namespace Go.Proofs.YtibmlgkakeakcaaDoor
open Go.RowKit Go.Proofs.YtibmlgkakeakcaaDoor.Crc
theorem NodeOwn.keptR {w w' : World} {B : Nat} {n : NodeM} {kA : Option Addr} {kc : Nat} {vA : Option Addr} {vc : Nat} {iA : Option Addr} {ic : Nat} (h : NodeOwn w B n kA kc vA vc iA ic) {q : Nat} {cs0 : Array Value} {T : TypeId} {fz0 : Nat × Nat} (hk : Kept (· = q) w w') (hq : w.heap[q]? = some (.cells cs0 T fz0)) (h1 : T ≠ 9) (h2 : T ≠ 30) (h3 : T ≠ 5) (h4 : T ≠ 3) : NodeOwn w' B n kA kc vA vc iA ic := by
  have hty : ∀ k cs t fz, k = q → w.heap[k]? = some (.cells cs t fz) → t = T := fun k cs t fz e hc => by
    rw [e, hq] at hc; injection hc with hc; injection hc with _ h5 _; exact h5.symm
  exact ⟨h.k.keptT hk (fun k cs hS hc => h1 (hty _ _ _ _ hS hc).symm), h.v.keptBy hk (fun k cs hS hc => h2 (hty _ _ _ _ hS hc).symm) (fun k cs hS hc => h3 (hty _ _ _ _ hS hc).symm), h.i.keptT hk (fun k cs hS hc => h4 (hty _ _ _ _ hS hc).symm)⟩
set_option maxRecDepth 10000 in
set_option maxHeartbeats 16000000 in
theorem nodeChanges_row (n : NodeM) (kA : Option Addr) (kc : Nat) (vA : Option Addr) (vc : Nat) (iA : Option Addr) (ic : Nat) (m : NodeM) (kX : Option Addr) (kx : Nat) (vX : Option Addr) (vx : Nat) (iX : Option Addr) (ix : Nat) (i : Int) (key : List UInt8) (dA : Option Addr) (dc : Nat) (ds : List UInt8) (kid : Int) (w : World) {X : Prop} (_hx : X) (hN : NodeAt w n kA kc vA vc iA ic) (hM : NodeAt w m kX kx vX vx iX ix)
    (_gi : -9223372036854775808 ≤ i ∧ i ≤ 9223372036854775807) (gk : key.length ≤ 9223372036854775807) (hdb : Bytes w dA ds) (hdn : dA = none → dc = 0) (hdc : ds.length ≤ dc) (hdl : ds.length ≤ 140737488351232) (_gd : -9223372036854775808 ≤ kid ∧ kid ≤ 9223372036854775807) :
    Calls Tryd.prog 7 #[.agg #[.bool n.leaf, .slice kA n.keys.length kc, .slice vA n.vals.length vc, .slice iA n.kids.length ic], .agg #[.bool m.leaf, .slice kX m.keys.length kx, .slice vX m.vals.length vx, .slice iX m.kids.length ix], .int .i64 i, .string (bstr key), .slice dA ds.length dc, .int .i64 kid] w fun e w' => e = .returned (.bool true) ∧ Below w.heap.size w w' := by
  obtain ⟨nk, hnk⟩ : ∃ k, n.keys.length = k := ⟨_, rfl⟩
  obtain ⟨nv, hnv⟩ : ∃ k, n.vals.length = k := ⟨_, rfl⟩
  obtain ⟨ni, hni⟩ : ∃ k, n.kids.length = k := ⟨_, rfl⟩
  obtain ⟨lf, hlf⟩ : ∃ k, n.leaf = k := ⟨_, rfl⟩
  obtain ⟨mk, hmk⟩ : ∃ k, m.keys.length = k := ⟨_, rfl⟩
  obtain ⟨mv, hmv⟩ : ∃ k, m.vals.length = k := ⟨_, rfl⟩
  obtain ⟨mi, hmi⟩ : ∃ k, m.kids.length = k := ⟨_, rfl⟩
  obtain ⟨lm, hlm⟩ : ∃ k, m.leaf = k := ⟨_, rfl⟩
  obtain ⟨dn, hdn0⟩ : ∃ k, ds.length = k := ⟨_, rfl⟩
  obtain ⟨y, hy0⟩ : ∃ y, bstr key = y := ⟨_, rfl⟩
  obtain ⟨kn, hkn⟩ : ∃ k, y.size = k := ⟨_, rfl⟩
  have HKN : Hid (key.length = kn) := by show _ = _; rw [← hkn, ← hy0, bstr_size]
  have HGn0 : Hid (∀ w', NodeAt w' n kA kc vA vc iA ic → Calls Tryd.prog 8 #[.agg #[.bool lf, .slice kA nk kc, .slice vA nv vc, .slice iA ni ic]] w' fun e w'' => e = .returned (.bool (greatB n)) ∧ Hid (Below w'.heap.size w' w'')) := fun w' h => by
    rw [← hnk, ← hnv, ← hni, ← hlf]; exact great_calls h
  have HGm0 : Hid (∀ w', NodeAt w' m kX kx vX vx iX ix → Calls Tryd.prog 8 #[.agg #[.bool lm, .slice kX mk kx, .slice vX mv vx, .slice iX mi ix]] w' fun e w'' => e = .returned (.bool (greatB m)) ∧ Hid (Below w'.heap.size w' w'')) := fun w' h => by
    rw [← hmk, ← hmv, ← hmi, ← hlm]; exact great_calls h
  have HCn0 : Hid (Small n → ∀ w', NodeAt w' n kA kc vA vc iA ic → Calls Tryd.prog 9 #[.agg #[.bool lf, .slice kA nk kc, .slice vA nv vc, .slice iA ni ic]] w' fun e w'' => ∃ kB kd vB vd iB id, e = .returned (.agg #[.bool lf, .slice kB nk kd, .slice vB nv vd, .slice iB ni id]) ∧ Hid (NodeOwn w'' w'.heap.size n kB kd vB vd iB id ∧ Below w'.heap.size w' w'')) := fun hs w' h => by
    rw [← hnk, ← hnv, ← hni, ← hlf]; exact copiedO_calls h ⟨by have := hs.k; omega, by have := hs.v; omega, by have := hs.i; omega⟩ (fun v hv => by obtain ⟨i, hi, rfl⟩ := List.getElem_of_mem hv; have := hs.vl i hi; rw [atL_eq _ _ hi] at this; omega)
  have HCm0 : Hid (Small m → ∀ w', NodeAt w' m kX kx vX vx iX ix → Calls Tryd.prog 9 #[.agg #[.bool lm, .slice kX mk kx, .slice vX mv vx, .slice iX mi ix]] w' fun e w'' => ∃ kB kd vB vd iB id, e = .returned (.agg #[.bool lm, .slice kB mk kd, .slice vB mv vd, .slice iB mi id]) ∧ Hid (NodeOwn w'' w'.heap.size m kB kd vB vd iB id ∧ Below w'.heap.size w' w'')) := fun hs w' h => by
    rw [← hmk, ← hmv, ← hmi, ← hlm]; exact copiedO_calls h ⟨by have := hs.k; omega, by have := hs.v; omega, by have := hs.i; omega⟩ (fun v hv => by obtain ⟨i, hi, rfl⟩ := List.getElem_of_mem hv; have := hs.vl i hi; rw [atL_eq _ _ hi] at this; omega)
  obtain ⟨h1, h2, h3⟩ := node2_boxT w (.bool n.leaf) (.slice kA n.keys.length kc) (.slice vA n.vals.length vc) (.slice iA n.kids.length ic) (.bool m.leaf) (.slice kX m.keys.length kx) (.slice vX m.vals.length vx) (.slice iX m.kids.length ix) 26
  rw [hnk, hnv, hni, hlf, hmk, hmv, hmi, hlm] at h1 h2 h3
  rw [hnk, hnv, hni, hlf, hmk, hmv, hmi, hlm, hdn0, hy0]
  obtain ⟨W0, hW0⟩ : ∃ x, (w.alloc (.cells #[.bool lf, .slice kA nk kc, .slice vA nv vc, .slice iA ni ic] 26)).alloc (.cells #[.bool lm, .slice kX mk kx, .slice vX mv vx, .slice iX mi ix] 26) = x := ⟨_, rfl⟩
  rw [hW0] at h1 h2 h3
  obtain ⟨r, hr0⟩ : ∃ r, w.heap.size = r := ⟨_, rfl⟩
  have HNA := Lib.hid (hN.below h1)
  have HMA := Lib.hid (hM.below h1)
  have HDA := Lib.hid (hdb.below h1)
  have HB := Lib.hid h1
  rw [hr0] at h2 h3
  have HX := Lib.hid (box_cells h2)
  have HY := Lib.hid (box_cells h3)
  have HR0 := Lib.hid hr0
  have HW0 := Lib.hid hW0
  have HGn := Lib.hid (HGn0.out W0 HNA.out)
  rw [← HW0.out] at HGn
  have HNL : Hid (n.keys.length = nk ∧ n.vals.length = nv ∧ n.kids.length = ni ∧ n.leaf = lf) := ⟨hnk, hnv, hni, hlf⟩
  have HML : Hid (m.keys.length = mk ∧ m.vals.length = mv ∧ m.kids.length = mi ∧ m.leaf = lm) := ⟨hmk, hmv, hmi, hlm⟩
  have HDD : Hid ((dA = none → dc = 0) ∧ ds.length ≤ dc ∧ ds.length = dn ∧ bstr key = y) := ⟨hdn, hdc, hdn0, hy0⟩
  clear h1 h2 h3 hW0 hr0 hN hM hdb hdn hdc hdl gk _gi _gd hnk hnv hni hlf hmk hmv hmi hlm hdn0 hy0 HGn0
  go_enter Tryd.func7, Tryd.ntmps7
  go_wp2_with (go_at_call 8; (with_reducible refine HGn.out.mono ?_); rintro e w1 ⟨rfl, hb1⟩; refine park ?_; intro q hq)
  rw [HW0.out] at hb1
  have HB1 := Lib.hid hb1.out
  clear hb1 HGn
  refine hq.out ?_
  clear hq
  simp only [HR0.out]
  cases hG : greatB n
  case true =>
    clear hG
    obtain ⟨x0, x1, x2, x3⟩ := HX.out w1 HB1.out
    obtain ⟨y0, y1, y2, y3⟩ := HY.out w1 HB1.out
    go_wp2_with fail
    go_ret
    exact ⟨rfl, HB.out.trans (HB1.out.mono HB.out.size)⟩
  have hSn := greatB_small hG
  have HSn := Lib.hid hSn
  clear hG hSn
  have HGm := Lib.hid (HGm0.out w1 (HMA.out.below HB1.out))
  obtain ⟨y0, y1, y2, y3⟩ := HY.out w1 HB1.out
  go_wp2_with (go_at_call 8; (with_reducible refine HGm.out.mono ?_); rintro e w2 ⟨rfl, hb2⟩; refine park ?_; intro q hq)
  have HB2 : Hid (Below W0.heap.size W0 w2) := Lib.hid (HB1.out.trans (hb2.out.mono HB1.out.size))
  clear hb2 HGm HGm0 y0 y1 y2 y3 HB1
  refine hq.out ?_
  clear hq
  cases hG : greatB m
  case true =>
    clear hG
    go_wp2_with fail
    go_ret
    exact ⟨rfl, HB.out.trans (HB2.out.mono HB.out.size)⟩
  have hSm := greatB_small hG
  have HSm := Lib.hid hSm
  clear hG hSm
  by_cases hkl : (200 : Int) < (kn : Int)
  case pos =>
    go_wp2_with fail
    go_ret
    exact ⟨rfl, HB.out.trans (HB2.out.mono HB.out.size)⟩
  replace hkl : (kn : Int) ≤ 200 := by omega
  by_cases hdl : (200 : Int) < (dn : Int)
  case pos =>
    go_wp2_with fail
    go_ret
    exact ⟨rfl, HB.out.trans (HB2.out.mono HB.out.size)⟩
  replace hdl : (dn : Int) ≤ 200 := by omega
  have HKL : Hid (ds.length ≤ 200) := by show _ ≤ _; rw [HDD.out.2.2.1]; omega
  have HCn := Lib.hid (HCn0.out HSn.out)
  have HCm := Lib.hid (HCm0.out HSm.out)
  have HUi := Lib.hid (InsertU n (by have := HSn.out.k; omega) i key HDD.out.1 ⟨HDD.out.2.1, by have := HKL.out; omega⟩ (by have := HKL.out; omega) kid)
  have HUr := Lib.hid (RemoveU n (by have := HSn.out.k; omega) i)
  have HUc := Lib.hid (CutU n (by have := HSn.out.k; omega))
  have HUj := Lib.hid (JoinU n m (by have := HSn.out.k; omega) (by have := HSm.out.k; omega) key)
  clear HCn0 HCm0
  go_wp2_with fail
  obtain ⟨B, hBe⟩ : ∃ x, w2.heap.size = x := ⟨_, rfl⟩
  have HBe := Lib.hid hBe
  clear hBe
  refine wp_region_inv (fun listed a w' => ∃ (l0 l1 l2 l3 l4 l5 l6 l7 : Bool) (x38 x40 x13 x14 : Value), listed = #[l0, l1, l2, l3, l4, l5, l6, l7] ∧ a = ⟨#[Value.agg #[Value.bool lf, Value.slice kA nk kc, Value.slice vA nv vc, Value.slice iA ni ic], Value.agg #[Value.bool lm, Value.slice kX mk kx, Value.slice vX mv vx, Value.slice iX mi ix], Value.int IntKind.i64 i, Value.string y, Value.slice dA dn dc, Value.int IntKind.i64 kid, Value.pointer (some ⟨r, 0, none⟩), Value.pointer (some ⟨r + 1, 0, none⟩), undef, undef, undef, undef, Value.bool false, bif l4 then x13 else undef, bif l5 then x14 else undef, undef, undef, undef, undef, undef, undef, Value.agg #[Value.bool lf, Value.slice kA nk kc, Value.slice vA nv vc, Value.slice iA ni ic], Value.bool false, Value.bool false, Value.agg #[Value.bool lm, Value.slice kX mk kx, Value.slice vX mv vx, Value.slice iX mi ix], Value.bool false, Value.bool false, Value.bool false, Value.string y, Value.int IntKind.i64 (kn : Int), Value.bool (decide ((200 : Int) < (kn : Int))), Value.bool (decide ((200 : Int) < (kn : Int))), Value.bool (decide ((200 : Int) < (kn : Int))), Value.slice dA dn dc, Value.int IntKind.i64 (dn : Int), Value.bool (decide ((200 : Int) < (dn : Int))), Value.bool (decide ((200 : Int) < (kn : Int)) || decide ((200 : Int) < (dn : Int))), bif l0 then Value.agg #[Value.bool lf, Value.slice kA nk kc, Value.slice vA nv vc, Value.slice iA ni ic] else undef, bif l1 then x38 else undef, bif l2 then Value.agg #[Value.bool lm, Value.slice kX mk kx, Value.slice vX mv vx, Value.slice iX mi ix] else undef, bif l3 then x40 else undef, undef, undef, undef, undef, undef, undef, undef, undef, undef, undef, undef, undef, undef, undef, undef, undef, undef, undef, undef, undef, undef, undef, undef, undef, undef, undef, undef, undef, undef, undef, undef, undef, undef, undef, undef, undef, undef, undef, undef, undef, undef, undef, undef, undef, undef, undef, undef, undef, undef, undef, undef, undef, undef, undef, undef, undef, undef, undef, undef, undef, undef, undef, undef, undef, undef, undef, undef, undef, undef, undef, undef, undef, undef, undef, undef, undef, undef, undef, undef, undef, undef, undef, undef, undef, undef, undef, undef, undef, undef, undef, undef, undef, undef, undef, undef, undef, undef, undef, undef, undef, undef, undef, undef, undef, undef, undef, undef, undef, undef, undef, undef, undef, undef, undef, undef, undef, undef, undef, undef], []⟩ ∧ Below B w2 w' ∧ IfB l1 (∃ kB kd vB vd iB id, x38 = .agg #[.bool lf, .slice kB nk kd, .slice vB nv vd, .slice iB ni id] ∧ NodeOwn w' B n kB kd vB vd iB id) ∧ IfB l3 (∃ kB kd vB vd iB id, x40 = .agg #[.bool lm, .slice kB mk kd, .slice vB mv vd, .slice iB mi id] ∧ NodeOwn w' B m kB kd vB vd iB id) ∧ IfB l4 (∃ p, x13 = .pointer (some ⟨p, 0, none⟩) ∧ B ≤ p ∧ IfB (!l6) (w'.heap[p]? = some (.cells #[.bool false, .slice none 0 0, .slice none 0 0, .slice none 0 0] 28 (0, 0))) ∧ IfB l6 (∃ kB kd vB vd iB id, x38 = .agg #[.bool lf, .slice kB nk kd, .slice vB nv vd, .slice iB ni id] ∧ w'.heap[p]? = some (.cells #[.bool lf, .slice kB nk kd, .slice vB nv vd, .slice iB ni id] 28 (0, 0)))) ∧ IfB l5 (∃ p, x14 = .pointer (some ⟨p, 0, none⟩) ∧ B ≤ p ∧ IfB (!l7) (w'.heap[p]? = some (.cells #[.bool false, .slice none 0 0, .slice none 0 0, .slice none 0 0] 28 (0, 0))) ∧ IfB l7 (∃ kB kd vB vd iB id, x40 = .agg #[.bool lm, .slice kB mk kd, .slice vB mv vd, .slice iB mi id] ∧ w'.heap[p]? = some (.cells #[.bool lm, .slice kB mk kd, .slice vB mv vd, .slice iB mi id] 28 (0, 0)))) ∧ IfB l4 (IfB l5 (x13 ≠ x14)) ∧ IfB l1 (l0 = true) ∧ IfB l3 (l1 = true ∧ l2 = true) ∧ IfB l6 (l0 = true ∧ l1 = true ∧ l2 = true ∧ l3 = true ∧ l4 = true ∧ l5 = true) ∧ IfB l7 (l6 = true)) rfl ?_ ?_ ?_
  · exact ⟨false, false, false, false, false, false, false, false, undef, undef, undef, undef, rfl, rfl, by rw [← HBe.out]; exact (Below.refl _ _).drew, (fun h => by cases h), (fun h => by cases h), (fun h => by cases h), (fun h => by cases h), (fun h => by cases h), (fun h => by cases h), (fun h => by cases h), (fun h => by cases h), (fun h => by cases h)⟩
  · intro j o listed a w' ho hl hd hI
    rcases j with _ | _ | _ | _ | _ | _ | _ | _ | j
    · -- operation 0
      cases ho
      obtain ⟨l0, l1, l2, l3, l4, l5, l6, l7, x38, x40, x13, x14, e1, e2, hI⟩ := hI
      subst e1
      subst e2
      obtain ⟨hB, f1, f3, f4, f5, fne, g1, g3, g6, g7⟩ := hI
      have hBs : B ≤ w'.heap.size := Below.sizeE hB HBe.out
      have hi : l0 = false := by simpa using hl
      have n6 : l6 = false := by cases h : l6; rfl; (have := g6 h; simp [hi] at this)
      have n7 : l7 = false := by cases h : l7; rfl; (have := g7 h; rw [n6] at this; cases this)
      subst hi n6 n7
      refine wpOp_step rfl (fun K hK => ?_)
      have HK := Lib.hid hK
      clear hK hl hd
      rw [if_pos (by rfl)]
      obtain ⟨z0, z1, z2, z3⟩ := HX.out w' (HB2.out.trans ((show Below w2.heap.size w2 w' from by rw [HBe.out]; exact hB).mono HB2.out.size))
      go_wp2_with fail
      exact HK.out _ _ ⟨true, l1, l2, l3, l4, l5, false, false, x38, x40, x13, x14, rfl, rfl, hB, f1, f3, f4, f5, fne, (fun _ => rfl), g3, (fun h => by cases h), (fun h => by cases h)⟩
    · -- operation 1
      cases ho
      obtain ⟨l0, l1, l2, l3, l4, l5, l6, l7, x38, x40, x13, x14, e1, e2, hI⟩ := hI
      subst e1
      subst e2
      obtain ⟨hB, f1, f3, f4, f5, fne, g1, g3, g6, g7⟩ := hI
      have hBs : B ≤ w'.heap.size := Below.sizeE hB HBe.out
      have hi : l1 = false := by simpa using hl
      have d0 : l0 = true := by simpa using hd ⟨0, .data⟩ (by simp) rfl
      have n6 : l6 = false := by cases h : l6; rfl; (have := g6 h; simp [hi] at this)
      have n7 : l7 = false := by cases h : l7; rfl; (have := g7 h; rw [n6] at this; cases this)
      have n3 : l3 = false := by cases h : l3; rfl; (have := g3 h; simp [hi] at this)
      subst hi d0 n6 n7 n3
      refine wpOp_step rfl (fun K hK => ?_)
      have HK := Lib.hid hK
      clear hK hl hd
      rw [if_pos (by rfl)]
      have hc := HCn.out w' (HNA.out.below (HB2.out.trans ((show Below w2.heap.size w2 w' from by rw [HBe.out]; exact hB).mono HB2.out.size)))
      refine wp_goCall 9 _ _ (by rfl) Tryd.func9 (by kernel_rfl) (by kernel_rfl) _ (by simp [Act.eval]) hc ?_
      rintro e w9 ⟨kB, kd, vB, vd, iB, id, rfl, h9⟩
      refine ⟨_, rfl, ?_⟩
      have hba := h9.out.2
      exact HK.out _ _ ⟨true, true, l2, false, l4, l5, false, false, .agg #[.bool lf, .slice kB nk kd, .slice vB nv vd, .slice iB ni id], x40, x13, x14, rfl, rfl, hB.trans (hba.mono hBs), (fun _ => ⟨kB, kd, vB, vd, iB, id, rfl, h9.out.1.base' hBs⟩), (fun h => by cases h), (fun h => (by obtain ⟨p, q1, q2, q3, q4⟩ := f4 h; exact ⟨p, q1, q2, fun h' => (hba.block p (Array.getElem?_eq_some_iff.1 (q3 h')).1).trans (q3 h'), fun h' => (by cases h')⟩)), (fun h => (by obtain ⟨p, q1, q2, q3, q4⟩ := f5 h; exact ⟨p, q1, q2, fun h' => (hba.block p (Array.getElem?_eq_some_iff.1 (q3 h')).1).trans (q3 h'), fun h' => (by cases h')⟩)), fne, (fun _ => rfl), (fun h => by cases h), (fun h => by cases h), (fun h => by cases h)⟩
    · -- operation 2
      cases ho
      obtain ⟨l0, l1, l2, l3, l4, l5, l6, l7, x38, x40, x13, x14, e1, e2, hI⟩ := hI
      subst e1
      subst e2
      obtain ⟨hB, f1, f3, f4, f5, fne, g1, g3, g6, g7⟩ := hI
      have hBs : B ≤ w'.heap.size := Below.sizeE hB HBe.out
      have hi : l2 = false := by simpa using hl
      have n6 : l6 = false := by cases h : l6; rfl; (have := g6 h; simp [hi] at this)
      have n7 : l7 = false := by cases h : l7; rfl; (have := g7 h; rw [n6] at this; cases this)
      subst hi n6 n7
      refine wpOp_step rfl (fun K hK => ?_)
      have HK := Lib.hid hK
      clear hK hl hd
      rw [if_pos (by rfl)]
      obtain ⟨z0, z1, z2, z3⟩ := HY.out w' (HB2.out.trans ((show Below w2.heap.size w2 w' from by rw [HBe.out]; exact hB).mono HB2.out.size))
      go_wp2_with fail
      exact HK.out _ _ ⟨l0, l1, true, l3, l4, l5, false, false, x38, x40, x13, x14, rfl, rfl, hB, f1, f3, f4, f5, fne, g1, (fun h => ⟨(g3 h).1, rfl⟩), (fun h => by cases h), (fun h => by cases h)⟩
    · -- operation 3
      cases ho
      obtain ⟨l0, l1, l2, l3, l4, l5, l6, l7, x38, x40, x13, x14, e1, e2, hI⟩ := hI
      subst e1
      subst e2
      obtain ⟨hB, f1, f3, f4, f5, fne, g1, g3, g6, g7⟩ := hI
      have hBs : B ≤ w'.heap.size := Below.sizeE hB HBe.out
      have hi : l3 = false := by simpa using hl
      have d2 : l2 = true := by simpa using hd ⟨2, .data⟩ (by simp) rfl
      have d1 : l1 = true := by simpa using hd ⟨1, .chain⟩ (by simp) rfl
      have n6 : l6 = false := by cases h : l6; rfl; (have := g6 h; simp [hi] at this)
      have n7 : l7 = false := by cases h : l7; rfl; (have := g7 h; rw [n6] at this; cases this)
      subst hi d2 d1 n6 n7
      refine wpOp_step rfl (fun K hK => ?_)
      have HK := Lib.hid hK
      clear hK hl hd
      rw [if_pos (by rfl)]
      have hc := HCm.out w' (HMA.out.below (HB2.out.trans ((show Below w2.heap.size w2 w' from by rw [HBe.out]; exact hB).mono HB2.out.size)))
      refine wp_goCall 9 _ _ (by rfl) Tryd.func9 (by kernel_rfl) (by kernel_rfl) _ (by simp [Act.eval]) hc ?_
      rintro e w9 ⟨kB, kd, vB, vd, iB, id, rfl, h9⟩
      refine ⟨_, rfl, ?_⟩
      have hba := h9.out.2
      exact HK.out _ _ ⟨l0, true, true, true, l4, l5, false, false, x38, .agg #[.bool lm, .slice kB mk kd, .slice vB mv vd, .slice iB mi id], x13, x14, rfl, rfl, hB.trans (hba.mono hBs), (fun h => (by obtain ⟨a1, a2, a3, a4, a5, a6, e, hO⟩ := f1 h; exact ⟨a1, a2, a3, a4, a5, a6, e, hO.below hba⟩)), (fun _ => ⟨kB, kd, vB, vd, iB, id, rfl, h9.out.1.base' hBs⟩), (fun h => (by obtain ⟨p, q1, q2, q3, q4⟩ := f4 h; exact ⟨p, q1, q2, fun h' => (hba.block p (Array.getElem?_eq_some_iff.1 (q3 h')).1).trans (q3 h'), fun h' => (by cases h')⟩)), (fun h => (by obtain ⟨p, q1, q2, q3, q4⟩ := f5 h; exact ⟨p, q1, q2, fun h' => (hba.block p (Array.getElem?_eq_some_iff.1 (q3 h')).1).trans (q3 h'), fun h' => (by cases h')⟩)), fne, g1, (fun _ => ⟨rfl, rfl⟩), (fun h => by cases h), (fun h => by cases h)⟩
    · -- operation 4
      cases ho
      obtain ⟨l0, l1, l2, l3, l4, l5, l6, l7, x38, x40, x13, x14, e1, e2, hI⟩ := hI
      subst e1
      subst e2
      obtain ⟨hB, f1, f3, f4, f5, fne, g1, g3, g6, g7⟩ := hI
      have hBs : B ≤ w'.heap.size := Below.sizeE hB HBe.out
      have hi : l4 = false := by simpa using hl
      have n6 : l6 = false := by cases h : l6; rfl; (have := g6 h; simp [hi] at this)
      have n7 : l7 = false := by cases h : l7; rfl; (have := g7 h; rw [n6] at this; cases this)
      subst hi n6 n7
      refine wpOp_step rfl (fun K hK => ?_)
      have HK := Lib.hid hK
      clear hK hl hd
      rw [if_pos (by rfl)]
      have hba : Below w'.heap.size w' (w'.alloc (.cells #[.bool false, .slice none 0 0, .slice none 0 0, .slice none 0 0] 28)) := (Below.refl _ _).alloc (Nat.le_refl _) _
      go_wp2_with fail
      exact HK.out _ _ ⟨l0, l1, l2, l3, true, l5, false, false, x38, x40, .pointer (some ⟨w'.heap.size, 0, none⟩), x14, rfl, rfl, hB.trans (hba.mono hBs), (fun h => (by obtain ⟨a1, a2, a3, a4, a5, a6, e, hO⟩ := f1 h; exact ⟨a1, a2, a3, a4, a5, a6, e, hO.below hba⟩)), (fun h => (by obtain ⟨a1, a2, a3, a4, a5, a6, e, hO⟩ := f3 h; exact ⟨a1, a2, a3, a4, a5, a6, e, hO.below hba⟩)), (fun _ => ⟨w'.heap.size, rfl, hBs, fun _ => heap_alloc_new w' _, fun h => (by cases h)⟩), (fun h => (by obtain ⟨p, q1, q2, q3, q4⟩ := f5 h; exact ⟨p, q1, q2, fun h' => (hba.block p (Array.getElem?_eq_some_iff.1 (q3 h')).1).trans (q3 h'), fun h' => (by cases h')⟩)), (fun _ h => (by obtain ⟨p, q1, q2, q3, _⟩ := f5 h; rw [q1]; intro e; simp only [Value.pointer.injEq, Option.some.injEq, Addr.mk.injEq] at e; have := (Array.getElem?_eq_some_iff.1 (q3 rfl)).1; omega)), g1, g3, (fun h => by cases h), (fun h => by cases h)⟩
    · -- operation 5
      cases ho
      obtain ⟨l0, l1, l2, l3, l4, l5, l6, l7, x38, x40, x13, x14, e1, e2, hI⟩ := hI
      subst e1
      subst e2
      obtain ⟨hB, f1, f3, f4, f5, fne, g1, g3, g6, g7⟩ := hI
      have hBs : B ≤ w'.heap.size := Below.sizeE hB HBe.out
      have hi : l5 = false := by simpa using hl
      have n6 : l6 = false := by cases h : l6; rfl; (have := g6 h; simp [hi] at this)
      have n7 : l7 = false := by cases h : l7; rfl; (have := g7 h; rw [n6] at this; cases this)
      subst hi n6 n7
      refine wpOp_step rfl (fun K hK => ?_)
      have HK := Lib.hid hK
      clear hK hl hd
      rw [if_pos (by rfl)]
      have hba : Below w'.heap.size w' (w'.alloc (.cells #[.bool false, .slice none 0 0, .slice none 0 0, .slice none 0 0] 28)) := (Below.refl _ _).alloc (Nat.le_refl _) _
      go_wp2_with fail
      exact HK.out _ _ ⟨l0, l1, l2, l3, l4, true, false, false, x38, x40, x13, .pointer (some ⟨w'.heap.size, 0, none⟩), rfl, rfl, hB.trans (hba.mono hBs), (fun h => (by obtain ⟨a1, a2, a3, a4, a5, a6, e, hO⟩ := f1 h; exact ⟨a1, a2, a3, a4, a5, a6, e, hO.below hba⟩)), (fun h => (by obtain ⟨a1, a2, a3, a4, a5, a6, e, hO⟩ := f3 h; exact ⟨a1, a2, a3, a4, a5, a6, e, hO.below hba⟩)), (fun h => (by obtain ⟨p, q1, q2, q3, q4⟩ := f4 h; exact ⟨p, q1, q2, fun h' => (hba.block p (Array.getElem?_eq_some_iff.1 (q3 h')).1).trans (q3 h'), fun h' => (by cases h')⟩)), (fun _ => ⟨w'.heap.size, rfl, hBs, fun _ => heap_alloc_new w' _, fun h => (by cases h)⟩), (fun h _ => (by obtain ⟨p, q1, q2, q3, _⟩ := f4 h; rw [q1]; intro e; simp only [Value.pointer.injEq, Option.some.injEq, Addr.mk.injEq] at e; have := (Array.getElem?_eq_some_iff.1 (q3 rfl)).1; omega)), g1, g3, (fun h => by cases h), (fun h => by cases h)⟩
    · -- operation 6
      cases ho
      obtain ⟨l0, l1, l2, l3, l4, l5, l6, l7, x38, x40, x13, x14, e1, e2, hI⟩ := hI
      subst e1
      subst e2
      obtain ⟨hB, f1, f3, f4, f5, fne, g1, g3, g6, g7⟩ := hI
      have hBs : B ≤ w'.heap.size := Below.sizeE hB HBe.out
      have hi : l6 = false := by simpa using hl
      have d4 : l4 = true := by simpa using hd ⟨4, .data⟩ (by simp) rfl
      have d1 : l1 = true := by simpa using hd ⟨1, .data⟩ (by simp) rfl
      have d3 : l3 = true := by simpa using hd ⟨3, .chain⟩ (by simp) rfl
      have d0 : l0 = true := by simpa using hd ⟨0, .phase⟩ (by simp) rfl
      have d5 : l5 = true := by simpa using hd ⟨5, .phase⟩ (by simp) rfl
      obtain ⟨_, d2⟩ := g3 d3
      have n7 : l7 = false := by cases h : l7; rfl; (have := g7 h; rw [hi] at this; cases this)
      subst hi d4 d1 d3 d0 d5 d2 n7
      refine wpOp_step rfl (fun K hK => ?_)
      have HK := Lib.hid hK
      clear hK hl hd
      rw [if_pos (by rfl)]
      obtain ⟨kB, kd, vB, vd, iB, id, e38, hO⟩ := f1 rfl
      subst e38
      obtain ⟨p, e13, hp, hz, _⟩ := f4 rfl
      subst e13
      have hz := hz rfl
      obtain ⟨p', e14, hp', hz', hw'⟩ := f5 rfl
      subst e14
      have hne : ¬ p' = p := fun e => fne rfl rfl (by rw [e])
      refine wp_storeRow 28 (.tmp 13) (.tmp 38) rfl p (by rfl) [.bool lf, .slice kB nk kd, .slice vB nv vd, .slice iB ni id] [.bool false, .slice none 0 0, .slice none 0 0, .slice none 0 0] (by rfl) (by kernel_rfl) rfl (by intro u hu; simp only [List.mem_cons, List.mem_nil_iff, or_false] at hu; rcases hu with rfl | rfl | rfl | rfl <;> rfl) hz ?_
      intro w9 h9 hk9
      have hty := row_ty hz
      obtain ⟨a1, a2, a3, a4, a5, a6, e40, hO2⟩ := f3 rfl
      subst e40
      exact HK.out _ _ ⟨true, true, true, true, true, true, true, false, .agg #[.bool lf, .slice kB nk kd, .slice vB nv vd, .slice iB ni id], .agg #[.bool lm, .slice a1 mk a2, .slice a3 mv a4, .slice a5 mi a6], .pointer (some ⟨p, 0, none⟩), .pointer (some ⟨p', 0, none⟩), rfl, rfl, hB.trans (hk9.below hBs (fun k hk e => by have e' : k = p := e; omega)), (fun _ => ⟨kB, kd, vB, vd, iB, id, rfl, hO.keptN hk9 hty⟩), (fun _ => ⟨a1, a2, a3, a4, a5, a6, rfl, hO2.keptN hk9 hty⟩), (fun _ => ⟨p, rfl, hp, fun h => (by cases h), fun _ => ⟨kB, kd, vB, vd, iB, id, rfl, h9.out⟩⟩), (fun _ => ⟨p', rfl, hp', fun h => (hk9.block p' (Array.getElem?_eq_some_iff.1 (hz' h)).1 hne).trans (hz' h), fun h => (by cases h)⟩), fne, (fun _ => rfl), (fun _ => ⟨rfl, rfl⟩), (fun _ => ⟨rfl, rfl, rfl, rfl, rfl, rfl⟩), (fun h => by cases h)⟩
    · -- operation 7
      cases ho
      obtain ⟨l0, l1, l2, l3, l4, l5, l6, l7, x38, x40, x13, x14, e1, e2, hI⟩ := hI
      subst e1
      subst e2
      obtain ⟨hB, f1, f3, f4, f5, fne, g1, g3, g6, g7⟩ := hI
      have hBs : B ≤ w'.heap.size := Below.sizeE hB HBe.out
      have hi : l7 = false := by simpa using hl
      have d5 : l5 = true := by simpa using hd ⟨5, .data⟩ (by simp) rfl
      have d3 : l3 = true := by simpa using hd ⟨3, .data⟩ (by simp) rfl
      have d6 : l6 = true := by simpa using hd ⟨6, .chain⟩ (by simp) rfl
      obtain ⟨e0, e1, e2, _, e4, _⟩ := g6 d6
      subst hi d5 d3 d6 e0 e1 e2 e4
      refine wpOp_step rfl (fun K hK => ?_)
      have HK := Lib.hid hK
      clear hK hl hd
      rw [if_pos (by rfl)]
      obtain ⟨kB, kd, vB, vd, iB, id, e38, hO⟩ := f3 rfl
      subst e38
      obtain ⟨p, e13, hp, hz, _⟩ := f5 rfl
      subst e13
      have hz := hz rfl
      obtain ⟨p', e14, hp', hz', hw'⟩ := f4 rfl
      subst e14
      have hne : ¬ p' = p := fun e => fne rfl rfl (by rw [e])
      refine wp_storeRow 28 (.tmp 14) (.tmp 40) rfl p (by rfl) [.bool lm, .slice kB mk kd, .slice vB mv vd, .slice iB mi id] [.bool false, .slice none 0 0, .slice none 0 0, .slice none 0 0] (by rfl) (by kernel_rfl) rfl (by intro u hu; simp only [List.mem_cons, List.mem_nil_iff, or_false] at hu; rcases hu with rfl | rfl | rfl | rfl <;> rfl) hz ?_
      intro w9 h9 hk9
      have hty := row_ty hz
      obtain ⟨a1, a2, a3, a4, a5, a6, e40, hO2⟩ := f1 rfl
      subst e40
      exact HK.out _ _ ⟨true, true, true, true, true, true, true, true, .agg #[.bool lf, .slice a1 nk a2, .slice a3 nv a4, .slice a5 ni a6], .agg #[.bool lm, .slice kB mk kd, .slice vB mv vd, .slice iB mi id], .pointer (some ⟨p', 0, none⟩), .pointer (some ⟨p, 0, none⟩), rfl, rfl, hB.trans (hk9.below hBs (fun k hk e => by have e' : k = p := e; omega)), (fun _ => ⟨a1, a2, a3, a4, a5, a6, rfl, hO2.keptN hk9 hty⟩), (fun _ => ⟨kB, kd, vB, vd, iB, id, rfl, hO.keptN hk9 hty⟩), (fun _ => ⟨p', rfl, hp', fun h => (by cases h), fun h => (by obtain ⟨b1, b2, b3, b4, b5, b6, e, hh⟩ := hw' h; exact ⟨b1, b2, b3, b4, b5, b6, e, (hk9.block p' (Array.getElem?_eq_some_iff.1 hh).1 hne).trans hh⟩)⟩), (fun _ => ⟨p, rfl, hp, fun h => (by cases h), fun _ => ⟨kB, kd, vB, vd, iB, id, rfl, h9.out⟩⟩), fne, (fun _ => rfl), (fun _ => ⟨rfl, rfl⟩), (fun _ => ⟨rfl, rfl, rfl, rfl, rfl, rfl⟩), (fun _ => rfl)⟩
    · exact absurd ho (by simp)
  · intro listed a w' hr hI
    obtain ⟨l0, l1, l2, l3, l4, l5, l6, l7, x38, x40, x13, x14, e1, e2, hI⟩ := hI
    subst e1
    subst e2
    obtain ⟨hB, f1, f3, f4, f5, fne, g1, g3, g6, g7⟩ := hI
    have hall := ready_nil_all (by kernel_rfl) rfl hr
    have e0 : l0 = true := by simpa using hall 0
    have e1 : l1 = true := by simpa using hall 1
    have e2 : l2 = true := by simpa using hall 2
    have e3 : l3 = true := by simpa using hall 3
    have e4 : l4 = true := by simpa using hall 4
    have e5 : l5 = true := by simpa using hall 5
    have e6 : l6 = true := by simpa using hall 6
    have e7 : l7 = true := by simpa using hall 7
    clear hall hr
    subst e0 e1 e2 e3 e4 e5 e6 e7
    obtain ⟨kB, kd, vB, vd, iB, id, ea, hOn⟩ := f1 rfl
    obtain ⟨kD, kg, vD, vg, iD, ig, eb, hOm⟩ := f3 rfl
    subst ea eb
    obtain ⟨q1, e1, hq1, _, hr1⟩ := f4 rfl
    obtain ⟨q2, e2, hq2, _, hr2⟩ := f5 rfl
    subst e1 e2
    obtain ⟨b1, b2, b3, b4, b5, b6, e, hr1⟩ := hr1 rfl
    simp only [Value.agg.injEq, Array.mk.injEq, List.cons.injEq, Value.slice.injEq, and_true, true_and] at e
    obtain ⟨⟨rfl, rfl⟩, ⟨rfl, rfl⟩, rfl, rfl⟩ := e
    obtain ⟨b1, b2, b3, b4, b5, b6, e, hr2⟩ := hr2 rfl
    simp only [Value.agg.injEq, Array.mk.injEq, List.cons.injEq, Value.slice.injEq, and_true, true_and] at e
    obtain ⟨⟨rfl, rfl⟩, ⟨rfl, rfl⟩, rfl, rfl⟩ := e
    clear f1 f3 f4 f5 fne g1 g3 g6 g7 HCn HCm
    simp only [cond_true]
    have HB4 : Hid (Below W0.heap.size W0 w') := Lib.hid (HB2.out.trans ((show Below w2.heap.size w2 w' from by rw [HBe.out]; exact hB).mono HB2.out.size))
    obtain ⟨W, hWe⟩ : ∃ x, w'.heap.size = x := ⟨_, rfl⟩
    have HWe := Lib.hid hWe
    have hrW : r + 2 ≤ W := by
      have h1 := HB4.out.size
      have h2 : W0.heap.size = r + 2 := by rw [← HW0.out, ← HR0.out]; simp
      omega
    have hq1W : q1 < W := by rw [← hWe]; exact (Array.getElem?_eq_some_iff.1 hr1).1
    have hq2W : q2 < W := by rw [← hWe]; exact (Array.getElem?_eq_some_iff.1 hr2).1
    have HE : Hid (∀ x, Below W w' x → Below W0.heap.size W0 x ∧ NodeAt x n kB kd vB vd iB id ∧ NodeAt x m kD kg vD vg iD ig ∧ NodeAt x n kA kc vA vc iA ic ∧ NodeAt x m kX kx vX vx iX ix ∧ Bytes x dA ds) := fun x hx => by
      have hx' : Below w'.heap.size w' x := by rw [HWe.out]; exact hx
      have h0 := HB4.out.trans (hx'.mono HB4.out.size)
      exact ⟨h0, hOn.at'.below hx', hOm.at'.below hx', HNA.out.below h0, HMA.out.below h0, HDA.out.below h0⟩
    have HQ1 : Hid (∀ x, Below W w' x → _) := fun x hx => box_cells hr1 x (by rw [HWe.out]; exact hx)
    have HQ2 : Hid (∀ x, Below W w' x → _) := fun x hx => box_cells hr2 x (by rw [HWe.out]; exact hx)
    have HX4 : Hid (∀ x, Below W w' x → _) := fun x hx => HX.out x (HE.out x hx).1
    have HY4 : Hid (∀ x, Below W w' x → _) := fun x hx => HY.out x (HE.out x hx).1
    have HSame : Hid (∀ (R : NodeM) x kA kc vA vc iA ic kB kd vB vd iB id, NodeAt x R kA kc vA vc iA ic → NodeAt x R kB kd vB vd iB id → Calls Tryd.prog 19 #[.agg #[.bool R.leaf, .slice kA R.keys.length kc, .slice vA R.vals.length vc, .slice iA R.kids.length ic], .agg #[.bool R.leaf, .slice kB R.keys.length kd, .slice vB R.vals.length vd, .slice iB R.kids.length id]] x fun e x' => e = .returned (.bool true) ∧ Hid (Below x.heap.size x x')) := fun R x kA kc vA vc iA ic kB kd vB vd iB id h h' => by
      have h := Same14_calls h h'
      rw [sameB_true rfl] at h
      exact h
    clear hWe hB hq1 hq2
    have hB0 : Hid (Below W w' w') := Lib.hid (Below.refl _ _)
    obtain ⟨R1, c1, hz1, I1, J1⟩ := HUi.out
    obtain ⟨k1, hk1⟩ : ∃ x, R1.keys.length = x := ⟨_, rfl⟩
    obtain ⟨v1, hv1⟩ : ∃ x, R1.vals.length = x := ⟨_, rfl⟩
    obtain ⟨i1, hi1⟩ : ∃ x, R1.kids.length = x := ⟨_, rfl⟩
    obtain ⟨f1, hf1⟩ : ∃ x, R1.leaf = x := ⟨_, rfl⟩
    have HZ1 : Hid (k1 ≤ 5000 ∧ v1 ≤ 5000 ∧ i1 ≤ 5000) := by rw [hk1, hv1, hi1] at hz1; exact hz1
    have HL1 : Hid (R1.keys.length = k1 ∧ R1.vals.length = v1 ∧ R1.kids.length = i1 ∧ R1.leaf = f1) := ⟨hk1, hv1, hi1, hf1⟩
    have HSa1 := Lib.hid (HSame.out R1)
    rw [hk1, hv1, hi1, hf1] at HSa1
    simp only [HNL.out.1, HNL.out.2.1, HNL.out.2.2.1, HNL.out.2.2.2, HDD.out.2.2.1, HDD.out.2.2.2, hk1, hv1, hi1, hf1] at I1 J1
    have HI1 := Lib.hid I1
    have HJ1 := Lib.hid J1
    clear I1 J1 hk1 hv1 hi1 hf1 hz1
    clear HUi
    have HC1 := Lib.hid (HI1.out w' _ _ _ _ _ _ (HE.out w' hB0.out).2.1 (HE.out w' hB0.out).2.2.2.2.2)
    obtain ⟨x0, x1, x2, x3⟩ := HQ1.out w' hB0.out
    go_wp2_with (go_at_call 22; (with_reducible refine HC1.out.mono ?_); rintro e w5 ⟨a1, a2, a3, a4, a5, a6, rfl, h5⟩; refine park ?_; intro q hq)
    have hba : Below w5.heap.size w5 (w5.alloc (.cells #[.bool f1, .slice a1 k1 a2, .slice a3 v1 a4, .slice a5 i1 a6] 28)) := (Below.refl _ _).alloc (Nat.le_refl _) _
    have hrow := heap_alloc_new w5 (.cells #[.bool f1, .slice a1 k1 a2, .slice a3 v1 a4, .slice a5 i1 a6] 28)
    have hb5 := h5.out.2.trans (hba.mono h5.out.2.size)
    have hO5 := h5.out.1.below hba
    obtain ⟨q3, hq3⟩ : ∃ x, w5.heap.size = x := ⟨_, rfl⟩
    have hq3W : W ≤ q3 := by rw [← hq3, ← HWe.out]; exact h5.out.2.size
    obtain ⟨W5, hW5⟩ : ∃ x, w5.alloc (.cells #[.bool f1, .slice a1 k1 a2, .slice a3 v1 a4, .slice a5 i1 a6] 28) = x := ⟨_, rfl⟩
    rw [hW5, hq3] at hrow
    rw [hW5] at hb5 hO5
    have HQ3 := Lib.hid hq3
    have HW5 := Lib.hid hW5
    have HRow3 := Lib.hid hrow
    have HO5 := Lib.hid hO5
    have HB5 : Hid (Below W w' W5) := by rw [← HWe.out]; exact hb5
    have HCj := Lib.hid (HJ1.out W5 _ _ _ _ _ _ (HE.out W5 HB5.out).2.2.2.1 (HE.out W5 HB5.out).2.2.2.2.2)
    clear x0 x1 x2 x3
    obtain ⟨x0, x1, x2, x3⟩ := HX4.out W5 HB5.out
    rw [← HW5.out] at HCj x0 x1 x2 x3
    clear hba hrow hb5 hO5 hq3 hW5 h5 HC1 HI1 HJ1
    refine hq.out ?_
    clear hq
    go_wp2_with (go_at_call 26; (with_reducible refine HCj.out.mono ?_); rintro e w6 ⟨b1, b2, b3, b4, b5, b6, rfl, h6⟩; refine park ?_; intro q hq)
    rw [HW5.out] at h6
    have hba : Below w6.heap.size w6 (w6.alloc (.cells #[.bool f1, .slice b1 k1 b2, .slice b3 v1 b4, .slice b5 i1 b6] 26)) := (Below.refl _ _).alloc (Nat.le_refl _) _
    have hrow := heap_alloc_new w6 (.cells #[.bool f1, .slice b1 k1 b2, .slice b3 v1 b4, .slice b5 i1 b6] 26)
    have hb6 := h6.out.2.trans (hba.mono h6.out.2.size)
    have hT6 := h6.out.1.below hba
    obtain ⟨q4, hq4⟩ : ∃ x, w6.heap.size = x := ⟨_, rfl⟩
    have hq34 : q3 < q4 := by rw [← hq4]; exact Nat.lt_of_lt_of_le (Array.getElem?_eq_some_iff.1 HRow3.out).1 h6.out.2.size
    obtain ⟨W6, hW6⟩ : ∃ x, w6.alloc (.cells #[.bool f1, .slice b1 k1 b2, .slice b3 v1 b4, .slice b5 i1 b6] 26) = x := ⟨_, rfl⟩
    rw [hW6, hq4] at hrow
    rw [hW6] at hb6 hT6
    have hrow3 := (hb6.block q3 (Array.getElem?_eq_some_iff.1 HRow3.out).1).trans HRow3.out
    have hO6 := HO5.out.below hb6
    have HQ4 := Lib.hid hq4
    have HW6 := Lib.hid hW6
    have HB6 : Hid (Below W w' W6) := Lib.hid (HB5.out.trans (hb6.mono (by have := HB5.out.size; rw [HWe.out] at this; exact this)))
    have HCs := Lib.hid (HSa1.out W6 _ _ _ _ _ _ _ _ _ _ _ _ hO6.at' hT6.1)
    clear x0 x1 x2 x3
    obtain ⟨x0, x1, x2, x3⟩ := row4_cells hrow3
    obtain ⟨y0, y1, y2, y3⟩ := row4_cells hrow
    rw [← HW6.out] at HCs x0 x1 x2 x3 y0 y1 y2 y3
    have HRow3 := Lib.hid hrow3
    have HRow4 := Lib.hid hrow
    have HO6 := Lib.hid hO6
    clear hba hrow hb6 hT6 hq4 hW6 h6 HCj hrow3 hO6 HO5 HB5
    refine hq.out ?_
    clear hq
    simp only [HQ3.out]
    go_wp2_with (go_at_call 19; (with_reducible refine HCs.out.mono ?_); rintro e w7 ⟨rfl, h7⟩; refine park ?_; intro q hq)
    rw [HW6.out] at h7
    have hrow3 := (h7.out.block q3 (Array.getElem?_eq_some_iff.1 HRow3.out).1).trans HRow3.out
    have hrow4 := (h7.out.block q4 (Array.getElem?_eq_some_iff.1 HRow4.out).1).trans HRow4.out
    have hO7 := HO6.out.below h7.out
    have HB7 : Hid (Below W w' w7) := Lib.hid (HB6.out.trans (h7.out.mono (by have := HB6.out.size; rw [HWe.out] at this; exact this)))
    obtain ⟨us, hul, hsh⟩ := hO7.sh
    rw [HL1.out.1, HL1.out.2.1, HL1.out.2.2.1, HWe.out] at hsh
    rw [HL1.out.2.1] at hul
    have HSp := Lib.hid (spoil_calls (lf := f1) hsh hul (by have := HB7.out.size; rw [HWe.out] at this; exact this) HZ1.out)
    clear x0 x1 x2 x3 y0 y1 y2 y3
    obtain ⟨x0, x1, x2, x3⟩ := row4_cells hrow3
    have HRow3 := Lib.hid hrow3
    have HRow4 := Lib.hid hrow4
    clear h7 hrow3 hrow4 hO7 hul hsh HCs HO6 HB6
    refine hq.out ?_
    clear hq
    simp only [HQ4.out]
    go_wp2_with (go_at_call 27; (with_reducible refine HSp.out.mono ?_); rintro e w8 ⟨rfl, h8⟩; refine park ?_; intro q hq)
    have HRow3 := Lib.hid (h8.out.2.ty _ _ _ _ HRow3.out (by decide) (by decide) (by decide))
    have HRow4 := Lib.hid (h8.out.2.ty _ _ _ _ HRow4.out (by decide) (by decide) (by decide))
    have HB8 : Hid (Below W w' w8) := Lib.hid (HB7.out.trans h8.out.1)
    clear x0 x1 x2 x3 h8 HSp HB7
    refine hq.out ?_
    clear hq
    have e13 : ¬ r = q3 := by omega
    have e14 : ¬ r = q4 := by omega
    have e23 : ¬ r + 1 = q3 := by omega
    have e24 : ¬ r + 1 = q4 := by omega
    have e33 : ¬ q1 = q3 := by omega
    have e34 : ¬ q1 = q4 := by omega
    have e43 : ¬ q2 = q3 := by omega
    have e44 : ¬ q2 = q4 := by omega
    have e53 : ¬ q3 = q4 := by omega
    have e54 : ¬ q4 = q3 := by omega
    have HBw8 := HB8
    obtain ⟨R2, c2, hz2, I2, J2⟩ := HUr.out
    obtain ⟨k2, hk2⟩ : ∃ x, R2.keys.length = x := ⟨_, rfl⟩
    obtain ⟨v2, hv2⟩ : ∃ x, R2.vals.length = x := ⟨_, rfl⟩
    obtain ⟨i2, hi2⟩ : ∃ x, R2.kids.length = x := ⟨_, rfl⟩
    obtain ⟨f2, hf2⟩ : ∃ x, R2.leaf = x := ⟨_, rfl⟩
    have HZ2 : Hid (k2 ≤ 5000 ∧ v2 ≤ 5000 ∧ i2 ≤ 5000) := by rw [hk2, hv2, hi2] at hz2; exact hz2
    have HL2 : Hid (R2.keys.length = k2 ∧ R2.vals.length = v2 ∧ R2.kids.length = i2 ∧ R2.leaf = f2) := ⟨hk2, hv2, hi2, hf2⟩
    have HSa2 := Lib.hid (HSame.out R2)
    rw [hk2, hv2, hi2, hf2] at HSa2
    simp only [HNL.out.1, HNL.out.2.1, HNL.out.2.2.1, HNL.out.2.2.2, hk2, hv2, hi2, hf2] at I2 J2
    have HI2 := Lib.hid I2
    have HJ2 := Lib.hid J2
    clear I2 J2 hk2 hv2 hi2 hf2 hz2
    clear HUr
    have HB8 := HBw8
    have HC1 := Lib.hid (HI2.out w8 _ _ _ _ _ _ (HE.out w8 HB8.out).2.1)
    obtain ⟨x0, x1, x2, x3⟩ := HQ1.out w8 HB8.out
    go_wp2_with (go_at_call 23; (with_reducible refine HC1.out.mono ?_); rintro e w9 ⟨a1, a2, a3, a4, a5, a6, rfl, h9⟩; refine park ?_; intro q hq)
    have hs8 : W ≤ w8.heap.size := by have := HB8.out.size; rw [HWe.out] at this; exact this
    have hb9 : Below W w' w9 := HB8.out.trans (h9.out.2.mono hs8)
    have hs9 : W ≤ w9.heap.size := Nat.le_trans hs8 h9.out.2.size
    have hrow3 := (h9.out.2.block q3 (Array.getElem?_eq_some_iff.1 HRow3.out).1).trans HRow3.out
    have hrow4 := (h9.out.2.block q4 (Array.getElem?_eq_some_iff.1 HRow4.out).1).trans HRow4.out
    obtain ⟨g1, g2⟩ := row4_put hrow3 (.bool f2) (.slice a1 k2 a2) (.slice a3 v2 a4) (.slice a5 i2 a6)
    have hO9 := (h9.out.1.base' hs8).keptN g2 (row_ty hrow3)
    have hrow4' := (g2.block q4 (Array.getElem?_eq_some_iff.1 hrow4).1 e54).trans hrow4
    have hb9' := hb9.trans (g2.below hs9 (fun k hk e => by have e' : k = q3 := e; omega))
    clear x0 x1 x2 x3
    obtain ⟨x0, x1, x2, x3⟩ := HX4.out w9 hb9
    obtain ⟨y0, y1, y2, y3⟩ := row4_cells hrow3
    obtain ⟨z0, z1, z2, z3⟩ := row4_frozen hrow3
    obtain ⟨W9, hW9⟩ : ∃ x, ((((w9.setCell ⟨q3, 0, none⟩ (.bool f2)).setCell ⟨q3, 1, none⟩ (.slice a1 k2 a2)).setCell ⟨q3, 2, none⟩ (.slice a3 v2 a4)).setCell ⟨q3, 3, none⟩ (.slice a5 i2 a6)) = x := ⟨_, rfl⟩
    rw [hW9] at g1 hO9 hrow4' hb9'
    have HW9 := Lib.hid hW9
    have HRow3 := Lib.hid g1
    have HRow4 := Lib.hid hrow4'
    have HO9 := Lib.hid hO9
    have HB9 : Hid (Below W w' W9) := Lib.hid hb9'
    have HCj := Lib.hid (HJ2.out W9 _ _ _ _ _ _ (HE.out W9 HB9.out).2.2.2.1)
    rw [← HW9.out] at HCj
    clear h9 hb9 hs9 hrow3 hrow4 g1 g2 hO9 hrow4' hb9' hW9 HC1 HI2 HJ2 hs8
    refine hq.out ?_
    clear hq
    go_wp2_with (go_at_call 28; (with_reducible refine HCj.out.mono ?_); rintro e w10 ⟨b1, b2, b3, b4, b5, b6, rfl, h10⟩; refine park ?_; intro q hq)
    rw [HW9.out] at h10
    have hs9 : W ≤ W9.heap.size := by have := HB9.out.size; rw [HWe.out] at this; exact this
    have hb10 : Below W w' w10 := HB9.out.trans (h10.out.2.mono hs9)
    have hs10 : W ≤ w10.heap.size := Nat.le_trans hs9 h10.out.2.size
    have hrow3 := (h10.out.2.block q3 (Array.getElem?_eq_some_iff.1 HRow3.out).1).trans HRow3.out
    have hrow4 := (h10.out.2.block q4 (Array.getElem?_eq_some_iff.1 HRow4.out).1).trans HRow4.out
    obtain ⟨g1, g2⟩ := row4_put hrow4 (.bool f2) (.slice b1 k2 b2) (.slice b3 v2 b4) (.slice b5 i2 b6)
    have hT10 := h10.out.1.keptN g2 hrow4 (by decide)
    have hO10 := (HO9.out.below h10.out.2).keptR g2 hrow4 (by decide) (by decide) (by decide) (by decide)
    have hrow3' := (g2.block q3 (Array.getElem?_eq_some_iff.1 hrow3).1 e53).trans hrow3
    have hb10' := hb10.trans (g2.below hs10 (fun k hk e => by have e' : k = q4 := e; omega))
    clear x0 x1 x2 x3 y0 y1 y2 y3 z0 z1 z2 z3
    obtain ⟨x0, x1, x2, x3⟩ := row4_cells hrow3
    obtain ⟨y0, y1, y2, y3⟩ := row4_cells hrow4
    obtain ⟨z0, z1, z2, z3⟩ := row4_frozen hrow4
    obtain ⟨W10, hW10⟩ : ∃ x, ((((w10.setCell ⟨q4, 0, none⟩ (.bool f2)).setCell ⟨q4, 1, none⟩ (.slice b1 k2 b2)).setCell ⟨q4, 2, none⟩ (.slice b3 v2 b4)).setCell ⟨q4, 3, none⟩ (.slice b5 i2 b6)) = x := ⟨_, rfl⟩
    rw [hW10] at g1 hT10 hO10 hrow3' hb10'
    have HW10 := Lib.hid hW10
    have HCs := Lib.hid (HSa2.out W10 _ _ _ _ _ _ _ _ _ _ _ _ hO10.at' hT10.1)
    rw [← HW10.out] at HCs
    have HRow3 := Lib.hid hrow3'
    have HRow4 := Lib.hid g1
    have HO6 := Lib.hid hO10
    have HB6 : Hid (Below W w' W10) := Lib.hid hb10'
    clear h10 hb10 hs10 hrow3 hrow4 g1 g2 hT10 hO10 hrow3' hb10' hW10 HCj HO9 HB9 hs9
    refine hq.out ?_
    clear hq
    go_wp2_with (go_at_call 19; (with_reducible refine HCs.out.mono ?_); rintro e w7 ⟨rfl, h7⟩; refine park ?_; intro q hq)
    rw [HW10.out] at h7
    have hrow3 := (h7.out.block q3 (Array.getElem?_eq_some_iff.1 HRow3.out).1).trans HRow3.out
    have hrow4 := (h7.out.block q4 (Array.getElem?_eq_some_iff.1 HRow4.out).1).trans HRow4.out
    have hO7 := HO6.out.below h7.out
    have HB7 : Hid (Below W w' w7) := Lib.hid (HB6.out.trans (h7.out.mono (by have := HB6.out.size; rw [HWe.out] at this; exact this)))
    obtain ⟨us, hul, hsh⟩ := hO7.sh
    rw [HL2.out.1, HL2.out.2.1, HL2.out.2.2.1] at hsh
    rw [HL2.out.2.1] at hul
    have HSp := Lib.hid (spoil_calls (lf := f2) hsh hul (by have := HB7.out.size; rw [HWe.out] at this; exact this) HZ2.out)
    clear x0 x1 x2 x3 y0 y1 y2 y3 z0 z1 z2 z3
    obtain ⟨x0, x1, x2, x3⟩ := row4_cells hrow3
    have HRow3 := Lib.hid hrow3
    have HRow4 := Lib.hid hrow4
    clear h7 hrow3 hrow4 hO7 hul hsh HCs HO6 HB6
    refine hq.out ?_
    clear hq
    go_wp2_with (go_at_call 27; (with_reducible refine HSp.out.mono ?_); rintro e w8 ⟨rfl, h8⟩; refine park ?_; intro q hq)
    have HRow3 := Lib.hid (h8.out.2.ty _ _ _ _ HRow3.out (by decide) (by decide) (by decide))
    have HRow4 := Lib.hid (h8.out.2.ty _ _ _ _ HRow4.out (by decide) (by decide) (by decide))
    have HB8 : Hid (Below W w' w8) := Lib.hid (HB7.out.trans h8.out.1)
    clear x0 x1 x2 x3 h8 HSp HB7
    refine hq.out ?_
    clear hq
    obtain ⟨R3, R4, c3, hz3, hz4, I3, J3⟩ := HUc.out
    obtain ⟨k3, hk3⟩ : ∃ x, R3.keys.length = x := ⟨_, rfl⟩
    obtain ⟨v3, hv3⟩ : ∃ x, R3.vals.length = x := ⟨_, rfl⟩
    obtain ⟨i3, hi3⟩ : ∃ x, R3.kids.length = x := ⟨_, rfl⟩
    obtain ⟨f3, hf3⟩ : ∃ x, R3.leaf = x := ⟨_, rfl⟩
    have HZ3 : Hid (k3 ≤ 5000 ∧ v3 ≤ 5000 ∧ i3 ≤ 5000) := by rw [hk3, hv3, hi3] at hz3; exact hz3
    have HL3 : Hid (R3.keys.length = k3 ∧ R3.vals.length = v3 ∧ R3.kids.length = i3 ∧ R3.leaf = f3) := ⟨hk3, hv3, hi3, hf3⟩
    have HSa3 := Lib.hid (HSame.out R3)
    rw [hk3, hv3, hi3, hf3] at HSa3
    obtain ⟨k4, hk4⟩ : ∃ x, R4.keys.length = x := ⟨_, rfl⟩
    obtain ⟨v4, hv4⟩ : ∃ x, R4.vals.length = x := ⟨_, rfl⟩
    obtain ⟨i4, hi4⟩ : ∃ x, R4.kids.length = x := ⟨_, rfl⟩
    obtain ⟨f4, hf4⟩ : ∃ x, R4.leaf = x := ⟨_, rfl⟩
    have HZ4 : Hid (k4 ≤ 5000 ∧ v4 ≤ 5000 ∧ i4 ≤ 5000) := by rw [hk4, hv4, hi4] at hz4; exact hz4
    have HL4 : Hid (R4.keys.length = k4 ∧ R4.vals.length = v4 ∧ R4.kids.length = i4 ∧ R4.leaf = f4) := ⟨hk4, hv4, hi4, hf4⟩
    have HSa4 := Lib.hid (HSame.out R4)
    rw [hk4, hv4, hi4, hf4] at HSa4
    simp only [HNL.out.1, HNL.out.2.1, HNL.out.2.2.1, HNL.out.2.2.2, hk3, hv3, hi3, hf3, hk4, hv4, hi4, hf4] at I3 J3
    have HI3 := Lib.hid I3
    have HJ3 := Lib.hid J3
    clear I3 J3 hk3 hv3 hi3 hf3 hz3 hk4 hv4 hi4 hf4 hz4
    clear HUc
    have HC1 := Lib.hid (HI3.out w8 _ _ _ _ _ _ (HE.out w8 HB8.out).2.1)
    obtain ⟨x0, x1, x2, x3⟩ := HQ1.out w8 HB8.out
    go_wp2_with (go_at_call 24; (with_reducible refine HC1.out.mono ?_); rintro e w9 ⟨a1, a2, a3, a4, a5, a6, d1, d2, d3, d4, d5, d6, rfl, h9⟩; refine park ?_; intro q hq)
    have hs8 : W ≤ w8.heap.size := by have := HB8.out.size; rw [HWe.out] at this; exact this
    have hb9 : Below W w' w9 := HB8.out.trans (h9.out.2.2.mono hs8)
    have hs9 : W ≤ w9.heap.size := Nat.le_trans hs8 h9.out.2.2.size
    have hrow3 := (h9.out.2.2.block q3 (Array.getElem?_eq_some_iff.1 HRow3.out).1).trans HRow3.out
    have hrow4 := (h9.out.2.2.block q4 (Array.getElem?_eq_some_iff.1 HRow4.out).1).trans HRow4.out
    have hn3 : ¬ q3 = w9.heap.size := by have := (Array.getElem?_eq_some_iff.1 hrow3).1; omega
    have hn3' : ¬ w9.heap.size = q3 := by omega
    have hba : Below w9.heap.size w9 (w9.alloc (.cells #[.bool false, .slice none 0 0, .slice none 0 0, .slice none 0 0] 28)) := (Below.refl _ _).alloc (Nat.le_refl _) _
    have hrowZ3 := (hba.block q3 (Array.getElem?_eq_some_iff.1 hrow3).1).trans hrow3
    have hbZ := hb9.trans (hba.mono hs9)
    clear x0 x1 x2 x3
    obtain ⟨x0, x1, x2, x3⟩ := HX4.out _ hbZ
    obtain ⟨y0, y1, y2, y3⟩ := row4_cells hrowZ3
    obtain ⟨z0, z1, z2, z3⟩ := row4_frozen hrowZ3
    have hrw : ¬ r = w9.heap.size := by omega
    have hn4 : ¬ q4 = w9.heap.size := by have := (Array.getElem?_eq_some_iff.1 hrow4).1; omega
    have hz5 := heap_alloc_new w9 (.cells #[.bool false, .slice none 0 0, .slice none 0 0, .slice none 0 0] 28)
    obtain ⟨g1, g2⟩ := row4_put hrowZ3 (.bool f3) (.slice a1 k3 a2) (.slice a3 v3 a4) (.slice a5 i3 a6)
    have hz5' := (g2.block w9.heap.size (Array.getElem?_eq_some_iff.1 hz5).1 hn3').trans hz5
    obtain ⟨m1, m2⟩ := row4_put hz5' (.bool f4) (.slice d1 k4 d2) (.slice d3 v4 d4) (.slice d5 i4 d6)
    have g1' := (m2.block q3 (Array.getElem?_eq_some_iff.1 g1).1 hn3).trans g1
    have hr4a := (hba.block q4 (Array.getElem?_eq_some_iff.1 hrow4).1).trans hrow4
    have hr4b := (g2.block q4 (Array.getElem?_eq_some_iff.1 hr4a).1 e54).trans hr4a
    have hr4c := (m2.block q4 (Array.getElem?_eq_some_iff.1 hr4b).1 hn4).trans hr4b
    have hO3 := (((h9.out.1.base' hs8).below hba).keptN g2 (row_ty hrowZ3)).keptN m2 (row_ty hz5')
    have hO4 := (((h9.out.2.1.base' hs8).below hba).keptN g2 (row_ty hrowZ3)).keptN m2 (row_ty hz5')
    have hsZ := Nat.le_trans hs9 hba.size
    have hb5 := (hbZ.trans (g2.below hsZ (fun k hk e => by have e' : k = q3 := e; omega))).trans (m2.below (Nat.le_trans hsZ g2.size) (fun k hk e => by have e' : k = w9.heap.size := e; omega))
    obtain ⟨W9, hW9⟩ : ∃ x, (((((((((w9.alloc (.cells #[.bool false, .slice none 0 0, .slice none 0 0, .slice none 0 0] 28)).setCell ⟨q3, 0, none⟩ (.bool f3)).setCell ⟨q3, 1, none⟩ (.slice a1 k3 a2)).setCell ⟨q3, 2, none⟩ (.slice a3 v3 a4)).setCell ⟨q3, 3, none⟩ (.slice a5 i3 a6)).setCell ⟨w9.heap.size, 0, none⟩ (.bool f4)).setCell ⟨w9.heap.size, 1, none⟩ (.slice d1 k4 d2)).setCell ⟨w9.heap.size, 2, none⟩ (.slice d3 v4 d4)).setCell ⟨w9.heap.size, 3, none⟩ (.slice d5 i4 d6)) = x := ⟨_, rfl⟩
    rw [hW9] at m1 g1' hr4c hO3 hO4 hb5
    have HW9 := Lib.hid hW9
    have HRow3 := Lib.hid g1'
    have HRow4 := Lib.hid hr4c
    have HRow5 := Lib.hid m1
    have HO3 := Lib.hid hO3
    have HO4 := Lib.hid hO4
    have HB9 : Hid (Below W w' W9) := Lib.hid hb5
    have HCj := Lib.hid (HJ3.out W9 _ _ _ _ _ _ (HE.out W9 HB9.out).2.2.2.1)
    rw [← HW9.out] at HCj
    obtain ⟨q5, hq5⟩ : ∃ x, w9.heap.size = x := ⟨_, rfl⟩
    have HQ5 := Lib.hid hq5
    have hq5W : W ≤ q5 := by omega
    have hq35 : q3 < q5 := by have := (Array.getElem?_eq_some_iff.1 hrow3).1; omega
    have hq45 : q4 < q5 := by have := (Array.getElem?_eq_some_iff.1 hrow4).1; omega
    clear h9 hb9 hs9 hrow3 hrow4 g1 g2 m1 m2 hz5 hz5' g1' hr4a hr4b hr4c hO3 hO4 hb5 hbZ hba hrowZ3 hsZ hW9 HC1 HI3 HJ3 hs8 hq5
    refine hq.out ?_
    clear hq
    go_wp2_with (go_at_call 29; (with_reducible refine HCj.out.mono ?_); rintro e w10 ⟨b1, b2, b3, b4, b5, b6, p1, p2, p3, p4, p5, p6, rfl, h10⟩; refine park ?_; intro q hq)
    rw [HW9.out] at h10
    have hs9 : W ≤ W9.heap.size := by have := HB9.out.size; rw [HWe.out] at this; exact this
    have hb10 : Below W w' w10 := HB9.out.trans (h10.out.2.2.mono hs9)
    have hs10 : W ≤ w10.heap.size := Nat.le_trans hs9 h10.out.2.2.size
    have hrow3 := (h10.out.2.2.block q3 (Array.getElem?_eq_some_iff.1 HRow3.out).1).trans HRow3.out
    have hrow4 := (h10.out.2.2.block q4 (Array.getElem?_eq_some_iff.1 HRow4.out).1).trans HRow4.out
    have hr5 := HRow5.out
    rw [HQ5.out] at hr5
    have hrow5 := (h10.out.2.2.block q5 (Array.getElem?_eq_some_iff.1 hr5).1).trans hr5
    have hba : Below w10.heap.size w10 (w10.alloc (.cells #[.bool false, .slice none 0 0, .slice none 0 0, .slice none 0 0] 26)) := (Below.refl _ _).alloc (Nat.le_refl _) _
    have hrowZ4 := (hba.block q4 (Array.getElem?_eq_some_iff.1 hrow4).1).trans hrow4
    have hrowZ3 := (hba.block q3 (Array.getElem?_eq_some_iff.1 hrow3).1).trans hrow3
    have hrowZ5 := (hba.block q5 (Array.getElem?_eq_some_iff.1 hrow5).1).trans hrow5
    have hbZ := hb10.trans (hba.mono hs10)
    have hz6 := heap_alloc_new w10 (.cells #[.bool false, .slice none 0 0, .slice none 0 0, .slice none 0 0] 26)
    have hw3 : ¬ q3 = w10.heap.size := by have := (Array.getElem?_eq_some_iff.1 hrow3).1; omega
    have hw4 : ¬ q4 = w10.heap.size := by have := (Array.getElem?_eq_some_iff.1 hrow4).1; omega
    have hw4' : ¬ w10.heap.size = q4 := by omega
    have hw5 : ¬ q5 = w10.heap.size := by have := (Array.getElem?_eq_some_iff.1 hrow5).1; omega
    have hw54 : ¬ q5 = q4 := by omega
    obtain ⟨g1, g2⟩ := row4_put hrowZ4 (.bool f3) (.slice b1 k3 b2) (.slice b3 v3 b4) (.slice b5 i3 b6)
    have hz6' := (g2.block w10.heap.size (Array.getElem?_eq_some_iff.1 hz6).1 hw4').trans hz6
    obtain ⟨m1, m2⟩ := row4_put hz6' (.bool f4) (.slice p1 k4 p2) (.slice p3 v4 p4) (.slice p5 i4 p6)
    have g1' := (m2.block q4 (Array.getElem?_eq_some_iff.1 g1).1 hw4).trans g1
    have hr3b := (g2.block q3 (Array.getElem?_eq_some_iff.1 hrowZ3).1 e53).trans hrowZ3
    have hr3c := (m2.block q3 (Array.getElem?_eq_some_iff.1 hr3b).1 hw3).trans hr3b
    have hr5b := (g2.block q5 (Array.getElem?_eq_some_iff.1 hrowZ5).1 hw54).trans hrowZ5
    have hr5c := (m2.block q5 (Array.getElem?_eq_some_iff.1 hr5b).1 hw5).trans hr5b
    have hO3 := (((HO3.out.below h10.out.2.2).below hba).keptR g2 hrowZ4 (by decide) (by decide) (by decide) (by decide)).keptR m2 hz6' (by decide) (by decide) (by decide) (by decide)
    have hO4 := (((HO4.out.below h10.out.2.2).below hba).keptR g2 hrowZ4 (by decide) (by decide) (by decide) (by decide)).keptR m2 hz6' (by decide) (by decide) (by decide) (by decide)
    have hT3 := ((h10.out.1.below hba).keptN g2 hrowZ4 (by decide)).keptN m2 hz6' (by decide)
    have hT4 := ((h10.out.2.1.below hba).keptN g2 hrowZ4 (by decide)).keptN m2 hz6' (by decide)
    have hsZ := Nat.le_trans hs10 hba.size
    have hb5 := (hbZ.trans (g2.below hsZ (fun k hk e => by have e' : k = q4 := e; omega))).trans (m2.below (Nat.le_trans hsZ g2.size) (fun k hk e => by have e' : k = w10.heap.size := e; omega))
    clear x0 x1 x2 x3 y0 y1 y2 y3 z0 z1 z2 z3
    obtain ⟨x0, x1, x2, x3⟩ := row4_cells hrowZ3
    obtain ⟨y0, y1, y2, y3⟩ := row4_cells hrowZ4
    obtain ⟨z0, z1, z2, z3⟩ := row4_frozen hrowZ4
    obtain ⟨W10, hW10⟩ : ∃ x, (((((((((w10.alloc (.cells #[.bool false, .slice none 0 0, .slice none 0 0, .slice none 0 0] 26)).setCell ⟨q4, 0, none⟩ (.bool f3)).setCell ⟨q4, 1, none⟩ (.slice b1 k3 b2)).setCell ⟨q4, 2, none⟩ (.slice b3 v3 b4)).setCell ⟨q4, 3, none⟩ (.slice b5 i3 b6)).setCell ⟨w10.heap.size, 0, none⟩ (.bool f4)).setCell ⟨w10.heap.size, 1, none⟩ (.slice p1 k4 p2)).setCell ⟨w10.heap.size, 2, none⟩ (.slice p3 v4 p4)).setCell ⟨w10.heap.size, 3, none⟩ (.slice p5 i4 p6)) = x := ⟨_, rfl⟩
    rw [hW10] at m1 g1' hr3c hr5c hO3 hO4 hT3 hT4 hb5
    have HW10 := Lib.hid hW10
    have HCs := Lib.hid (HSa3.out W10 _ _ _ _ _ _ _ _ _ _ _ _ hO3.at' hT3.1)
    rw [← HW10.out] at HCs
    have HRow3 := Lib.hid hr3c
    have HRow4 := Lib.hid g1'
    have HRow5 := Lib.hid hr5c
    have HO3 := Lib.hid hO3
    have HO4 := Lib.hid hO4
    have HT4 := Lib.hid hT4
    have HB6 : Hid (Below W w' W10) := Lib.hid hb5
    obtain ⟨q6, hq6⟩ : ∃ x, w10.heap.size = x := ⟨_, rfl⟩
    have HQ6 := Lib.hid hq6
    rw [hq6] at m1
    have HRow6 := Lib.hid m1
    clear h10 hb10 hs10 hrow3 hrow4 hrow5 hr5 g1 g2 m1 m2 hz6 hz6' g1' hr3b hr3c hr5b hr5c hO3 hO4 hT3 hT4 hb5 hbZ hba hrowZ3 hrowZ4 hrowZ5 hsZ hW10 HCj HB9 hs9 hq6
    refine hq.out ?_
    clear hq
    simp only [HQ5.out]
    go_wp2_with (go_at_call 19; (with_reducible refine HCs.out.mono ?_); rintro e w7 ⟨rfl, h7⟩; refine park ?_; intro q hq)
    rw [HW10.out] at h7
    have hs6 : W ≤ W10.heap.size := by have := HB6.out.size; rw [HWe.out] at this; exact this
    have hrow3 := (h7.out.block q3 (Array.getElem?_eq_some_iff.1 HRow3.out).1).trans HRow3.out
    have hrow4 := (h7.out.block q4 (Array.getElem?_eq_some_iff.1 HRow4.out).1).trans HRow4.out
    have hrow5 := (h7.out.block q5 (Array.getElem?_eq_some_iff.1 HRow5.out).1).trans HRow5.out
    have hrow6 := (h7.out.block q6 (Array.getElem?_eq_some_iff.1 HRow6.out).1).trans HRow6.out
    have hO3 := HO3.out.below h7.out
    have hO4 := HO4.out.below h7.out
    have HB7 : Hid (Below W w' w7) := Lib.hid (HB6.out.trans (h7.out.mono hs6))
    have HCs2 := Lib.hid (HSa4.out w7 _ _ _ _ _ _ _ _ _ _ _ _ hO4.at' (HT4.out.1.below h7.out))
    clear x0 x1 x2 x3 y0 y1 y2 y3 z0 z1 z2 z3
    obtain ⟨x0, x1, x2, x3⟩ := row4_cells hrow5
    obtain ⟨y0, y1, y2, y3⟩ := row4_cells hrow6
    have HRow3 := Lib.hid hrow3
    have HRow4 := Lib.hid hrow4
    have HRow5 := Lib.hid hrow5
    have HO3 := Lib.hid hO3
    have HO4 := Lib.hid hO4
    clear h7 hrow3 hrow4 hrow5 hrow6 hO3 hO4 HCs HB6 HT4 HRow6 hs6
    refine hq.out ?_
    clear hq
    simp only [HQ6.out]
    go_wp2_with (go_at_call 19; (with_reducible refine HCs2.out.mono ?_); rintro e w11 ⟨rfl, h11⟩; refine park ?_; intro q hq)
    have hs7 : W ≤ w7.heap.size := by have := HB7.out.size; rw [HWe.out] at this; exact this
    have hrow3 := (h11.out.block q3 (Array.getElem?_eq_some_iff.1 HRow3.out).1).trans HRow3.out
    have hrow4 := (h11.out.block q4 (Array.getElem?_eq_some_iff.1 HRow4.out).1).trans HRow4.out
    have hrow5 := (h11.out.block q5 (Array.getElem?_eq_some_iff.1 HRow5.out).1).trans HRow5.out
    have HB11 : Hid (Below W w' w11) := Lib.hid (HB7.out.trans (h11.out.mono hs7))
    obtain ⟨us, hul, hsh⟩ := (HO3.out.below h11.out).sh
    rw [HL3.out.1, HL3.out.2.1, HL3.out.2.2.1] at hsh
    rw [HL3.out.2.1] at hul
    obtain ⟨ut, hut, hth⟩ := (HO4.out.below h11.out).sh
    rw [HL4.out.1, HL4.out.2.1, HL4.out.2.2.1] at hth
    rw [HL4.out.2.1] at hut
    have hs11 : W ≤ w11.heap.size := Nat.le_trans hs7 h11.out.size
    have HSp := Lib.hid (spoil_calls (lf := f3) hsh hul hs11 HZ3.out)
    have HTh := Lib.hid hth
    have HUt := Lib.hid hut
    clear x0 x1 x2 x3 y0 y1 y2 y3
    obtain ⟨x0, x1, x2, x3⟩ := row4_cells hrow3
    have HRow3 := Lib.hid hrow3
    have HRow4 := Lib.hid hrow4
    have HRow5 := Lib.hid hrow5
    clear h11 hrow3 hrow4 hrow5 hul hsh hut hth HCs2 HO3 HO4 HB7 hs7 hs11
    refine hq.out ?_
    clear hq
    go_wp2_with (go_at_call 27; (with_reducible refine HSp.out.mono ?_); rintro e w12 ⟨rfl, h12⟩; refine park ?_; intro q hq)
    have HRow3 := Lib.hid (h12.out.2.ty _ _ _ _ HRow3.out (by decide) (by decide) (by decide))
    have HRow4 := Lib.hid (h12.out.2.ty _ _ _ _ HRow4.out (by decide) (by decide) (by decide))
    have hrow5 := h12.out.2.ty _ _ _ _ HRow5.out (by decide) (by decide) (by decide)
    have HB12 : Hid (Below W w' w12) := Lib.hid (HB11.out.trans h12.out.1)
    have HSp2 := Lib.hid (spoil_calls (lf := f4) (h12.out.2.oth _ _ _ _ _ _ _ _ _ _ _ HTh.out) HUt.out (by have := HB12.out.size; rw [HWe.out] at this; exact this) HZ4.out)
    clear x0 x1 x2 x3
    obtain ⟨x0, x1, x2, x3⟩ := row4_cells hrow5
    clear h12 HSp HB11 hrow5 HTh HUt HRow5
    refine hq.out ?_
    clear hq
    go_wp2_with (go_at_call 27; (with_reducible refine HSp2.out.mono ?_); rintro e w13 ⟨rfl, h13⟩; refine park ?_; intro q hq)
    have HRow3 := Lib.hid (h13.out.2.ty _ _ _ _ HRow3.out (by decide) (by decide) (by decide))
    have HRow4 := Lib.hid (h13.out.2.ty _ _ _ _ HRow4.out (by decide) (by decide) (by decide))
    have HB13 : Hid (Below W w' w13) := Lib.hid (HB12.out.trans h13.out.1)
    clear x0 x1 x2 x3 h13 HSp2 HB12
    refine hq.out ?_
    clear hq
    have HBw13 := HB13
    obtain ⟨R5, c5, hz5, I5, J5⟩ := HUj.out
    obtain ⟨k5, hk5⟩ : ∃ x, R5.keys.length = x := ⟨_, rfl⟩
    obtain ⟨v5, hv5⟩ : ∃ x, R5.vals.length = x := ⟨_, rfl⟩
    obtain ⟨i5, hi5⟩ : ∃ x, R5.kids.length = x := ⟨_, rfl⟩
    obtain ⟨f5, hf5⟩ : ∃ x, R5.leaf = x := ⟨_, rfl⟩
    have HZ5 : Hid (k5 ≤ 5000 ∧ v5 ≤ 5000 ∧ i5 ≤ 5000) := by rw [hk5, hv5, hi5] at hz5; exact hz5
    have HL5 : Hid (R5.keys.length = k5 ∧ R5.vals.length = v5 ∧ R5.kids.length = i5 ∧ R5.leaf = f5) := ⟨hk5, hv5, hi5, hf5⟩
    have HSa5 := Lib.hid (HSame.out R5)
    rw [hk5, hv5, hi5, hf5] at HSa5
    simp only [HNL.out.1, HNL.out.2.1, HNL.out.2.2.1, HNL.out.2.2.2, HML.out.1, HML.out.2.1, HML.out.2.2.1, HML.out.2.2.2, HDD.out.2.2.2, hk5, hv5, hi5, hf5] at I5 J5
    have HI5 := Lib.hid I5
    have HJ5 := Lib.hid J5
    clear I5 J5 hk5 hv5 hi5 hf5 hz5
    clear HUj
    have HB8 := HBw13
    have HC1 := Lib.hid (HI5.out w13 _ _ _ _ _ _ _ _ _ _ _ _ (HE.out w13 HB8.out).2.1 (HE.out w13 HB8.out).2.2.1)
    obtain ⟨x0, x1, x2, x3⟩ := HQ1.out w13 HB8.out
    obtain ⟨s0, s1, s2, s3⟩ := HQ2.out w13 HB8.out
    go_wp2_with (go_at_call 25; (with_reducible refine HC1.out.mono ?_); rintro e w9 ⟨a1, a2, a3, a4, a5, a6, rfl, h9⟩; refine park ?_; intro q hq)
    have hs8 : W ≤ w13.heap.size := by have := HB8.out.size; rw [HWe.out] at this; exact this
    have hb9 : Below W w' w9 := HB8.out.trans (h9.out.2.mono hs8)
    have hs9 : W ≤ w9.heap.size := Nat.le_trans hs8 h9.out.2.size
    have hrow3 := (h9.out.2.block q3 (Array.getElem?_eq_some_iff.1 HRow3.out).1).trans HRow3.out
    have hrow4 := (h9.out.2.block q4 (Array.getElem?_eq_some_iff.1 HRow4.out).1).trans HRow4.out
    obtain ⟨g1, g2⟩ := row4_put hrow3 (.bool f5) (.slice a1 k5 a2) (.slice a3 v5 a4) (.slice a5 i5 a6)
    have hO9 := (h9.out.1.base' hs8).keptN g2 (row_ty hrow3)
    have hrow4' := (g2.block q4 (Array.getElem?_eq_some_iff.1 hrow4).1 e54).trans hrow4
    have hb9' := hb9.trans (g2.below hs9 (fun k hk e => by have e' : k = q3 := e; omega))
    clear x0 x1 x2 x3 s0 s1 s2 s3
    obtain ⟨x0, x1, x2, x3⟩ := HX4.out w9 hb9
    obtain ⟨y0, y1, y2, y3⟩ := row4_cells hrow3
    obtain ⟨z0, z1, z2, z3⟩ := row4_frozen hrow3
    obtain ⟨s0, s1, s2, s3⟩ := HY4.out w9 hb9
    obtain ⟨W9, hW9⟩ : ∃ x, ((((w9.setCell ⟨q3, 0, none⟩ (.bool f5)).setCell ⟨q3, 1, none⟩ (.slice a1 k5 a2)).setCell ⟨q3, 2, none⟩ (.slice a3 v5 a4)).setCell ⟨q3, 3, none⟩ (.slice a5 i5 a6)) = x := ⟨_, rfl⟩
    rw [hW9] at g1 hO9 hrow4' hb9'
    have HW9 := Lib.hid hW9
    have HRow3 := Lib.hid g1
    have HRow4 := Lib.hid hrow4'
    have HO9 := Lib.hid hO9
    have HB9 : Hid (Below W w' W9) := Lib.hid hb9'
    have HCj := Lib.hid (HJ5.out W9 _ _ _ _ _ _ _ _ _ _ _ _ (HE.out W9 HB9.out).2.2.2.1 (HE.out W9 HB9.out).2.2.2.2.1)
    rw [← HW9.out] at HCj
    clear h9 hb9 hs9 hrow3 hrow4 g1 g2 hO9 hrow4' hb9' hW9 HC1 HI5 HJ5 hs8
    refine hq.out ?_
    clear hq
    go_wp2_with (go_at_call 30; (with_reducible refine HCj.out.mono ?_); rintro e w10 ⟨b1, b2, b3, b4, b5, b6, rfl, h10⟩; refine park ?_; intro q hq)
    rw [HW9.out] at h10
    have hs9 : W ≤ W9.heap.size := by have := HB9.out.size; rw [HWe.out] at this; exact this
    have hb10 : Below W w' w10 := HB9.out.trans (h10.out.2.mono hs9)
    have hs10 : W ≤ w10.heap.size := Nat.le_trans hs9 h10.out.2.size
    have hrow3 := (h10.out.2.block q3 (Array.getElem?_eq_some_iff.1 HRow3.out).1).trans HRow3.out
    have hrow4 := (h10.out.2.block q4 (Array.getElem?_eq_some_iff.1 HRow4.out).1).trans HRow4.out
    obtain ⟨g1, g2⟩ := row4_put hrow4 (.bool f5) (.slice b1 k5 b2) (.slice b3 v5 b4) (.slice b5 i5 b6)
    have hT10 := h10.out.1.keptN g2 hrow4 (by decide)
    have hO10 := (HO9.out.below h10.out.2).keptR g2 hrow4 (by decide) (by decide) (by decide) (by decide)
    have hrow3' := (g2.block q3 (Array.getElem?_eq_some_iff.1 hrow3).1 e53).trans hrow3
    have hb10' := hb10.trans (g2.below hs10 (fun k hk e => by have e' : k = q4 := e; omega))
    clear x0 x1 x2 x3 y0 y1 y2 y3 z0 z1 z2 z3 s0 s1 s2 s3
    obtain ⟨x0, x1, x2, x3⟩ := row4_cells hrow3
    obtain ⟨y0, y1, y2, y3⟩ := row4_cells hrow4
    obtain ⟨z0, z1, z2, z3⟩ := row4_frozen hrow4
    obtain ⟨W10, hW10⟩ : ∃ x, ((((w10.setCell ⟨q4, 0, none⟩ (.bool f5)).setCell ⟨q4, 1, none⟩ (.slice b1 k5 b2)).setCell ⟨q4, 2, none⟩ (.slice b3 v5 b4)).setCell ⟨q4, 3, none⟩ (.slice b5 i5 b6)) = x := ⟨_, rfl⟩
    rw [hW10] at g1 hT10 hO10 hrow3' hb10'
    have HW10 := Lib.hid hW10
    have HCs := Lib.hid (HSa5.out W10 _ _ _ _ _ _ _ _ _ _ _ _ hO10.at' hT10.1)
    rw [← HW10.out] at HCs
    have HRow3 := Lib.hid hrow3'
    have HRow4 := Lib.hid g1
    have HO6 := Lib.hid hO10
    have HB6 : Hid (Below W w' W10) := Lib.hid hb10'
    clear h10 hb10 hs10 hrow3 hrow4 g1 g2 hT10 hO10 hrow3' hb10' hW10 HCj HO9 HB9 hs9
    refine hq.out ?_
    clear hq
    go_wp2_with (go_at_call 19; (with_reducible refine HCs.out.mono ?_); rintro e w7 ⟨rfl, h7⟩; refine park ?_; intro q hq)
    rw [HW10.out] at h7
    have hrow3 := (h7.out.block q3 (Array.getElem?_eq_some_iff.1 HRow3.out).1).trans HRow3.out
    have hrow4 := (h7.out.block q4 (Array.getElem?_eq_some_iff.1 HRow4.out).1).trans HRow4.out
    have hO7 := HO6.out.below h7.out
    have HB7 : Hid (Below W w' w7) := Lib.hid (HB6.out.trans (h7.out.mono (by have := HB6.out.size; rw [HWe.out] at this; exact this)))
    obtain ⟨us, hul, hsh⟩ := hO7.sh
    rw [HL5.out.1, HL5.out.2.1, HL5.out.2.2.1] at hsh
    rw [HL5.out.2.1] at hul
    have HSp := Lib.hid (spoil_calls (lf := f5) hsh hul (by have := HB7.out.size; rw [HWe.out] at this; exact this) HZ5.out)
    clear x0 x1 x2 x3 y0 y1 y2 y3 z0 z1 z2 z3
    obtain ⟨x0, x1, x2, x3⟩ := row4_cells hrow3
    have HRow3 := Lib.hid hrow3
    have HRow4 := Lib.hid hrow4
    clear h7 hrow3 hrow4 hO7 hul hsh HCs HO6 HB6
    refine hq.out ?_
    clear hq
    go_wp2_with (go_at_call 27; (with_reducible refine HSp.out.mono ?_); rintro e w8 ⟨rfl, h8⟩; refine park ?_; intro q hq)
    have HRow3 := Lib.hid (h8.out.2.ty _ _ _ _ HRow3.out (by decide) (by decide) (by decide))
    have HRow4 := Lib.hid (h8.out.2.ty _ _ _ _ HRow4.out (by decide) (by decide) (by decide))
    have HB8 : Hid (Below W w' w8) := Lib.hid (HB7.out.trans h8.out.1)
    clear x0 x1 x2 x3 h8 HSp HB7
    refine hq.out ?_
    clear hq
    have hs8 : W ≤ w8.heap.size := by have := HB8.out.size; rw [HWe.out] at this; exact this
    have hE8 := HE.out w8 HB8.out
    have hCa := HSame.out n w8 _ _ _ _ _ _ _ _ _ _ _ _ hE8.2.1 hE8.2.2.2.1
    rw [HNL.out.1, HNL.out.2.1, HNL.out.2.2.1, HNL.out.2.2.2] at hCa
    have HCa := Lib.hid hCa
    obtain ⟨x0, x1, x2, x3⟩ := HQ1.out w8 HB8.out
    obtain ⟨y0, y1, y2, y3⟩ := HX4.out w8 HB8.out
    clear hE8 hCa
    go_wp2_with (go_at_call 19; (with_reducible refine HCa.out.mono ?_); rintro e w11 ⟨rfl, h11⟩; refine park ?_; intro q hq)
    have HB11 : Hid (Below W w' w11) := Lib.hid (HB8.out.trans (h11.out.mono hs8))
    have hE11 := HE.out w11 HB11.out
    have hCb := HSame.out m w11 _ _ _ _ _ _ _ _ _ _ _ _ hE11.2.2.1 hE11.2.2.2.2.1
    rw [HML.out.1, HML.out.2.1, HML.out.2.2.1, HML.out.2.2.2] at hCb
    have HCb := Lib.hid hCb
    clear x0 x1 x2 x3 y0 y1 y2 y3
    obtain ⟨x0, x1, x2, x3⟩ := HQ2.out w11 HB11.out
    obtain ⟨y0, y1, y2, y3⟩ := HY4.out w11 HB11.out
    have hs11 : W ≤ w11.heap.size := Nat.le_trans hs8 h11.out.size
    clear hE11 hCb HCa h11
    refine hq.out ?_
    clear hq
    go_wp2_with (go_at_call 19; (with_reducible refine HCb.out.mono ?_); rintro e w12 ⟨rfl, h12⟩; refine park ?_; intro q hq)
    have HB12 : Hid (Below W w' w12) := Lib.hid (HB11.out.trans (h12.out.mono hs11))
    have hs12 : W ≤ w12.heap.size := Nat.le_trans hs11 h12.out.size
    have HWk := Lib.hid (works14_calls w12)
    clear x0 x1 x2 x3 y0 y1 y2 y3 HCb h12
    refine hq.out ?_
    clear hq
    go_wp2_with (go_at_call 20; (with_reducible refine HWk.out.mono ?_); rintro e w13 ⟨rfl, h13⟩; have h13 := Lib.hid h13)
    go_ret
    exact ⟨by simp, HB.out.trans ((HE.out w13 (HB12.out.trans (h13.out.mono hs12))).1.mono HB.out.size)⟩
end Go.Proofs.YtibmlgkakeakcaaDoor
namespace Go.Proofs.YtibmlgkakeakcaaDoor.nodeChanges
open Go.ChangeShapes Go.WideShapes Go.ChangeAt Go.RowKit Go.Proofs.YtibmlgkakeakcaaDoor
open Go.ChangeMaps (open_string shut_string)
set_option linter.unusedVariables false
set_option linter.unusedSimpArgs false
theorem own : ownKnob Tryd.prog.godebug = none := by kernel_rfl
theorem laidOut : laidOutB Tryd.prog = true := by kernel_rfl
theorem door_met (os : Os) (args : Array Value) : laidMetH Tryd.prog Rows.nodeChangesRow.laid ((World.laidAll Tryd.prog os Rows.nodeChangesRow.laid).forCall (fun _ _ => 0) ⟨#[], args, []⟩).memory :=
  laidMetH_of_parts (laidMet_laidAll args (by kernel_rfl) (by kernel_rfl)) (by kernel_rfl)
set_option maxRecDepth 100000 in
theorem lifted (os : Os) (started : os.Started) (H : Type) (enc : TypeId × Value → H) :
    ReturnsInHanded {} Tryd.checked os 7 .any (fun w args => (Rows.nodeChangesSpec.pre enc Tryd.prog Tryd.f7 Rows.nodeChangesRow.domain false w args ∧ laidMetH Tryd.prog Rows.nodeChangesRow.laid w) ∧ sizedMet enc Tryd.prog Tryd.f7 (OpenSpec.ofChange Rows.nodeChangesSpec) false w args) (Rows.nodeChangesSpec.post enc Tryd.prog Tryd.f7 false true false false) := by
  refine returnsInHanded_of_change_and (C := Tryd.checked) (X := fun w _ => laidMetH Tryd.prog Rows.nodeChangesRow.laid w) (fun _ _ _ hh h => h.of_heap hh) own started (by kernel_rfl) Tryd.func7
    (ChangeSpec.witness_shaped (enc := enc) (C := Tryd.checked) (os := os) (X := fun w _ => laidMetH Tryd.prog Rows.nodeChangesRow.laid w) false (World.laidAll Tryd.prog os Rows.nodeChangesRow.laid) #[.agg #[.bool false, .slice none 0 0, .slice none 0 0, .slice none 0 0], .agg #[.bool false, .slice none 0 0, .slice none 0 0, .slice none 0 0], .int .i64 0, .string ByteArray.empty, .slice none 0 0, .int .i64 0] 8 (World.laidAll_os _ _ _) (World.shaped_of_RefB (by kernel_rfl) (by kernel_rfl)) (by kernel_rfl) (by kernel_rfl) (by kernel_rfl) (door_met os _)) ?_
  intro W base args ds gs before hval0 hW hcnd hsz0 hL _
  have hsz : (DataW.weightsEach Tryd.prog (Tryd.f7.params.toList ++ Rows.nodeChangesSpec.plain.varTypes Tryd.prog) (ds ++ gs)).all (· ≤ reachBytes) = true := hsz0
  have hval : ∀ (j : Nat) t v, Tryd.f7.params[j]? = some t → args[j]? = some v → Value.okWide Tryd.prog W .any base t v := hval0
  have hW' := hW
  obtain ⟨p, q, hA0, hV, rfl, hfz, hnd⟩ := hW
  have hA : DataW.TrodAll enc Tryd.prog W 0 (fun _ => true) true Tryd.f7.params.toList args.toList ds p := hA0
  rw [Tryd.params7] at hA hval hsz
  obtain ⟨v0, vs0, d0, ds0, p0, q0, hargs, rfl, rfl, h0, r0⟩ := trodAll_cons hA
  obtain ⟨v1, vs1, d1, ds1, p1, q1, rfl, rfl, rfl, h1, r1⟩ := trodAll_cons r0
  obtain ⟨v2, vs2, d2, ds2, p2, q2, rfl, rfl, rfl, h2, r2⟩ := trodAll_cons r1
  obtain ⟨v3, vs3, d3, ds3, p3, q3, rfl, rfl, rfl, h3, r3⟩ := trodAll_cons r2
  obtain ⟨v4, vs4, d4, ds4, p4, q4, rfl, rfl, rfl, h4, r4⟩ := trodAll_cons r3
  obtain ⟨v5, vs5, d5, ds5, p5, q5, rfl, rfl, rfl, h5, r5⟩ := trodAll_cons r4
  obtain ⟨rfl, rfl, rfl⟩ := trodAll_nil r5
  obtain rfl : args = #[v0, v1, v2, v3, v4, v5] := by cases args; simp_all
  obtain ⟨rfl, rfl⟩ := trodVars_none hV
  have k0 := h0
  have lt0 : ∀ x ∈ p0, x.block < W.heap.size := by obtain ⟨m, hm⟩ := k0; exact DataW.trod_lt m _ _ _ hm
  obtain ⟨n0, kA0, kc0, vA0, vc0, iA0, ic0, rfl, hN0⟩ := open_node nodeR_fields nodeR_types nodeR_one (by kernel_rfl) Tryd.underlying4 Tryd.underlying22 Tryd.underlying9 (by kernel_rfl) Tryd.underlying23 Tryd.underlying30 Tryd.underlying5 (by kernel_rfl) (by kernel_rfl) Tryd.underlying24 Tryd.underlying3 (by kernel_rfl) (hval 0 26 v0 rfl rfl) h0
  have k1 := h1
  have lt1 : ∀ x ∈ p1, x.block < W.heap.size := by obtain ⟨m, hm⟩ := k1; exact DataW.trod_lt m _ _ _ hm
  obtain ⟨n1, kA1, kc1, vA1, vc1, iA1, ic1, rfl, hN1⟩ := open_node nodeR_fields nodeR_types nodeR_one (by kernel_rfl) Tryd.underlying4 Tryd.underlying22 Tryd.underlying9 (by kernel_rfl) Tryd.underlying23 Tryd.underlying30 Tryd.underlying5 (by kernel_rfl) (by kernel_rfl) Tryd.underlying24 Tryd.underlying3 (by kernel_rfl) (hval 1 26 v1 rfl rfl) h1
  obtain ⟨a2, rfl, rfl, rfl, w2⟩ := open_int Tryd.underlying3 (hval 2 3 v2 rfl rfl) h2
  have g2 : -9223372036854775808 ≤ a2 ∧ a2 ≤ 9223372036854775807 := by simp [Lit.wf, IntKind.min, IntKind.max, IntKind.signed, IntKind.bits] at w2; omega
  obtain ⟨s3, rfl, rfl, rfl, ws3⟩ := open_string Tryd.underlying9 (hval 3 9 v3 rfl rfl) h3
  obtain ⟨l3, rfl⟩ : ∃ l, s3 = bstr l := ⟨s3.data.toList, (bstr_of s3).symm⟩
  have g3 : l3.length ≤ 9223372036854775807 := by rw [← bstr_size]; unfold maxLen at ws3; omega
  obtain ⟨A4, len4, c4, rfl⟩ := okWide_slice Tryd.underlying30 (hval 4 30 v4 rfl rfl)
  have k4 := h4
  have lt4 : ∀ x ∈ p4, x.block < W.heap.size := by obtain ⟨m, hm⟩ := k4; exact DataW.trod_lt m _ _ _ hm
  obtain ⟨l4, rfl, hb4, hn4, hc4, hl4⟩ := open_bytes hsz (j := 4) (t := 30) rfl rfl Tryd.underlying30 Tryd.underlying5 (by kernel_rfl) (by kernel_rfl) h4
  obtain ⟨a5, rfl, rfl, rfl, w5⟩ := open_int Tryd.underlying3 (hval 5 3 v5 rfl rfl) h5
  have g5 : -9223372036854775808 ≤ a5 ∧ a5 ≤ 9223372036854775807 := by simp [Lit.wf, IntKind.min, IntKind.max, IntKind.signed, IntKind.bits] at w5; omega
  clear hA0 hval0 hsz0 hsz
  refine (nodeChanges_row n0 kA0 kc0 vA0 vc0 iA0 ic0 n1 kA1 kc1 vA1 vc1 iA1 ic1 a2 l3 A4 c4 l4 a5 W (hL) hN0 hN1 g2 g3 hb4 hn4 hc4 hl4 g5).mono fun e W' ⟨he, bel⟩ => ?_
  subst he
  exact ⟨_, rfl, _, _, _, [], _, [], hW', trodAll_mk1 (shut_bool Tryd.underlying4 _), (trodAll_cons_mk (Below.trod laidOut (by kernel_rfl) (of_decide_eq_true (by kernel_rfl)) k0 bel lt0) (trodAll_cons_mk (Below.trod laidOut (by kernel_rfl) (of_decide_eq_true (by kernel_rfl)) k1 bel lt1) (trodAll_cons_mk (shut_int Tryd.underlying3 w2) (trodAll_cons_mk (shut_string Tryd.underlying9 ws3) (trodAll_cons_mk (Below.trod laidOut (by kernel_rfl) (of_decide_eq_true (by kernel_rfl)) k4 bel lt4) (trodAll_cons_mk (shut_int Tryd.underlying3 w5) trodAll_mk0)))))), rfl, bel.frame _, fun h => by cases h⟩
theorem over : Rows.nodeChangesRow.holds Tryd.pinned (OpenSpec.ofChange Rows.nodeChangesSpec) :=
  OpenClaim.holds_of_wide 7 Tryd.f7 rfl rfl rfl rfl rfl rfl rfl ⟨rfl, rfl, rfl, rfl, rfl⟩ rfl rfl rfl rfl rfl (by kernel_rfl) Tryd.func7 (by kernel_rfl)
    (of_decide_eq_true (by kernel_rfl)) (by unfold Func.isWrapper; first | (rw [if_pos (by decide +kernel)]; kernel_rfl) | (rw [if_neg (by decide +kernel)]; exact ⟨rfl, rfl⟩))
    (fun os started H enc _ => lifted os started H enc)
theorem wants (t : TypeId) (h : t ∈ [26, 26, 3, 9, 30, 3]) : Tryd.prog.wantsStandIn t = false := by
  revert t h; intro t h
  simp only [List.mem_cons, List.mem_nil_iff, or_false] at h
  rcases h with rfl | rfl | rfl | rfl | rfl | rfl
  all_goals kernel_rfl
theorem proved : Rows.NodeChangesCardSaid :=
  Claim7.holds_tied_plain_at .later [] [.data, .pinned] true (true, "da34bb18c784ab9e87ff9316e9269a9866a8281f7037fee7a0c397eb733ed011") false
    over (fun _ h => by cases h) (by kernel_rfl) (fun _ h => by cases h) nodeChanges_row_tie rfl ⟨rfl, rfl⟩ (by kernel_rfl) rfl
    (fun f fn hf hfn => by
      obtain rfl : f = 7 := Option.some.inj ((show Tryd.prog.funcNamed "tabulary/tabularylaw14.NodeChanges" = some 7 by kernel_rfl).symm.trans hf) |>.symm
      obtain rfl : fn = Tryd.f7 := (Option.some.inj (Tryd.func7.symm.trans hfn)).symm
      exact ⟨by kernel_rfl, fun j t ht => by
        rw [Tryd.params7] at ht
        exact wants t (List.mem_of_getElem? (by simpa using ht))⟩)
    (by kernel_rfl)
end Go.Proofs.YtibmlgkakeakcaaDoor.nodeChanges
namespace Go.Proofs.YtibmlgkakeakcaaDoor
/-- The statement, under a short name. -/
theorem nodeChanges_holds : Rows.NodeChangesCardSaid := nodeChanges.proved
#print axioms nodeChanges_holds
end Go.Proofs.YtibmlgkakeakcaaDoor
