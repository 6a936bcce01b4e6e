/- Pages, plain: what is sealed is opened; bursts. -/
import Derived.Test.YtibhoekbjgoanaaDoorPageV
import Derived.Test.YtibhoekbjgoanaaDoorStampL
import Derived.Test.YtibhoekbjgoanaaDoorCrcB
set_option linter.unusedSimpArgs false
set_option linter.unusedVariables false
namespace Go.Proofs.YtibhoekbjgoanaaDoor
open Go.RowKit Go.Proofs.YtibhoekbjgoanaaDoor.Crc
theorem PgL.num {l : List UInt8} {no : Nat} {k : UInt8} {cs : List (List UInt8)} (h : PgL l no k cs) (hno : no ≤ 2147483647) : numP l = no := by
  obtain ⟨hf, t, ht, rfl⟩ := h
  unfold numP bodyB headPg
  rw [List.append_assoc, List.append_assoc, List.take_left' (fixB_length _ _), fixB_natB]
  omega
theorem pgl_seal (no : Nat) (k : UInt8) (cs : List (List UInt8)) (hf : fitC cs) : PgL (sealB (bodyB no k cs)) no k cs := ⟨hf, le4 (crc (bodyB no k cs)), le4_length _, rfl⟩
theorem seal_page (no : Nat) (k : UInt8) (cs : List (List UInt8)) (hf : fitC cs) (hno : no ≤ 2147483647) (hk : k ≠ 0) : sealP (pageB no k cs) = (sealB (bodyB no k cs), 0) := by
  have h := pgl_page no k cs hf
  unfold sealP; rw [if_pos (h.sound hno hk), h.take]
theorem open_seal (no : Nat) (k : UInt8) (cs : List (List UInt8)) (hf : fitC cs) (hno : no ≤ 2147483647) (hk : k ≠ 0) (n : Int) : openP (sealB (bodyB no k cs)) n = if (no : Int) = n then (pageB no k cs, 0) else ([], 23) := by
  have h := pgl_seal no k cs hf
  unfold openP
  rw [if_neg (by rw [h.len]; simp), openB_seal, if_neg (by simp), if_neg (by rw [h.sound hno hk]; simp), h.num hno]
  by_cases hn : (no : Int) = n
  · rw [if_neg (by simpa using hn), if_pos hn, h.own]
  · rw [if_pos hn, if_neg hn]
/-- What is told of a burst in a sealed page. -/
theorem burst_page (cs : List (List UInt8)) (hf : fitC cs) (bits : BitVec 32) (k j : Nat) (hj : j ≤ 32) :
    (turned bits k 2048 j = false → openP (bst bits k 2048 j (sealB (bodyB 9 3 cs))) 9 = (pageB 9 3 cs, 0)) ∧ (turned bits k 2048 j = true → openP (bst bits k 2048 j (sealB (bodyB 9 3 cs))) 9 = ([], 20)) := by
  have hs : (sealB (bodyB 9 3 cs)).length = 256 := by rw [sealB_length, bodyB_length _ _ _ hf]
  have ho := burst_open (bodyB 9 3 cs) bits k j hj
  rw [hs, show 8 * 256 = 2048 from rfl] at ho
  constructor
  · intro ht
    rw [bst_still _ _ _ _ _ ht, open_seal 9 3 cs hf (by decide) (by decide)]
    rfl
  · intro ht
    unfold openP
    rw [if_neg (by rw [bst_length, hs]; simp), ho, ht]
    rfl
end Go.Proofs.YtibhoekbjgoanaaDoor
