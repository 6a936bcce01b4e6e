/- Pages: the walks of page.setWord, New. -/
import Derived.Test.YtibhoekbjgoanaaDoorPageL
set_option linter.unusedSimpArgs false
set_option linter.unusedVariables false
namespace Go.Proofs.YtibhoekbjgoanaaDoor
open Go.RowKit Go.Proofs.YtibhoekbjgoanaaDoor.Crc
/-- A number of two bytes set. -/
def setW (l : List UInt8) (i n : Nat) : List UInt8 := (l.set i (UInt8.ofNat (n / 256))).set (i + 1) (UInt8.ofNat n)
set_option maxHeartbeats 400000 in
theorem setWord_calls (g : Nat) (l : List UInt8) (i n : Nat) (w : World) (hb : BlkB w g 5 l) (hl : l.length = 256) (hi : i + 1 < 256) (hn : n < 65536) :
    Calls Tryd.prog 55 #[.slice (some ⟨g, 0, none⟩) 256 256, .int .i64 (i : Int), .int .i64 (n : Int)] w fun e w' => e = .returned (.tuple #[]) ∧ BlkB w' g 5 (setW l i n) ∧ Kept (· = g) w w' := by
  have e1 : IntKind.i64.wrap ((i : Int) + 1) = (i : Int) + 1 := IntWalk.i64_in _ (by omega)
  have e2 : 0 ≤ (i : Int) + 1 := by omega
  have e3 : ((i : Int) + 1).toNat = i + 1 := by omega
  have e4 : (i : Int) + 1 < 256 := by omega
  have e5 : (i : Int) < 256 := by omega
  have e6 : IntKind.u8.wrap ((n : Int) / 256) = ((UInt8.ofNat (n / 256)).toNat : Int) := by
    simp only [IntKind.wrap, IntKind.bits, IntKind.signed]; simp
  have e7 : IntKind.u8.wrap (n : Int) = ((UInt8.ofNat n).toNat : Int) := by
    simp only [IntKind.wrap, IntKind.bits, IntKind.signed]; simp
  have HA := Lib.hid (((hb.set i (UInt8.ofNat (n / 256))).set (i + 1) (UInt8.ofNat n)))
  have HK : Hid (Kept (· = g) w ((w.setCell ⟨g, i, none⟩ (.int .u8 ((UInt8.ofNat (n / 256)).toNat : Int))).setCell ⟨g, i + 1, none⟩ (.int .u8 ((UInt8.ofNat n).toNat : Int)))) := (Kept.set1 w g i _).trans (Kept.set1 _ g (i + 1) _)
  obtain ⟨x1, x2⟩ := hb.cell i (by omega)
  obtain ⟨x3, x4⟩ := (hb.set i (UInt8.ofNat (n / 256))).cell (i + 1) (by rw [List.length_set]; omega)
  generalize hA : (UInt8.ofNat (n / 256)).toNat = a at *
  generalize hB : (UInt8.ofNat n).toNat = b at *
  unfold setW
  clear hb hA hB
  go_enter Tryd.func55, Tryd.ntmps55
  go_wp2_with fail
  go_end0
  exact ⟨rfl, HA.out, HK.out⟩
def newB (no : Nat) (k : UInt8) : List UInt8 := fixB no 4 ++ k :: List.replicate 251 0
theorem splice_new (no : Nat) (k : UInt8) : (splice zsec 0 ((fixB no 4).take 256)).set 4 k = newB no k := by
  have h1 : (fixB no 4).length = 4 := fixB_length no 4
  have h2 : (fixB no 4).take 256 = fixB no 4 := List.take_of_length_le (by omega)
  unfold splice newB
  rw [h2, h1]
  show ([] ++ (fixB no 4 ++ List.drop (0 + 4) zsec)).set 4 k = _
  rw [List.nil_append, List.set_append_right _ _ (by omega), h1]
  rfl
/-- What New tells. -/
def newP (no : Int) (k : UInt8) : List UInt8 × Int := if no < 0 ∨ 2147483647 < no ∨ k = 0 then ([], 2) else (newB no.toNat k, 0)
set_option maxRecDepth 100000 in
set_option maxHeartbeats 400000 in
theorem New_calls (no : Nat) (k : UInt8) (w : World) (h1 : no ≤ 2147483647) (h2 : ¬ k = 0) :
    Calls Tryd.prog 15 #[.int .i64 (no : Int), .int .u8 (k.toNat : Int)] w fun e w' => ∃ r, e = .returned (.tuple #[.slice (some ⟨r, 0, none⟩) 256 256, .int .i64 0]) ∧ w.heap.size ≤ r ∧ BlkB w' r 5 (newB no k) ∧ Below w.heap.size w w' := by
  have d1 : decide ((no : Int) < 0) = false := by simp
  have d2 : decide ((no : Int) > 2147483647) = false := by simp; omega
  have d3 : ((k.toNat : Int) == 0) = false := by
    rw [beq_eq_false_iff_ne]; intro h; exact h2 (UInt8.toNat_inj.1 (by simpa using h))
  have d4 : IntKind.u64.wrap (no : Int) = (no : Int) := by simp only [IntKind.wrap, IntKind.bits, IntKind.signed]; simp; omega
  obtain ⟨u1, u2⟩ := ltu8 k
  have HP := Lib.hid (fun w => PutFixed_calls no (by omega) 4 (by decide) w)
  rw [show ((4 : Nat) : Int) = 4 from rfl] at HP
  clear h1 h2
  go_enter Tryd.func15, Tryd.ntmps15
  go_wp2_with (with_reducible refine park_make ?_; intro q hq)
  refine hq.out ?_
  clear hq
  refine wpList_make256 rfl _ _ rfl rfl rfl ?_
  intro w1 hA1 hk1
  have HA1 := Lib.hid hA1
  have HK1 := Lib.hid hk1
  clear hA1 hk1
  obtain ⟨r, hr⟩ : ∃ r, w.heap.size = r := ⟨_, rfl⟩
  have HR := Lib.hid hr
  rw [hr] at HA1 ⊢
  clear hr
  go_wp2_with (go_at_call 38; refine (HP.out _).mono ?_; rintro e w2 ⟨Am, cm, rfl, hOm, hb2⟩; refine park ?_; intro q hq)
  have HA2 := Lib.hid (HA1.out.below hb2)
  have HB2 : Hid (Below w.heap.size w w2) := HK1.out.trans (hb2.mono HK1.out.size)
  have HM2 := Lib.hid hOm.bytes
  clear hOm hb2
  refine hq.out ?_
  clear hq
  go_wp2_with (with_reducible refine park_copy ?_; intro q hq)
  refine hq.out ?_
  clear hq
  refine wpList_copyB rfl _ _ rfl r 0 256 256 Am (fixB no 4).length cm rfl rfl _ zsec (fixB no 4) HA2.out rfl HM2.out (by rw [fixB_length]; decide) ?_
  intro w3 hA3 hk3
  have hl3 : (splice zsec 0 ((fixB no 4).take 256)).length = 256 := by unfold splice; simp [fixB_length, zsec_length]
  obtain ⟨x1, x2⟩ := hA3.cell 4 (by rw [hl3]; decide)
  have hA4 := hA3.set 4 k
  rw [splice_new] at hA4
  have HA4 := Lib.hid hA4
  have HK4 : Hid (Kept (· = r) w2 (w3.setCell ⟨r, 4, none⟩ (.int .u8 (k.toNat : Int)))) := hk3.trans (Kept.set1 w3 r 4 _)
  have hlt : (List.take 256 (fixB no 4)).length = 4 := by simp [fixB_length]
  rw [hlt]
  clear hA3 hk3 hA4 hl3 hlt
  go_wp2_with fail
  go_ret2
  exact ⟨r, rfl, Nat.le_of_eq HR.out, HA4.out, below_keep2 rfl HB2.out (by rw [HR.out]; exact HK4.out)⟩
end Go.Proofs.YtibhoekbjgoanaaDoor
