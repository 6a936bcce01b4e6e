/- What a sector says of a slot; slots written. -/
import Derived.Test.YtcgjejpekefjdaaDoorMasterP
import Derived.Test.YtcgjejpekefjdaaDoorDiskC
set_option linter.unusedSimpArgs false
set_option linter.unusedVariables false
namespace Go.Proofs.YtcgjejpekefjdaaDoor
open Go.RowKit Go.Proofs.YtcgjejpekefjdaaDoor.Crc
open Go.Proofs.YtcgjejpekefjdaaDoor.Dsk
/-- What a sector says of a slot. -/
def ParS (l : List UInt8) (ep : Nat) (fs : List Nat) : Prop :=
  (ep = 0 ∧ fs = [] ∧ ¬ (openS l).2.2.2 = 0) ∨ (openS l = (ep, 3, bodyU fs, 0) ∧ ep ≤ 1000000000 ∧ fs.length ≤ 20 ∧ ∀ f ∈ fs, f < 18446744073709551616)
theorem ParS.lens {l : List UInt8} {ep : Nat} {fs : List Nat} (h : ParS l ep fs) : ep ≤ 1000000000 ∧ fs.length ≤ 20 := by
  rcases h with ⟨rfl, rfl, _⟩ | ⟨_, h1, h2, _⟩
  · exact ⟨by omega, by simp⟩
  · exact ⟨h1, h2⟩
theorem parse_calls (A : Option Addr) (n c : Nat) (l : List UInt8) (w : World) (hh : HalfIs w) (hn : n = l.length) (hb : Bytes w A l) (hc : n ≤ c) (hm : c ≤ 9223372036854775807) (ep : Nat) (fs : List Nat) (h : ParS l ep fs) :
    Calls Tryd.prog 37 #[.slice A n c] w fun e w' => ∃ A' c', e = .returned (.agg #[.int .i64 (ep : Int), .slice A' fs.length c']) ∧ Hid ((A' = none → c' = 0) ∧ U64o w' A' fs ∧ (∀ ad, A' = some ad → w.heap.size ≤ ad.block) ∧ Below w.heap.size w w') := by
  rcases h with ⟨rfl, rfl, h⟩ | ⟨h, h1, h2, h3⟩
  · exact (parse_no A n c l w hh hn hb hc hm h).mono fun _ _ ⟨e, hb⟩ => ⟨none, 0, e, fun _ => rfl, U64o.nil _, (fun ad h => by cases h), hb⟩
  · exact (parse_yes A n c l w hh hn hb hc hm ep fs h h1 h2 h3).mono fun _ _ ⟨A', c', e, g1, g2, g3, g4⟩ => ⟨A', c', e, g1, g2, g3, g4⟩
set_option maxHeartbeats 400000 in
theorem Size_calls {w : World} {base a m : Nat} {wv : Value} {d : DiskM} (h : DiskAt w base a m wv d) : Calls Tryd.prog 35 #[.pointer (some ⟨a, 0, none⟩)] w fun e w' => e = .returned (.int .i64 d.size) ∧ w = w' := by
  have H := Lib.hid (made_calls h)
  have c0 := h.c0
  clear h
  go_enter Tryd.func35, Tryd.ntmps35
  go_wp2_with (go_at_call 44; refine H.out.mono ?_; rintro e w' ⟨rfl, rfl⟩)
  go_ret
  exact ⟨rfl, rfl⟩
theorem MsAt.put0 {w w' : World} {r : Nat} {p : Option Addr} {x : MasM} (h : MsAt w r p x) (hk : Kept (fun _ => False) w w') (ep : Nat) (fs : List Nat) (A : Option Addr) (c : Nat) (hA : A = none → c = 0) (hU : U64o w' A fs) (hr : ∀ ad, A = some ad → w.heap.size ≤ ad.block) (h1 : ep ≤ 1000000000) (h2 : fs.length ≤ 20) :
    MsAt ((w'.setCell ⟨r, 2, none⟩ (.int .i64 (ep : Int))).setCell ⟨r, 3, none⟩ (.slice A fs.length c)) r p { x with e0 := ep, f0 := fs } := by
  have hlt := h.lt
  obtain ⟨A0, c0, A1, c1, g1, g2, g3, g4, g5, g6⟩ := (h.kept hk (fun x => x) (fun _ _ _ _ x => x))
  have hs : Kept (· = r) w' ((w'.setCell ⟨r, 2, none⟩ (.int .i64 (ep : Int))).setCell ⟨r, 3, none⟩ (.slice A fs.length c)) := (Kept.set1 w' r 2 _).trans (Kept.set1 _ r 3 _)
  have hg1 : w'.heap[r]? = some (.cells #[.pointer p, .int .i64 (x.pos : Int), .int .i64 (x.e0 : Int), .slice A0 x.f0.length c0, .int .i64 (x.e1 : Int), .slice A1 x.f1.length c1] 37 (0, 0)) := g1
  refine ⟨A, c, A1, c1, ?_, hU.kept hs (fun ad hA' e => by have := hr ad hA'; have e' : ad.block = r := e; omega), g3.kept hs (fun ad hA' e => ?_), hA, g5, ⟨g6.pos, h1, g6.e1, h2, g6.f1⟩⟩
  · show ((w'.setCell ⟨r, 2, none⟩ (.int .i64 (ep : Int))).setCell ⟨r, 3, none⟩ (.slice A fs.length c)).heap[r]? = _
    simp [World.setCell, Array.getElem?_modify, hg1]
  · obtain ⟨cs, fz, hx⟩ := g3.2 ad hA'
    rw [show ad.block = r from e, hg1] at hx
    cases hx
theorem MsAt.put1 {w w' : World} {r : Nat} {p : Option Addr} {x : MasM} (h : MsAt w r p x) (hk : Kept (fun _ => False) w w') (ep : Nat) (fs : List Nat) (A : Option Addr) (c : Nat) (hA : A = none → c = 0) (hU : U64o w' A fs) (hr : ∀ ad, A = some ad → w.heap.size ≤ ad.block) (h1 : ep ≤ 1000000000) (h2 : fs.length ≤ 20) :
    MsAt ((w'.setCell ⟨r, 4, none⟩ (.int .i64 (ep : Int))).setCell ⟨r, 5, none⟩ (.slice A fs.length c)) r p { x with e1 := ep, f1 := fs } := by
  have hlt := h.lt
  obtain ⟨A0, c0, A1, c1, g1, g2, g3, g4, g5, g6⟩ := (h.kept hk (fun x => x) (fun _ _ _ _ x => x))
  have hs : Kept (· = r) w' ((w'.setCell ⟨r, 4, none⟩ (.int .i64 (ep : Int))).setCell ⟨r, 5, none⟩ (.slice A fs.length c)) := (Kept.set1 w' r 4 _).trans (Kept.set1 _ r 5 _)
  have hg1 : w'.heap[r]? = some (.cells #[.pointer p, .int .i64 (x.pos : Int), .int .i64 (x.e0 : Int), .slice A0 x.f0.length c0, .int .i64 (x.e1 : Int), .slice A1 x.f1.length c1] 37 (0, 0)) := g1
  refine ⟨A0, c0, A, c, ?_, g2.kept hs (fun ad hA' e => ?_), hU.kept hs (fun ad hA' e => by have := hr ad hA'; have e' : ad.block = r := e; omega), g4, hA, ⟨g6.pos, g6.e0, h1, g6.f0, h2⟩⟩
  · show ((w'.setCell ⟨r, 4, none⟩ (.int .i64 (ep : Int))).setCell ⟨r, 5, none⟩ (.slice A fs.length c)).heap[r]? = _
    simp [World.setCell, Array.getElem?_modify, hg1]
  · obtain ⟨cs, fz, hx⟩ := g2.2 ad hA'
    rw [show ad.block = r from e, hg1] at hx
    cases hx
end Go.Proofs.YtcgjejpekefjdaaDoor
