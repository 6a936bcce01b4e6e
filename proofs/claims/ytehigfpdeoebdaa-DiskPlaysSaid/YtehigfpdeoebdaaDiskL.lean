/- The disk: Lose. -/
import Derived.Test.YtehigfpdeoebdaaDiskX
set_option linter.unusedSimpArgs false
set_option linter.unusedVariables false
namespace Go.Proofs.Ytehigfpdeoebdaa.Dsk
open Go.RowKit
def Bools (w : World) (A : Option Addr) (K : List Bool) : Prop := ∀ k, (hk : k < K.length) → ∃ ad, A = some ad ∧ w.cell? (ad.add k) = some (.bool K[k])
theorem Bools.below {w w' : World} {A : Option Addr} {K : List Bool} (h : Bools w A K) (hb : Below w.heap.size w w') : Bools w' A K := by
  intro k hk
  obtain ⟨ad, hA, hc⟩ := h k hk
  exact ⟨ad, hA, hb.cell (World.block_lt_of_cell? w _ hc) ▸ hc⟩
/-- What a sector holds behind the loss, of one write that waited. -/
def loseS (K : List Bool) (torn at_ : Int) (n k : Nat) (e s : List UInt8) : List UInt8 :=
  if (0 ≤ torn ∧ torn < n) ∧ (k : Int) = torn then e.take at_.toNat ++ s.drop at_.toNat
  else if K.getD k false then e else s
def loseF (K : List Bool) (torn at_ : Int) (n : Nat) : Nat → List (Int × List UInt8) → (Int → List UInt8) → (Int → List UInt8)
  | _, [], f => f
  | k, e :: r, f => loseF K torn at_ n (k + 1) r (upd f e.1 (loseS K torn at_ n k e.2 (f e.1)))
theorem loseF_snoc (K : List Bool) (torn at_ : Int) (n : Nat) (e : Int × List UInt8) : ∀ (l : List (Int × List UInt8)) (k : Nat) (f : Int → List UInt8),
    loseF K torn at_ n k (l ++ [e]) f = upd (loseF K torn at_ n k l f) e.1 (loseS K torn at_ n (k + l.length) e.2 (loseF K torn at_ n k l f e.1))
  | [], k, f => rfl
  | x :: l, k, f => by
    rw [List.cons_append, loseF, loseF_snoc K torn at_ n e l, loseF, List.length_cons, show k + 1 + l.length = k + (l.length + 1) by omega]
def DiskM.lose (d : DiskM) (K : List Bool) (torn at_ : Int) : DiskM := { newD d.size with held := loseF K torn at_ d.wait.length 0 d.wait d.held, bud := d.bud }
theorem secV_inj {l m : List UInt8} (h : secV l = secV m) : l = m := by
  unfold secV at h
  injection h with h
  have h := congrArg Array.toList h
  have h : cells8 l = cells8 m := h
  unfold cells8 at h
  refine (List.map_inj_right ?_).1 h
  intro a b hab
  injection hab with _ hab
  exact UInt8.toNat_inj.1 (by omega)
theorem MAt.congr {w : World} {m n : Nat} {D : DataW Value} {f g : Int → List UInt8} (h : MAt w m n D f) (e : ∀ i : Int, -9223372036854775808 ≤ i → i ≤ 9223372036854775807 → f i = g i) : MAt w m n D g :=
  ⟨h.1, fun i h0 h1 => by rw [← e i h0 h1]; exact h.2 i h0 h1⟩
/-- What has been taken over of a map, as far as the loop has come. -/
def part_ (f : Int → List UInt8) (left : Lit → Bool) : Int → List UInt8 := fun i => if left (.int .i64 i) then zsec else f i
theorem part_step (f : Int → List UInt8) (left : Lit → Bool) (x : Int) : upd (part_ f left) x (f x) = part_ f (fun z => left z && !z.sameKey (.int .i64 x)) := by
  funext i
  unfold upd part_
  by_cases h : i = x
  · subst h; simp [Lit.sameKey]
  · have : (Lit.int .i64 i).sameKey (.int .i64 x) = false := Maps.sameKey_ne (by intro c; cases c; exact h rfl)
    simp [h, this]
section
variable {P : Program} {ops : Array Oper} {Q : Exit → Act → World → Prop} {md : Region.Mode} {a : Act} {w : World} {K : Act → World → Prop} {o : Oper} {S : World → Prop}
theorem wpAnyH_takeTo {i : Nat} {oi : Oper} {v : Value} {fuel : Nat} {listed : Array Bool} (dst : Option Tmp) (hi : ops[i]? = some oi) (hd : oi.dst = dst)
    (hs : Region.noSelect ops = true) (hf : Region.free md ops listed i = true) (hr : (Region.ready md ops listed).contains i = true)
    (hQ : ∀ c a w, Q (.panic c) (a.put dst v) w → Q (.panic c) a w) (hy : YieldsIf P ops S oi v a) (hS : S w)
    (h : wpAnyH P md ops Q S fuel (listed.setIfInBounds i true) (a.put dst v) w) : wpAnyH P md ops Q S (fuel + 1) listed a w := by
  subst hd
  exact wpAnyH_take hi hs hf hr hQ hy hS h
theorem yieldsIf_load {v : Value} (hw : Region.wanted o (yielded ops a.tmps) = true) (t : TypeId) (x : Operand) (ho : o.op = .load t x) (p v' : Value) (hx : a.eval x = p) (hS : ∀ w, S w → (Instr.loadAt t p).run P w = .ok v w) : YieldsIf P ops S o v a :=
  .inl ⟨hw, fun w h => by
    unfold execOp
    simp only [ho, hx, hS w h, Sem.run_bind, Result.andThen_ok, Sem.run_pure]⟩
theorem yieldsIf_lookup {v : Value} (hw : Region.wanted o (yielded ops a.tmps) = true) (t : TypeId) (x y : Operand) (ho : o.op = .lookup t x y false) (p q v' : Value) (hx : a.eval x = p) (hy : a.eval y = q) (hS : ∀ w, S w → (Instr.lookup t p q false).run P w = .ok v w) : YieldsIf P ops S o v a :=
  .inl ⟨hw, fun w h => by
    unfold execOp
    simp only [ho, hx, hy, hS w h, Sem.run_bind, Result.andThen_ok, Sem.run_pure]⟩
theorem yieldsIf_slice {v : Value} (hw : Region.wanted o (yielded ops a.tmps) = true) (t : TypeId) (x y : Operand) (ho : o.op = .slice t x none (some y) none) (p q : Value) (hx : a.eval x = p) (hy : a.eval y = q) (hS : ∀ w, S w → (Instr.sliceAt t p none (some q) none).run P w = .ok v w) : YieldsIf P ops S o v a :=
  .inl ⟨hw, fun w h => by
    unfold execOp
    simp only [ho, hx, hy, Option.map_none, Option.map_some, hS w h, Sem.run_bind, Result.andThen_ok, Sem.run_pure]⟩
theorem wpAnyH_one {i : Nat} {fuel : Nat} {listed : Array Bool} (hr : Region.ready md ops listed = [i]) (ho : ops[i]? = some o)
    (h : ∀ K' : Act → World → Prop, (∀ a w, S w → wpAnyH P md ops Q S fuel (listed.setIfInBounds i true) a w → K' a w) → if Region.wanted o (yielded ops a.tmps) = true then Oper.wp P o a w K' Q else K' (a.put o.dst undef) w) : wpAnyH P md ops Q S (fuel + 1) listed a w :=
  wpAnyH_all hr (by simp) (by
    intro j hj
    simp only [List.mem_singleton] at hj
    subst hj
    exact wpOp_step ho (fun K' hK => h K' (fun a w hS hW => hK a w ⟨hS, hW⟩)))
end
theorem load60 {w : World} {a k : Nat} {v : Value} (h : w.cell? ⟨a, k, none⟩ = some v) : (Instr.loadAt 50 (.pointer (some ⟨a, k, none⟩))).run Try.prog w = .ok v w := by go_simp
theorem load3 {w : World} {a k : Nat} {v : Value} (h : w.cell? ⟨a, k, none⟩ = some v) : (Instr.loadAt 3 (.pointer (some ⟨a, k, none⟩))).run Try.prog w = .ok v w := by go_simp
theorem slice69h (w : World) (r o : Nat) (h : Int) (h0 : 0 ≤ h) (h1 : h ≤ 256) : (Instr.sliceAt 64 (.pointer (some ⟨r, o, none⟩)) none (some (.int .i64 h)) none).run Try.prog w = .ok (.slice (some ⟨r, o, none⟩) h.toNat 256) w := by
  have hu : Try.prog.underlying 64 = some (.array (Try.prog.arrayLen 64) (Try.prog.elem 64)) := by kernel_rfl
  have hl : Try.prog.arrayLen 64 = 256 := by kernel_rfl
  have he : Try.prog.elem 64 = 5 := by kernel_rfl
  rw [run_sliceAt_array_h w 64 _ hu .i64 h h0 (by rw [hl]; exact h1), hl, he, Try.sizeOf5 w]
  simp [slicedAt, Addr.add_mid]
theorem Kept.thenBelow {S : Nat → Prop} {B : Nat} {a b c : World} (h : Kept S a b) (k : Below B b c) (hB : a.heap.size ≤ B) : Kept S a c :=
  ⟨k.os.trans h.os, k.tape.trans h.tape, k.output.trans h.output, Nat.le_trans h.size k.size, fun i hi hs => (k.block i (by omega)).trans (h.block i hi hs)⟩
theorem Kept.of_belowB {B : Nat} {a b : World} (k : Below B a b) : Kept (fun i => B ≤ i) a b :=
  ⟨k.os, k.tape, k.output, k.size, fun i hi hs => k.block i (by omega)⟩
theorem splice0 (t s0 : List UInt8) (h : t.length ≤ s0.length) : splice (cells8 s0) 0 (cells8 t) = cells8 (t ++ s0.drop t.length) := by
  unfold splice
  rw [cells8_length, List.take_zero, List.nil_append, Nat.zero_add, cells8_drop, cells8_append]
theorem step_alloc69 {a : Act} {w : World} {K : Act → World → Prop} {Q : Exit → Act → World → Prop} {o : Oper} {E : Prop} {b : Bool} (dst : Option Tmp) (hb : b = true) (hd : o.dst = dst) (ho : o.op = .alloc 64)
    (hK : K (a.put dst (.pointer (some ⟨w.heap.size, 0, none⟩))) (w.alloc (.cells (cells8 zsec).toArray 64))) : if b = true then o.wp Try.prog a w K Q else E := by
  refine step_run dst hb hd _ _ ?_ hK
  unfold execOp
  simp only [ho, Instr.alloc, Sem.run_bind, zero69, Result.andThen_ok, newVar, newRow, run_newObj_alloc, Sem.run_pure]
  rfl
theorem step_store69 {a : Act} {w : World} {K : Act → World → Prop} {Q : Exit → Act → World → Prop} {o : Oper} {E : Prop} {b : Bool} (hb : b = true) (hd : o.dst = none) (x y : Operand) (ho : o.op = .store 64 x y) (r : Nat) (hx : a.eval x = .pointer (some ⟨r, 0, none⟩)) (l old : List UInt8) (hy : a.eval y = secV l)
    (hl : l.length = 256) (hl' : old.length = 256) (hbk : w.heap[r]? = some (.cells (cells8 old).toArray 64 (0, 0)))
    (hK : ∀ w', Hid (w'.heap[r]? = some (.cells (cells8 l).toArray 64 (0, 0))) → Kept (· = r) w w' → K a w') : if b = true then o.wp Try.prog a w K Q else E := by
  have hr := run_storeVar_row (P := Try.prog) w r 64 64 (cells8 old).toArray (cells8 l).toArray hbk (by simpa [cells8_length, hl] using size69) (by simp [cells8_length, hl, hl']) (all_oneCell_toArray (cells8_one l))
  refine step_store hb hd 64 x y ho _ (secV l) (w.setRow r (cells8 l).toArray) hx hy ?_ (hK _ (setRow_heap w r _ _ 64 (0, 0) hbk) (Kept.setRow w _))
  simp only [Instr.storeAt, Instr.sureAddr, Sem.run_bind, Sem.run_pure, Result.andThen_ok]
  exact hr
theorem DiskAt.fresh {w w' : World} {f a m n : Nat} {d d' : DiskM} {D : DataW Value} {S : Nat → Prop} (h : DiskAt w f a m (.slice none 0 0) d) (hM : MAt w' m n D d'.held) (hk : Kept S w w') (hs : ¬ S a) (hn : n + d'.wait.length ≤ d'.bud)
    (h1 : d'.size = d.size) (h2 : d'.wait = []) (h3 : d'.steps = d.steps) (h4 : d'.cut = d.cut) (h5 : d'.left = d.left) (hok : d'.Ok) : DiskAt w' f a m (.slice none 0 0) d' :=
  ⟨by rw [hk.block a (Array.getElem?_eq_some_iff.1 h.blk).1 hs, h.blk, h1, h3, h4, h5], ⟨n, D, hM, hn⟩, by rw [h2]; exact ⟨rfl, .inl ⟨rfl, rfl⟩⟩, h.lo, hok⟩
set_option maxRecDepth 100000 in
set_option maxHeartbeats 2000000 in
theorem Lose_calls {w : World} {base a m : Nat} {wv : Value} {d : DiskM} (h : DiskAt w base a m wv d) (A : Option Addr) (c : Nat) (K : List Bool) (torn at_ : Int) (hK : Bools w A K) (hKl : K.length ≤ 9223372036854775807)
    (ht : 0 ≤ torn ∧ torn < d.wait.length → 0 ≤ at_ ∧ at_ ≤ 256) (ht2 : -9223372036854775808 ≤ torn ∧ torn ≤ 9223372036854775807) (ha2 : -9223372036854775808 ≤ at_ ∧ at_ ≤ 9223372036854775807) :
    Calls Try.prog 14 #[.pointer (some ⟨a, 0, none⟩), .agg #[.slice A K.length c, .int .i64 torn, .int .i64 at_]] w (RetD w (d.lose K torn at_) (.slice none 0 0)) := by
  have H := Lib.hid h
  have HK := Lib.hid hK
  have hwl : d.wait.length ≤ 1000 := by obtain ⟨n, D, _, hn⟩ := h.map; have := h.ok.bud; omega
  obtain ⟨W, cw, rfl, hf0⟩ := h.form2
  have HF := Lib.hid hf0
  have hsz := h.ok.size
  obtain ⟨w1, hw1⟩ : ∃ w1, w.alloc (.cells #[.slice A K.length c, .int .i64 torn, .int .i64 at_] 33) = w1 := ⟨_, rfl⟩
  have HW1 := Lib.hid hw1
  have HB1 : Hid (Below w.heap.size w w1) := by rw [← hw1]; exact (Below.refl _ _).alloc (Nat.le_refl _) _
  have HA : Hid (DiskAt w1 base a m (.slice W d.wait.length cw) d) := h.below HB1.out
  have HM := Lib.hid (made_calls HA.out)
  obtain ⟨q, hq⟩ : ∃ q, w.heap.size = q := ⟨_, rfl⟩
  have HQ := Lib.hid hq
  have hlb : w1.heap[q]? = some (.cells #[.slice A K.length c, .int .i64 torn, .int .i64 at_] 33 (0, 0)) := by rw [← hw1, ← hq]; exact heap_alloc_new w _
  have HLb := Lib.hid hlb
  have l0 : w1.cell? ⟨q, 0, none⟩ = some (.slice A K.length c) := by rw [cell_of_row _ _ _ _ _ _ hlb]; rfl
  have l1 : w1.cell? ⟨q, 1, none⟩ = some (.int .i64 torn) := by rw [cell_of_row _ _ _ _ _ _ hlb]; rfl
  have l2 : w1.cell? ⟨q, 2, none⟩ = some (.int .i64 at_) := by rw [cell_of_row _ _ _ _ _ _ hlb]; rfl
  have c0 := HA.out.c0
  have c1 := HA.out.c1
  have c2 := HA.out.c2
  clear h hK hf0 hlb hq
  rw [HQ.out] at HB1
  go_enter Try.func14, Try.ntmps14
  clear hw1
  go_wp2_with (with_reducible refine park_at (.box 33 _) ?_; intro pq hq)
  refine hq.out ?_
  clear hq
  refine Great.wpList_boxTo rfl 33 _ rfl _ rfl q HQ.out #[.slice A K.length c, .int .i64 torn, .int .i64 at_] rfl ?_
  rw [HW1.out]
  go_wp2_with (first | (go_at_call 22; refine HM.out.mono ?_; rintro e w' ⟨rfl, rfl⟩))
  have k1 : ∀ w', Hid (Below w1.heap.size w1 w') → w'.cell? ⟨q, 1, none⟩ = some (.int .i64 torn) := fun w' h => (h.out.cell (World.block_lt_of_cell? w1 _ l1)).trans l1
  have k2 : ∀ w', Hid (Below w1.heap.size w1 w') → w'.cell? ⟨a, 2, none⟩ = some (.slice W d.wait.length cw) := fun w' h => (HA.out.below h.out).c2
  have hd1 : Hid (Below w1.heap.size w1 w1.drew) := (Below.refl _ _).drew
  go_cut [6] (fun s wc => s = .bool (decide (0 ≤ torn ∧ torn < (d.wait.length : Int))) ∧ Hid (Below w1.heap.size w1 wc))
  case first =>
    by_cases h0 : 0 ≤ torn
    · have e0 : decide (torn ≥ (0 : Int)) = true := by simp; omega
      have e1 : decide (0 ≤ torn ∧ torn < (d.wait.length : Int)) = decide (torn < (d.wait.length : Int)) := by simp [h0]
      go_region_held (fun w' => Hid (Below w1.heap.size w1 w')) (first | exact hd1 | assumption) (fail)
      all_goals
        go_wp2
        go_meet
        case rel => exact ⟨by rw [e1], by assumption⟩
    · have e0 : decide (torn ≥ (0 : Int)) = false := by simp; omega
      have e1 : decide (0 ≤ torn ∧ torn < (d.wait.length : Int)) = false := by simp; omega
      go_region
      all_goals
        go_wp2
        go_meet
        case rel => exact ⟨by rw [e1], by assumption⟩
  case rest =>
    obtain ⟨rfl, HC⟩ := hcut
    clear k1 k2 hd1
    have j0 : wc.cell? ⟨q, 0, none⟩ = some (.slice A K.length c) := (HC.out.cell (World.block_lt_of_cell? w1 _ l0)).trans l0
    have j1 : wc.cell? ⟨q, 1, none⟩ = some (.int .i64 torn) := (HC.out.cell (World.block_lt_of_cell? w1 _ l1)).trans l1
    have j2 : wc.cell? ⟨q, 2, none⟩ = some (.int .i64 at_) := (HC.out.cell (World.block_lt_of_cell? w1 _ l2)).trans l2
    have HB2 : Hid (Below q w wc) := HB1.out.trans (HC.out.mono (by rw [← HQ.out]; exact HB1.out.size))
    have HAc : Hid (DiskAt wc base a m (.slice W d.wait.length cw) d) := HA.out.below HC.out
    have HJb : Hid (wc.heap[q]? = some (.cells #[.slice A K.length c, .int .i64 torn, .int .i64 at_] 33 (0, 0))) := (HC.out.block q (Array.getElem?_eq_some_iff.1 HLb.out).1).trans HLb.out
    clear l0 l1 l2 c0 c1 c2 HC HM HB1 HA HLb HW1
    have d0 := HAc.out.c0
    have d1 := HAc.out.c1
    have d2 := HAc.out.c2
    have HNw := Lib.hid (New_calls d.size hsz wc)
    have hta : decide (0 ≤ torn ∧ torn < (d.wait.length : Int)) = true → decide (at_ < (0 : Int)) = false ∧ decide (at_ > (256 : Int)) = false := fun h => by
      have := ht (by simpa using h); simp; omega
    go_wp2_with (first | (go_at_call 4; refine HNw.out.mono ?_; rintro e w2 ⟨a2, m2, rfl, hD2, hb2⟩; refine park ?_; intro pq2 hq2))
    -- WAYS
    -- WAY1
    · skip
      have HB3 : Hid (Below q w w2) := HB2.out.trans (hb2.mono (by rw [← HQ.out]; exact HB2.out.size))
      have HA2 : Hid (DiskAt w2 base a m (.slice W d.wait.length cw) d) := HAc.out.below hb2
      have HO2 := Lib.hid hD2
      have HJ2 : Hid (w2.heap[q]? = some (.cells #[.slice A K.length c, .int .i64 torn, .int .i64 at_] 33 (0, 0))) := (hb2.block q (Array.getElem?_eq_some_iff.1 HJb.out).1).trans HJb.out
      obtain ⟨f, hf⟩ : ∃ f, wc.heap.size = f := ⟨_, rfl⟩
      have hqf : q < f := by rw [← hf]; exact (Array.getElem?_eq_some_iff.1 HJb.out).1
      have haf : a < q := by have := (H.out.foot a (.inl rfl)).2; rw [HQ.out] at this; exact this
      have hmf : m < q := by have := (H.out.foot m (.inr (.inl rfl))).2; rw [HQ.out] at this; exact this
      have hf2 : f ≤ w2.heap.size := by rw [← hf]; exact hb2.size
      rw [hf] at HO2
      have ha2 : f ≤ a2 ∧ a2 < w2.heap.size := HO2.out.foot a2 (.inl rfl)
      have hm2 : f ≤ m2 ∧ m2 < w2.heap.size := HO2.out.foot m2 (.inr (.inl rfl))
      have ham2 : m2 ≠ a2 := HO2.out.am
      have HTa := Lib.hid hta
      have HSz := Lib.hid hsz
      clear hb2 hD2 HNw HAc HJb d0 d1 d2 j0 j1 j2 hf HB2 hta hsz
      refine hq2.out ?_
      clear hq2
      have d1 := HA2.out.c1
      obtain ⟨n, D, hM, hn⟩ := HA2.out.map
      have HM0 := Lib.hid hM
      have HN0 := Lib.hid hn
      clear hM hn
      go_wp2_with ((first | with_reducible refine park_at (.load 64 _) ?_ | with_reducible refine park_at (.load 66 _) ?_ | with_reducible refine park_at (.store 64 _ _) ?_ | with_reducible refine park_at (.store 66 _ _) ?_ | with_reducible refine park_at (.alloc 64) ?_ | with_reducible refine park_at (.alloc 66) ?_ | with_reducible refine park_at (.box 64 _) ?_ | with_reducible refine park_at (.build 64 _) ?_ | with_reducible refine park_at (.build 66 _) ?_ | with_reducible refine park_at (.binOp _ 64 _ _ _) ?_ | with_reducible refine park_at (.lookup _ _ _ _) ?_ | with_reducible refine park_at (.mapUpdate _ _ _ _) ?_ | with_reducible refine park_at (.makeMap _ _) ?_ | with_reducible refine park_at (.range _ _) ?_ | with_reducible refine park_at (.next _ _) ?_ | with_reducible refine park_append ?_ | with_reducible refine park_copy ?_ | with_reducible refine park_delete ?_); intro pq3 hq3)
      refine hq3.out ?_
      clear hq3
      refine wpList_range_own w2 rfl _ 50 rfl 3 64 K3 under60 RH m n D rfl HM0.out.1 ?_
      intro w3 hrg hgr hs3
      obtain ⟨it, hit⟩ : ∃ it, w2.heap.size = it := ⟨_, rfl⟩
      have HIt := Lib.hid hit
      have HRg := Lib.hid hrg
      have HG := Lib.hid (Kept.of_grown (S := fun _ => False) hgr (fun k hk => by cases hk))
      clear hrg hgr hs3 hit d1
      rw [HIt.out] at HRg ha2 hm2 hf2 ⊢
      have hstart : Hid (∃ (left : Lit → Bool) (cnt k : Nat) (Dout : DataW Value), w3.ranges Try.prog 3 RH m it n D left cnt ∧ MAt w3 m2 k Dout (part_ d.held left) ∧ k + cnt ≤ n ∧ Kept (fun b => b = m2 ∨ b = it) w3 w3) := by
        obtain ⟨k, Do, hMo, hko⟩ := HO2.out.map
        have hk0 : k = 0 := by simp only [newD, List.length_nil] at hko; omega
        subst hk0
        refine ⟨Maps.has D, Maps.size D, 0, Do, HRg.out, ?_, by have := HM0.out.1.size_le; omega, Kept.refl _ _⟩
        refine (hMo.kept HG.out (fun x => x)).congr (fun i h0 h1 => ?_)
        unfold part_
        cases hh : Maps.has D (.int .i64 i)
        · have h2 := HM0.out.2 i h0 h1
          rw [Maps.atKey_of_not_has hh] at h2
          have := secV_inj (held_inj h2)
          simpa [newD] using this
        · rfl
      go_wp2
      try simp only [Act.put, List.setIfInBounds_toArray, List.set_cons_zero, List.set_cons_succ]
      go_loopw [54] (fun s wr => Hid (∃ (left : Lit → Bool) (cnt k : Nat) (Dout : DataW Value), wr.ranges Try.prog 3 RH m it n D left cnt ∧ MAt wr m2 k Dout (part_ d.held left) ∧ k + cnt ≤ n ∧ Kept (fun b => b = m2 ∨ b = it) w3 wr)) (fun _ wr => wr.rangeLeft m it)
      case atStart => exact hstart
      case round =>
        have HR := hrel
        clear hrel
        obtain ⟨left, cnt, k, Dout, hr1, hr2, hr3, hr4⟩ := HR.out
        have hleft := Lib.hid hr1.left_eq
        have HR1 := Lib.hid hr1
        have HR2 := Lib.hid hr2
        have HR3 := Lib.hid hr3
        have HR4 := Lib.hid hr4
        clear HR hr1 hr2 hr3 hr4
        go_wp2_with ((first | with_reducible refine park_at (.load 64 _) ?_ | with_reducible refine park_at (.load 66 _) ?_ | with_reducible refine park_at (.store 64 _ _) ?_ | with_reducible refine park_at (.store 66 _ _) ?_ | with_reducible refine park_at (.alloc 64) ?_ | with_reducible refine park_at (.alloc 66) ?_ | with_reducible refine park_at (.box 64 _) ?_ | with_reducible refine park_at (.build 64 _) ?_ | with_reducible refine park_at (.build 66 _) ?_ | with_reducible refine park_at (.binOp _ 64 _ _ _) ?_ | with_reducible refine park_at (.lookup _ _ _ _) ?_ | with_reducible refine park_at (.mapUpdate _ _ _ _) ?_ | with_reducible refine park_at (.makeMap _ _) ?_ | with_reducible refine park_at (.range _ _) ?_ | with_reducible refine park_at (.next _ _) ?_ | with_reducible refine park_append ?_ | with_reducible refine park_copy ?_ | with_reducible refine park_delete ?_); intro pq4 hq4)
        refine hq4.out ?_
        clear hq4
        refine wpList_next_ranges wr rfl _ rfl 3 K3 RH (Value.int .i64) (fun v => v) (fun key kl hk => by obtain ⟨x, rfl, _⟩ := Maps.keyOf_int_inv Try.underlying3 hk; exact ⟨x, rfl⟩) (fun v y _ => ⟨v, rfl⟩) m it n D left cnt rfl HR1.out ?_ ?_
        · intro hc0 hall
          have hDr : DiskAt wr base a m (.slice W d.wait.length cw) d := (HA2.out.kept HG.out (fun _ _ x => x)).kept HR4.out (fun b hb e => by
            have := (H.out.foot b hb).2
            rw [HQ.out] at this
            have h1 := hm2.1
            omega)
          have HDr := Lib.hid hDr
          have c2 := hDr.c2
          have hOD : DiskAt wr f a2 m2 (.slice none 0 0) { newD d.size with held := d.held, bud := k } :=
            (HO2.out.kept HG.out (fun _ _ x => x)).fresh (HR2.out.congr (fun i _ _ => by unfold part_; rw [hall]; rfl)) HR4.out (by intro e; omega) (by simp [newD]) rfl rfl rfl rfl rfl
              ⟨H.out.ok.hlen, by simp [newD], HSz.out, by have := HR3.out; have := HN0.out; have := H.out.ok.bud; simp only []; omega, by simp [newD], by simp [newD]⟩
          have HOD := Lib.hid hOD
          have hkn : k + d.wait.length ≤ d.bud := by have := HR3.out; have := HN0.out; omega
          have HBr : Hid (Below q w wr) := (HB3.out.trans ((HG.out.below (B := q) (by have := HIt.out; omega) (fun b _ x => x)))).trans (HR4.out.below (by have := HG.out.size; have := HIt.out; omega) (fun b hb e => by omega))
          have HJo : Hid (wr.heap[q]? = some (.cells #[.slice A K.length c, .int .i64 torn, .int .i64 at_] 33 (0, 0))) := (HR4.out.block q (by have := HG.out.size; have := HIt.out; omega) (by show ¬ (q = m2 ∨ q = it); omega)).trans ((HG.out.block q (by have := HIt.out; omega) (fun x => x)).trans HJ2.out)
          clear hDr hOD HR1 HR2 HR3 HR4 hall hc0 hleft hstart
          go_wp2
          obtain ⟨wo, rfl⟩ : ∃ wo : World, wo = wr := ⟨_, rfl⟩
          go_loopw [70] (fun s wr => ∃ j : Nat, j ≤ d.wait.length ∧ s = .int .i64 j ∧ Hid (DiskAt wr f a2 m2 (.slice none 0 0) { newD d.size with held := loseF K torn at_ d.wait.length 0 (d.wait.take j) d.held, bud := k + j } ∧ Kept (fun b => b = m2) wo wr)) (fun s _ => d.wait.length - (intOf s).toNat)
          case atStart => exact ⟨0, Nat.zero_le _, rfl, HOD.out, Kept.refl _ _⟩
          case round =>
            obtain ⟨j, hj, rfl, HR⟩ := hrel
            by_cases hlt : j < d.wait.length
            · -- LOOP2
              have hDr : DiskAt wr base a m (.slice W d.wait.length cw) d := HDr.out.kept HR.out.2 (fun b hb e => by have := (H.out.foot b hb).2; rw [HQ.out] at this; have h1 := hm2.1; omega)
              obtain ⟨g, hg⟩ := HF.out j hlt
              subst hg
              have hra := Lib.hid (wait_at hDr j hlt)
              have hel := Lib.hid (hDr.ok.wlen _ (List.getElem_mem hlt)).1
              have HEr := Lib.hid (hDr.ok.wlen _ (List.getElem_mem hlt)).2
              obtain ⟨e, he⟩ : ∃ e, d.wait[j] = e := ⟨_, rfl⟩
              have HEe := Lib.hid he
              rw [he] at hra hel HEr
              clear he
              have HJr : Hid (wr.heap[q]? = some (.cells #[.slice A K.length c, .int .i64 torn, .int .i64 at_] 33 (0, 0))) := (HR.out.2.block q (Array.getElem?_eq_some_iff.1 HJo.out).1 (by show ¬ q = m2; omega)).trans HJo.out
              have HBw : Hid (Below q w wr) := HBr.out.trans (HR.out.2.below (by rw [← HQ.out]; exact HBr.out.size) (fun b hb e => by omega))
              clear hDr
              go_wp2_with ((first | with_reducible refine park_at (.load 64 _) ?_ | with_reducible refine park_at (.load 66 _) ?_ | with_reducible refine park_at (.store 64 _ _) ?_ | with_reducible refine park_at (.store 66 _ _) ?_ | with_reducible refine park_at (.alloc 64) ?_ | with_reducible refine park_at (.alloc 66) ?_ | with_reducible refine park_at (.box 64 _) ?_ | with_reducible refine park_at (.build 64 _) ?_ | with_reducible refine park_at (.build 66 _) ?_ | with_reducible refine park_at (.binOp _ 64 _ _ _) ?_ | with_reducible refine park_at (.lookup _ _ _ _) ?_ | with_reducible refine park_at (.mapUpdate _ _ _ _) ?_ | with_reducible refine park_at (.makeMap _ _) ?_ | with_reducible refine park_at (.range _ _) ?_ | with_reducible refine park_at (.next _ _) ?_ | with_reducible refine park_append ?_ | with_reducible refine park_copy ?_ | with_reducible refine park_delete ?_); intro pq6 hq6)
              refine hq6.out ?_
              clear hq6
              refine wpList_load71 rfl _ rfl g (j * 257) rfl e hel.out hra.out ?_
              obtain ⟨ev, hev⟩ : ∃ ev, entV e = ev := ⟨_, rfl⟩
              have HEv := Lib.hid hev
              rw [hev]
              clear hev
              go_wp2_with ((first | with_reducible refine park_at (.load 64 _) ?_ | with_reducible refine park_at (.load 66 _) ?_ | with_reducible refine park_at (.store 64 _ _) ?_ | with_reducible refine park_at (.store 66 _ _) ?_ | with_reducible refine park_at (.alloc 64) ?_ | with_reducible refine park_at (.alloc 66) ?_ | with_reducible refine park_at (.box 64 _) ?_ | with_reducible refine park_at (.build 64 _) ?_ | with_reducible refine park_at (.build 66 _) ?_ | with_reducible refine park_at (.binOp _ 64 _ _ _) ?_ | with_reducible refine park_at (.lookup _ _ _ _) ?_ | with_reducible refine park_at (.mapUpdate _ _ _ _) ?_ | with_reducible refine park_at (.makeMap _ _) ?_ | with_reducible refine park_at (.range _ _) ?_ | with_reducible refine park_at (.next _ _) ?_ | with_reducible refine park_append ?_ | with_reducible refine park_copy ?_ | with_reducible refine park_delete ?_); intro pq6 hq6)
              refine hq6.out ?_
              clear hq6
              refine wpList_alloc71 rfl rfl ?_
              have HR5 : Hid ((wr.alloc (.cells (entL (0, zsec)).toArray 66)).heap[wr.heap.size]? = some (.cells (entL (0, zsec)).toArray 66 (0, 0))) := heap_alloc_new wr _
              have HB5 : Hid (Below wr.heap.size wr (wr.alloc (.cells (entL (0, zsec)).toArray 66))) := (Below.refl _ _).alloc (Nat.le_refl _) _
              generalize (wr.alloc (.cells (entL (0, zsec)).toArray 66)) = w5 at HR5 HB5 ⊢
              obtain ⟨r1, hr1⟩ : ∃ r, wr.heap.size = r := ⟨_, rfl⟩
              have hr1 := Lib.hid hr1
              rw [hr1.out] at HR5 HB5 ⊢
              go_wp2_with ((first | with_reducible refine park_at (.load 64 _) ?_ | with_reducible refine park_at (.load 66 _) ?_ | with_reducible refine park_at (.store 64 _ _) ?_ | with_reducible refine park_at (.store 66 _ _) ?_ | with_reducible refine park_at (.alloc 64) ?_ | with_reducible refine park_at (.alloc 66) ?_ | with_reducible refine park_at (.box 64 _) ?_ | with_reducible refine park_at (.build 64 _) ?_ | with_reducible refine park_at (.build 66 _) ?_ | with_reducible refine park_at (.binOp _ 64 _ _ _) ?_ | with_reducible refine park_at (.lookup _ _ _ _) ?_ | with_reducible refine park_at (.mapUpdate _ _ _ _) ?_ | with_reducible refine park_at (.makeMap _ _) ?_ | with_reducible refine park_at (.range _ _) ?_ | with_reducible refine park_at (.next _ _) ?_ | with_reducible refine park_append ?_ | with_reducible refine park_copy ?_ | with_reducible refine park_delete ?_); intro pq6 hq6)
              refine hq6.out ?_
              clear hq6
              refine wpList_store71 rfl _ _ rfl r1 rfl e (0, zsec) HEv.out.symm hel.out zsec_length HR5.out ?_
              intro w6 hr6 hk6
              have HB6 : Hid (Below r1 wr w6) := HB5.out.trans (hk6.below (Nat.le_of_lt (Array.getElem?_eq_some_iff.1 HR5.out).1) (fun b hb e => by omega))
              clear hk6 HB5 HR5
              have HB6' : Hid (Below wr.heap.size wr w6) := by rw [hr1.out]; exact HB6.out
              have HD6 := Lib.hid (HR.out.1.below HB6'.out)
              have HJ6 : Hid (w6.heap[q]? = some (.cells #[.slice A K.length c, .int .i64 torn, .int .i64 at_] 33 (0, 0))) := (HB6'.out.block q (Array.getElem?_eq_some_iff.1 HJr.out).1).trans HJr.out
              obtain ⟨n6, D6, hM6, hn6⟩ := HD6.out.map
              have HM6 := Lib.hid hM6
              clear hM6
              obtain ⟨s0, hs0⟩ : ∃ s0, loseF K torn at_ d.wait.length 0 (d.wait.take j) d.held e.1 = s0 := ⟨_, rfl⟩
              have HS0 := Lib.hid hs0
              have hs0l : Hid (s0.length = 256) := by rw [← hs0]; exact HD6.out.ok.hlen e.1
              clear hs0
              have x1 : ∀ w', Hid (Below w6.heap.size w6 w') → (Instr.loadAt 50 (.pointer (some ⟨a2, 1, none⟩))).run Try.prog w' = .ok (.map (some m2)) w' := fun w' h => load60 (HD6.out.below h.out).c1
              have x2 : ∀ w', Hid (Below w6.heap.size w6 w') → (Instr.loadAt 3 (.pointer (some ⟨r1, 0, none⟩))).run Try.prog w' = .ok (.int .i64 e.1) w' := fun w' h => load3 (by
                have hb : w'.heap[r1]? = some (.cells (entL e).toArray 66 (0, 0)) := (h.out.block r1 (Array.getElem?_eq_some_iff.1 hr6.out).1).trans hr6.out
                rw [cell_of_row _ _ _ _ _ _ hb]; rfl)
              have x3 : ∀ w', Hid (Below w6.heap.size w6 w') → (Instr.lookup 50 (.map (some m2)) (.int .i64 e.1) false).run Try.prog w' = .ok (secV s0) w' := fun w' h => by
                rw [← HS0.out]
                exact (HM6.out.kept (S := fun _ => False) (Kept.of_below h.out) (fun x => x)).lookup e.1 (by have := HEr.out; omega) (by have := HEr.out; have := HSz.out; omega)
              have hS : Hid (Below w6.heap.size w6 w6.drew) := (Below.refl _ _).drew
              go_wp2_with fail
              refine wp_region_held (S := fun w' => Hid (Below w6.heap.size w6 w')) (by kernel_rfl) ?_
              change wpAnyH _ _ _ _ _ _ _ _ (World.drew _)
              refine wpAnyH_takeTo (i := 0) (v := .pointer (some ⟨a2, 0, none⟩)) (some 75) rfl rfl (by kernel_rfl) (by kernel_rfl) (by kernel_rfl) (fun _ _ _ h => h) (Or.inl ⟨by rfl, fun w _ => by go_simp⟩) (by assumption) ?_
              try simp only [Act.put, List.setIfInBounds_toArray, List.set_cons_zero, List.set_cons_succ]
              refine wpAnyH_takeTo (i := 1) (v := .pointer (some ⟨a2, 0, none⟩)) (some 76) rfl rfl (by kernel_rfl) (by kernel_rfl) (by kernel_rfl) (fun _ _ _ h => h) (Or.inl ⟨by rfl, fun w _ => by go_simp⟩) (by assumption) ?_
              try simp only [Act.put, List.setIfInBounds_toArray, List.set_cons_zero, List.set_cons_succ]
              refine wpAnyH_takeTo (i := 2) (v := .pointer (some ⟨a2, 1, none⟩)) (some 77) rfl rfl (by kernel_rfl) (by kernel_rfl) (by kernel_rfl) (fun _ _ _ h => h) (Or.inl ⟨by rfl, fun w _ => by go_simp⟩) (by assumption) ?_
              try simp only [Act.put, List.setIfInBounds_toArray, List.set_cons_zero, List.set_cons_succ]
              refine wpAnyH_takeTo (i := 3) (v := .map (some m2)) (some 78) rfl rfl (by kernel_rfl) (by kernel_rfl) (by kernel_rfl) (fun _ _ _ h => h) (yieldsIf_load (by rfl) 50 (.tmp 77) rfl (.pointer (some ⟨a2, 1, none⟩)) (.map (some m2)) rfl x1) (by assumption) ?_
              try simp only [Act.put, List.setIfInBounds_toArray, List.set_cons_zero, List.set_cons_succ]
              refine wpAnyH_takeTo (i := 4) (v := .pointer (some ⟨r1, 0, none⟩)) (some 79) rfl rfl (by kernel_rfl) (by kernel_rfl) (by kernel_rfl) (fun _ _ _ h => h) (Or.inl ⟨by rfl, fun w _ => by go_simp⟩) (by assumption) ?_
              try simp only [Act.put, List.setIfInBounds_toArray, List.set_cons_zero, List.set_cons_succ]
              refine wpAnyH_takeTo (i := 5) (v := .int .i64 e.1) (some 80) rfl rfl (by kernel_rfl) (by kernel_rfl) (by kernel_rfl) (fun _ _ _ h => h) (yieldsIf_load (by rfl) 3 (.tmp 79) rfl (.pointer (some ⟨r1, 0, none⟩)) (.int .i64 e.1) rfl x2) (by assumption) ?_
              try simp only [Act.put, List.setIfInBounds_toArray, List.set_cons_zero, List.set_cons_succ]
              refine wpAnyH_takeTo (i := 6) (v := secV s0) (some 81) rfl rfl (by kernel_rfl) (by kernel_rfl) (by kernel_rfl) (fun _ _ _ h => h) (yieldsIf_lookup (by rfl) 50 (.tmp 78) (.tmp 80) rfl (.map (some m2)) (.int .i64 e.1) (secV s0) rfl rfl x3) (by assumption) ?_
              try simp only [Act.put, List.setIfInBounds_toArray, List.set_cons_zero, List.set_cons_succ]
              refine wpAnyH_one (i := 7) (by kernel_rfl) rfl (fun K' hK' => ?_)
              refine step_alloc69 (some 13) (by rfl) rfl rfl ?_
              have HT0 : Hid ((w6.drew.alloc (.cells (cells8 zsec).toArray 64)).heap[w6.drew.heap.size]? = some (.cells (cells8 zsec).toArray 64 (0, 0))) := heap_alloc_new w6.drew _
              have HU0 : Hid (Below w6.heap.size w6 (w6.drew.alloc (.cells (cells8 zsec).toArray 64))) := (Below.refl _ _).drew.alloc (Nat.le_refl _) _
              obtain ⟨r2, hr2⟩ : ∃ r, w6.drew.heap.size = r := ⟨_, rfl⟩
              have hr2' : Hid (w6.heap.size = r2) := hr2
              generalize (w6.drew.alloc (.cells (cells8 zsec).toArray 64)) = w7 at HT0 HU0 ⊢
              rw [hr2] at HT0 ⊢
              clear hr2
              refine hK' _ _ HU0 ?_
              clear hK' K'
              try simp only [Act.put, List.setIfInBounds_toArray, List.set_cons_zero, List.set_cons_succ]
              refine wpAnyH_one (i := 8) (by kernel_rfl) rfl (fun K' hK' => ?_)
              refine step_store69 (by rfl) rfl (.tmp 13) (.tmp 81) rfl r2 rfl s0 zsec rfl hs0l.out zsec_length HT0.out ?_
              intro w8 hT2 hk8
              have HU8 : Hid (Below w6.heap.size w6 w8) := HU0.out.trans (hk8.below HU0.out.size (fun b hb e => by have := hr2'.out; omega))
              refine hK' _ _ HU8 ?_
              clear hK' K' hk8 HU0 HT0
              try simp only [Act.put, List.setIfInBounds_toArray, List.set_cons_zero, List.set_cons_succ]
              refine wpAnyH_done (by kernel_rfl) ?_ _
              have HT1 := Lib.hid hT2.out
              have HL8 : Hid (w8.heap[r1]? = some (.cells (entL e).toArray 66 (0, 0))) := (HU8.out.block r1 (Array.getElem?_eq_some_iff.1 hr6.out).1).trans hr6.out
              have HJ8 : Hid (w8.heap[q]? = some (.cells #[.slice A K.length c, .int .i64 torn, .int .i64 at_] 33 (0, 0))) := (HU8.out.block q (Array.getElem?_eq_some_iff.1 HJ6.out).1).trans HJ6.out
              have HD8a := Lib.hid (HD6.out.below HU8.out)
              have HK8a : Hid (Kept (fun b => b = m2) wo w8) := HR.out.2.trans ((Kept.of_below HB6'.out).trans (Kept.of_below HU8.out))
              have HB8 : Hid (Below q w w8) := HBw.out.trans ((HB6.out.mono (by rw [← hr1.out]; have := (Array.getElem?_eq_some_iff.1 HJr.out).1; omega)).trans (HU8.out.mono (by have := (Array.getElem?_eq_some_iff.1 HJ6.out).1; omega)))
              have k0 : w8.cell? ⟨q, 0, none⟩ = some (.slice A K.length c) := by rw [cell_of_row _ _ _ _ _ _ HJ8.out]; rfl
              have k1 : w8.cell? ⟨q, 1, none⟩ = some (.int .i64 torn) := by rw [cell_of_row _ _ _ _ _ _ HJ8.out]; rfl
              have k2 : w8.cell? ⟨q, 2, none⟩ = some (.int .i64 at_) := by rw [cell_of_row _ _ _ _ _ _ HJ8.out]; rfl
              have ke : w8.cell? ⟨r1, 0, none⟩ = some (.int .i64 e.1) := by rw [cell_of_row _ _ _ _ _ _ HL8.out]; rfl
              have hm2r : Hid (m2 < r2) := by have := HM6.out.1.lt; have := hr2'.out; show m2 < r2; omega
              have ha2r : Hid (a2 < r2) := by have := (HD6.out.foot a2 (.inl rfl)).2; have := hr2'.out; show a2 < r2; omega
              have hr1r : Hid (r1 < r2) := by have := (Array.getElem?_eq_some_iff.1 hr6.out).1; have := hr2'.out; show r1 < r2; omega
              have hqr : Hid (q < r1) := by have := (Array.getElem?_eq_some_iff.1 HJr.out).1; have := hr1.out; show q < r1; omega
              have hwr : Hid (wo.heap.size ≤ r1) := by have := HR.out.2.size; have := hr1.out; show wo.heap.size ≤ r1; omega
              clear hT2 x1 x2 x3 hS HR HM6 HD6 HU8 HB6 HB6' HJ6 hr6 hra HJr HBw
              by_cases hjt : (j : Int) = torn
              · have hjb : ((j : Int) == torn) = true := by simp [hjt]
                have hat : 0 ≤ at_ ∧ at_ ≤ 256 := ht ⟨by omega, by omega⟩
                go_wp2_with fail
                have y1 : ∀ w', Hid (Below r2 w8 w') → (Instr.loadAt 3 (.pointer (some ⟨q, 2, none⟩))).run Try.prog w' = .ok (.int .i64 at_) w' := fun w' h => load3 ((h.out.cell (by have := hqr.out; have := hr1r.out; show q < r2; omega)).trans k2)
                have hS : Hid (Below r2 w8 w8.drew) := (Below.refl _ _).drew
                refine wp_region_held (S := fun w' => Hid (Below r2 w8 w')) (by kernel_rfl) ?_
                change wpAnyH _ _ _ _ _ _ _ _ (World.drew _)
                refine wpAnyH_takeTo (i := 0) (v := .pointer (some ⟨q, 2, none⟩)) (some 90) rfl rfl (by kernel_rfl) (by kernel_rfl) (by kernel_rfl) (fun _ _ _ h => h) (Or.inl ⟨by rfl, fun w _ => by go_simp⟩) (by assumption) ?_
                try simp only [Act.put, List.setIfInBounds_toArray, List.set_cons_zero, List.set_cons_succ]
                refine wpAnyH_takeTo (i := 1) (v := .int .i64 at_) (some 91) rfl rfl (by kernel_rfl) (by kernel_rfl) (by kernel_rfl) (fun _ _ _ h => h) (yieldsIf_load (by rfl) 3 (.tmp 90) rfl (.pointer (some ⟨q, 2, none⟩)) (.int .i64 at_) rfl y1) (by assumption) ?_
                try simp only [Act.put, List.setIfInBounds_toArray, List.set_cons_zero, List.set_cons_succ]
                refine wpAnyH_takeTo (i := 2) (v := .slice (some ⟨r2, 0, none⟩) at_.toNat 256) (some 92) rfl rfl (by kernel_rfl) (by kernel_rfl) (by kernel_rfl) (fun _ _ _ h => h) (yieldsIf_slice (by rfl) 64 (.tmp 13) (.tmp 91) rfl (.pointer (some ⟨r2, 0, none⟩)) (.int .i64 at_) rfl rfl (fun w' _ => slice69h w' r2 0 at_ hat.1 hat.2)) (by assumption) ?_
                try simp only [Act.put, List.setIfInBounds_toArray, List.set_cons_zero, List.set_cons_succ]
                refine wpAnyH_takeTo (i := 3) (v := .pointer (some ⟨r1, 1, none⟩)) (some 93) rfl rfl (by kernel_rfl) (by kernel_rfl) (by kernel_rfl) (fun _ _ _ h => h) (Or.inl ⟨by rfl, fun w _ => by go_simp⟩) (by assumption) ?_
                try simp only [Act.put, List.setIfInBounds_toArray, List.set_cons_zero, List.set_cons_succ]
                refine wpAnyH_takeTo (i := 4) (v := .pointer (some ⟨q, 2, none⟩)) (some 94) rfl rfl (by kernel_rfl) (by kernel_rfl) (by kernel_rfl) (fun _ _ _ h => h) (Or.inl ⟨by rfl, fun w _ => by go_simp⟩) (by assumption) ?_
                try simp only [Act.put, List.setIfInBounds_toArray, List.set_cons_zero, List.set_cons_succ]
                refine wpAnyH_takeTo (i := 5) (v := .int .i64 at_) (some 95) rfl rfl (by kernel_rfl) (by kernel_rfl) (by kernel_rfl) (fun _ _ _ h => h) (yieldsIf_load (by rfl) 3 (.tmp 94) rfl (.pointer (some ⟨q, 2, none⟩)) (.int .i64 at_) rfl y1) (by assumption) ?_
                try simp only [Act.put, List.setIfInBounds_toArray, List.set_cons_zero, List.set_cons_succ]
                refine wpAnyH_takeTo (i := 6) (v := .slice (some ⟨r1, 1, none⟩) at_.toNat 256) (some 96) rfl rfl (by kernel_rfl) (by kernel_rfl) (by kernel_rfl) (fun _ _ _ h => h) (yieldsIf_slice (by rfl) 64 (.tmp 93) (.tmp 95) rfl (.pointer (some ⟨r1, 1, none⟩)) (.int .i64 at_) rfl rfl (fun w' _ => slice69h w' r1 1 at_ hat.1 hat.2)) (by assumption) ?_
                try simp only [Act.put, List.setIfInBounds_toArray, List.set_cons_zero, List.set_cons_succ]
                have htl : (e.2.take at_.toNat).length = at_.toNat := by rw [List.length_take, hel.out]; omega
                have HTl := Lib.hid htl
                clear htl
                refine wpAnyH_one (i := 7) (by kernel_rfl) rfl (fun K' hK' => ?_)
                refine step_copy_splice rfl (.tmp 92) (.tmp 96) 36 36 rfl 5 Try.underlying36 (by kernel_rfl) (some ⟨r2, 0, none⟩) (some ⟨r1, 1, none⟩) at_.toNat 256 at_.toNat 256 rfl rfl r2 0 (cells8 s0) 64 HT1.out (cells8 (e.2.take at_.toNat)) (by rw [cells8_length, HTl.out]; exact (Nat.min_self _).symm) ?_ (by rw [cells8_length, cells8_length, HTl.out, hs0l.out]; omega) (cells8_one _) r2 w8 hS.out (Nat.le_refl _) ?_
                · intro _
                  refine ⟨rfl, _, rfl, fun jj vv hv => ?_⟩
                  have hrr : w8.rangeAt r1 1 (cells8 e.2) := rangeAt_tail (e := e) (o := 0) (by have := World.rangeAt_of_block HL8.out 0 257; rw [Nat.zero_add, ← entL_length e hel.out] at this; simpa using this)
                  rw [Addr.add_mid]
                  refine hrr jj vv ?_
                  rw [← cells8_take] at hv
                  have hlt2 : jj < at_.toNat := by have := (List.getElem?_eq_some_iff.1 hv).1; rw [List.length_take] at this; omega
                  rw [List.getElem?_take_of_lt hlt2] at hv
                  exact hv
                intro w10 hT2 hb10
                rw [splice0 _ _ (by rw [HTl.out, hs0l.out]; omega), HTl.out] at hT2
                have HT2 := hT2
                clear hT2
                refine hK' _ _ hb10 ?_
                clear hK' K'
                try simp only [Act.put, List.setIfInBounds_toArray, List.set_cons_zero, List.set_cons_succ]
                refine wpAnyH_done (by kernel_rfl) ?_ _
                have HD8 := Lib.hid (HD8a.out.kept (Kept.of_belowB hb10) (fun b hb e => by have h1 := ha2r.out; have h2 := hm2r.out; have e : r2 ≤ b := e; rcases hb with h | h | h <;> first | omega | cases h))
                have HK8 := Lib.hid (Kept.thenBelow HK8a.out hb10 (by have := hwr.out; have := hr1r.out; omega))
                have HE8 := Lib.hid ((hb10.cell hr1r.out).trans ke)
                clear hb10 y1 hS
                have HRs := Lib.hid (show (e.2.take at_.toNat ++ s0.drop at_.toNat).length = 256 by rw [List.length_append, HTl.out, List.length_drop, hs0l.out]; omega)
                have e8 := (show _ = _ from HE8.out)
                go_wp2_with ((first | with_reducible refine park_at (.load 64 _) ?_ | with_reducible refine park_at (.load 66 _) ?_ | with_reducible refine park_at (.store 64 _ _) ?_ | with_reducible refine park_at (.store 66 _ _) ?_ | with_reducible refine park_at (.alloc 64) ?_ | with_reducible refine park_at (.alloc 66) ?_ | with_reducible refine park_at (.box 64 _) ?_ | with_reducible refine park_at (.build 64 _) ?_ | with_reducible refine park_at (.build 66 _) ?_ | with_reducible refine park_at (.binOp _ 64 _ _ _) ?_ | with_reducible refine park_at (.lookup _ _ _ _) ?_ | with_reducible refine park_at (.mapUpdate _ _ _ _) ?_ | with_reducible refine park_at (.makeMap _ _) ?_ | with_reducible refine park_at (.range _ _) ?_ | with_reducible refine park_at (.next _ _) ?_ | with_reducible refine park_append ?_ | with_reducible refine park_copy ?_ | with_reducible refine park_delete ?_); intro pq9 hq9)
                refine hq9.out ?_
                clear hq9
                refine wpList_load69 rfl _ rfl r2 0 rfl (e.2.take at_.toNat ++ s0.drop at_.toNat) HRs.out (by have := World.rangeAt_of_block HT2.out 0 256; rw [Nat.zero_add, ← HRs.out, ← cells8_length (e.2.take at_.toNat ++ s0.drop at_.toNat)] at this; simpa using this) ?_
                have hset := settle_calls HD8.out e.1 (by have := HEr.out; omega) (by have := HEr.out; have := HSz.out; omega) (e.2.take at_.toNat ++ s0.drop at_.toNat) HRs.out (by have := H.out.ok.bud; simp only [newD]; omega)
                have HSet := Lib.hid hset
                clear hset
                obtain ⟨sv, hsv⟩ : ∃ sv, secV (e.2.take at_.toNat ++ s0.drop at_.toNat) = sv := ⟨_, rfl⟩
                rw [hsv] at HSet ⊢
                clear hsv
                go_wp2_with (go_at_call 27; refine HSet.out.mono ?_; rintro e9 w9 ⟨rfl, hD9, hk9⟩; have HD9 := Lib.hid hD9; have HK9 := Lib.hid hk9; clear hD9 hk9)
                go_roundw
                case rel =>
                  refine ⟨j + 1, by omega, by go_num, ?_, HK8.out.trans HK9.out⟩
                  have hD9 := HD9.out
                  rw [List.take_succ_eq_append_getElem hlt, loseF_snoc, HEe.out]
                  have hj0 : (d.wait.take j).length = j := by rw [List.length_take]; omega
                  rw [hj0, Nat.zero_add]
                  have hss : loseS K torn at_ d.wait.length j e.2 (loseF K torn at_ d.wait.length 0 (d.wait.take j) d.held e.1) = e.2.take at_.toNat ++ s0.drop at_.toNat := by rw [HS0.out]; unfold loseS; rw [if_pos ⟨⟨by omega, by omega⟩, hjt⟩]
                  rw [hss]
                  exact hD9
                case measure => simp [intOf]; omega
              · have hjb : ((j : Int) == torn) = false := by simp [hjt]
                by_cases hjk : j < K.length
                · have HBo : Hid (Bools w8 A K) := HK.out.below (by rw [HQ.out]; exact HB8.out)
                  obtain ⟨ad, hA, hbc⟩ := HBo.out j hjk
                  subst hA
                  cases hKj : K[j]
                  · rw [hKj] at hbc
                    have HT2 := HT1
                    have HD8 := HD8a
                    have HK8 := HK8a
                    have HE8 := Lib.hid ke
                    have HRs := Lib.hid hs0l.out
                    have e8 := (show _ = _ from HE8.out)
                    go_wp2_with ((first | with_reducible refine park_at (.load 64 _) ?_ | with_reducible refine park_at (.load 66 _) ?_ | with_reducible refine park_at (.store 64 _ _) ?_ | with_reducible refine park_at (.store 66 _ _) ?_ | with_reducible refine park_at (.alloc 64) ?_ | with_reducible refine park_at (.alloc 66) ?_ | with_reducible refine park_at (.box 64 _) ?_ | with_reducible refine park_at (.build 64 _) ?_ | with_reducible refine park_at (.build 66 _) ?_ | with_reducible refine park_at (.binOp _ 64 _ _ _) ?_ | with_reducible refine park_at (.lookup _ _ _ _) ?_ | with_reducible refine park_at (.mapUpdate _ _ _ _) ?_ | with_reducible refine park_at (.makeMap _ _) ?_ | with_reducible refine park_at (.range _ _) ?_ | with_reducible refine park_at (.next _ _) ?_ | with_reducible refine park_append ?_ | with_reducible refine park_copy ?_ | with_reducible refine park_delete ?_); intro pq9 hq9)
                    refine hq9.out ?_
                    clear hq9
                    refine wpList_load69 rfl _ rfl r2 0 rfl (s0) HRs.out (by have := World.rangeAt_of_block HT2.out 0 256; rw [Nat.zero_add, ← HRs.out, ← cells8_length (s0)] at this; simpa using this) ?_
                    have hset := settle_calls HD8.out e.1 (by have := HEr.out; omega) (by have := HEr.out; have := HSz.out; omega) (s0) HRs.out (by have := H.out.ok.bud; simp only [newD]; omega)
                    have HSet := Lib.hid hset
                    clear hset
                    obtain ⟨sv, hsv⟩ : ∃ sv, secV (s0) = sv := ⟨_, rfl⟩
                    rw [hsv] at HSet ⊢
                    clear hsv
                    go_wp2_with (go_at_call 27; refine HSet.out.mono ?_; rintro e9 w9 ⟨rfl, hD9, hk9⟩; have HD9 := Lib.hid hD9; have HK9 := Lib.hid hk9; clear hD9 hk9)
                    go_roundw
                    case rel =>
                      refine ⟨j + 1, by omega, by go_num, ?_, HK8.out.trans HK9.out⟩
                      have hD9 := HD9.out
                      rw [List.take_succ_eq_append_getElem hlt, loseF_snoc, HEe.out]
                      have hj0 : (d.wait.take j).length = j := by rw [List.length_take]; omega
                      rw [hj0, Nat.zero_add]
                      have hss : loseS K torn at_ d.wait.length j e.2 (loseF K torn at_ d.wait.length 0 (d.wait.take j) d.held e.1) = s0 := by rw [HS0.out]; unfold loseS; rw [if_neg (fun h => hjt h.2)]; simp [List.getD_eq_getElem?_getD, List.getElem?_eq_getElem hjk, hKj]
                      rw [hss]
                      exact hD9
                    case measure => simp [intOf]; omega
                  · rw [hKj] at hbc
                    go_wp2_with ((first | with_reducible refine park_at (.load 64 _) ?_ | with_reducible refine park_at (.load 66 _) ?_ | with_reducible refine park_at (.store 64 _ _) ?_ | with_reducible refine park_at (.store 66 _ _) ?_ | with_reducible refine park_at (.alloc 64) ?_ | with_reducible refine park_at (.alloc 66) ?_ | with_reducible refine park_at (.box 64 _) ?_ | with_reducible refine park_at (.build 64 _) ?_ | with_reducible refine park_at (.build 66 _) ?_ | with_reducible refine park_at (.binOp _ 64 _ _ _) ?_ | with_reducible refine park_at (.lookup _ _ _ _) ?_ | with_reducible refine park_at (.mapUpdate _ _ _ _) ?_ | with_reducible refine park_at (.makeMap _ _) ?_ | with_reducible refine park_at (.range _ _) ?_ | with_reducible refine park_at (.next _ _) ?_ | with_reducible refine park_append ?_ | with_reducible refine park_copy ?_ | with_reducible refine park_delete ?_); intro pq7 hq7)
                    refine hq7.out ?_
                    clear hq7
                    refine wpList_load69 rfl _ rfl r1 1 rfl e.2 hel.out (rangeAt_tail (e := e) (by have := World.rangeAt_of_block HL8.out 0 257; rw [Nat.zero_add, ← entL_length e hel.out] at this; simpa using this)) ?_
                    obtain ⟨dv, hdv⟩ : ∃ dv, secV e.2 = dv := ⟨_, rfl⟩
                    have HDv := Lib.hid hdv
                    rw [hdv]
                    clear hdv
                    go_wp2_with ((first | with_reducible refine park_at (.load 64 _) ?_ | with_reducible refine park_at (.load 66 _) ?_ | with_reducible refine park_at (.store 64 _ _) ?_ | with_reducible refine park_at (.store 66 _ _) ?_ | with_reducible refine park_at (.alloc 64) ?_ | with_reducible refine park_at (.alloc 66) ?_ | with_reducible refine park_at (.box 64 _) ?_ | with_reducible refine park_at (.build 64 _) ?_ | with_reducible refine park_at (.build 66 _) ?_ | with_reducible refine park_at (.binOp _ 64 _ _ _) ?_ | with_reducible refine park_at (.lookup _ _ _ _) ?_ | with_reducible refine park_at (.mapUpdate _ _ _ _) ?_ | with_reducible refine park_at (.makeMap _ _) ?_ | with_reducible refine park_at (.range _ _) ?_ | with_reducible refine park_at (.next _ _) ?_ | with_reducible refine park_append ?_ | with_reducible refine park_copy ?_ | with_reducible refine park_delete ?_); intro pq7 hq7)
                    refine hq7.out ?_
                    clear hq7
                    refine wpList_store69 rfl _ _ rfl r2 rfl e.2 s0 HDv.out.symm hel.out hs0l.out HT1.out ?_
                    intro w10 HT2 hk10
                    have hb10 : Below r2 w8 w10 := hk10.below (Nat.le_of_lt (Array.getElem?_eq_some_iff.1 HT1.out).1) (fun b hb e => by omega)
                    have HD8 := Lib.hid (HD8a.out.kept (Kept.of_belowB hb10) (fun b hb e => by have h1 := ha2r.out; have h2 := hm2r.out; have e : r2 ≤ b := e; rcases hb with h | h | h <;> first | omega | cases h))
                    have HK8 := Lib.hid (Kept.thenBelow HK8a.out hb10 (by have := hwr.out; have := hr1r.out; omega))
                    have HE8 := Lib.hid ((hb10.cell hr1r.out).trans ke)
                    clear hk10 hb10
                    have HRs := Lib.hid hel.out
                    have e8 := (show _ = _ from HE8.out)
                    go_wp2_with ((first | with_reducible refine park_at (.load 64 _) ?_ | with_reducible refine park_at (.load 66 _) ?_ | with_reducible refine park_at (.store 64 _ _) ?_ | with_reducible refine park_at (.store 66 _ _) ?_ | with_reducible refine park_at (.alloc 64) ?_ | with_reducible refine park_at (.alloc 66) ?_ | with_reducible refine park_at (.box 64 _) ?_ | with_reducible refine park_at (.build 64 _) ?_ | with_reducible refine park_at (.build 66 _) ?_ | with_reducible refine park_at (.binOp _ 64 _ _ _) ?_ | with_reducible refine park_at (.lookup _ _ _ _) ?_ | with_reducible refine park_at (.mapUpdate _ _ _ _) ?_ | with_reducible refine park_at (.makeMap _ _) ?_ | with_reducible refine park_at (.range _ _) ?_ | with_reducible refine park_at (.next _ _) ?_ | with_reducible refine park_append ?_ | with_reducible refine park_copy ?_ | with_reducible refine park_delete ?_); intro pq9 hq9)
                    refine hq9.out ?_
                    clear hq9
                    refine wpList_load69 rfl _ rfl r2 0 rfl (e.2) HRs.out (by have := World.rangeAt_of_block HT2.out 0 256; rw [Nat.zero_add, ← HRs.out, ← cells8_length (e.2)] at this; simpa using this) ?_
                    have hset := settle_calls HD8.out e.1 (by have := HEr.out; omega) (by have := HEr.out; have := HSz.out; omega) (e.2) HRs.out (by have := H.out.ok.bud; simp only [newD]; omega)
                    have HSet := Lib.hid hset
                    clear hset
                    obtain ⟨sv, hsv⟩ : ∃ sv, secV (e.2) = sv := ⟨_, rfl⟩
                    rw [hsv] at HSet ⊢
                    clear hsv
                    go_wp2_with (go_at_call 27; refine HSet.out.mono ?_; rintro e9 w9 ⟨rfl, hD9, hk9⟩; have HD9 := Lib.hid hD9; have HK9 := Lib.hid hk9; clear hD9 hk9)
                    go_roundw
                    case rel =>
                      refine ⟨j + 1, by omega, by go_num, ?_, HK8.out.trans HK9.out⟩
                      have hD9 := HD9.out
                      rw [List.take_succ_eq_append_getElem hlt, loseF_snoc, HEe.out]
                      have hj0 : (d.wait.take j).length = j := by rw [List.length_take]; omega
                      rw [hj0, Nat.zero_add]
                      have hss : loseS K torn at_ d.wait.length j e.2 (loseF K torn at_ d.wait.length 0 (d.wait.take j) d.held e.1) = e.2 := by rw [HS0.out]; unfold loseS; rw [if_neg (fun h => hjt h.2)]; simp [List.getD_eq_getElem?_getD, List.getElem?_eq_getElem hjk, hKj]
                      rw [hss]
                      exact hD9
                    case measure => simp [intOf]; omega
                · have HT2 := HT1
                  have HD8 := HD8a
                  have HK8 := HK8a
                  have HE8 := Lib.hid ke
                  have HRs := Lib.hid hs0l.out
                  have e8 := (show _ = _ from HE8.out)
                  go_wp2_with ((first | with_reducible refine park_at (.load 64 _) ?_ | with_reducible refine park_at (.load 66 _) ?_ | with_reducible refine park_at (.store 64 _ _) ?_ | with_reducible refine park_at (.store 66 _ _) ?_ | with_reducible refine park_at (.alloc 64) ?_ | with_reducible refine park_at (.alloc 66) ?_ | with_reducible refine park_at (.box 64 _) ?_ | with_reducible refine park_at (.build 64 _) ?_ | with_reducible refine park_at (.build 66 _) ?_ | with_reducible refine park_at (.binOp _ 64 _ _ _) ?_ | with_reducible refine park_at (.lookup _ _ _ _) ?_ | with_reducible refine park_at (.mapUpdate _ _ _ _) ?_ | with_reducible refine park_at (.makeMap _ _) ?_ | with_reducible refine park_at (.range _ _) ?_ | with_reducible refine park_at (.next _ _) ?_ | with_reducible refine park_append ?_ | with_reducible refine park_copy ?_ | with_reducible refine park_delete ?_); intro pq9 hq9)
                  refine hq9.out ?_
                  clear hq9
                  refine wpList_load69 rfl _ rfl r2 0 rfl (s0) HRs.out (by have := World.rangeAt_of_block HT2.out 0 256; rw [Nat.zero_add, ← HRs.out, ← cells8_length (s0)] at this; simpa using this) ?_
                  have hset := settle_calls HD8.out e.1 (by have := HEr.out; omega) (by have := HEr.out; have := HSz.out; omega) (s0) HRs.out (by have := H.out.ok.bud; simp only [newD]; omega)
                  have HSet := Lib.hid hset
                  clear hset
                  obtain ⟨sv, hsv⟩ : ∃ sv, secV (s0) = sv := ⟨_, rfl⟩
                  rw [hsv] at HSet ⊢
                  clear hsv
                  go_wp2_with (go_at_call 27; refine HSet.out.mono ?_; rintro e9 w9 ⟨rfl, hD9, hk9⟩; have HD9 := Lib.hid hD9; have HK9 := Lib.hid hk9; clear hD9 hk9)
                  go_roundw
                  case rel =>
                    refine ⟨j + 1, by omega, by go_num, ?_, HK8.out.trans HK9.out⟩
                    have hD9 := HD9.out
                    rw [List.take_succ_eq_append_getElem hlt, loseF_snoc, HEe.out]
                    have hj0 : (d.wait.take j).length = j := by rw [List.length_take]; omega
                    rw [hj0, Nat.zero_add]
                    have hss : loseS K torn at_ d.wait.length j e.2 (loseF K torn at_ d.wait.length 0 (d.wait.take j) d.held e.1) = s0 := by rw [HS0.out]; unfold loseS; rw [if_neg (fun h => hjt h.2)]; simp [List.getD_eq_getElem?_getD, List.getElem?_eq_none (Nat.not_lt.1 hjk)]
                    rw [hss]
                    exact hD9
                  case measure => simp [intOf]; omega
              -- END2
            · obtain rfl : j = d.wait.length := by omega
              go_wp2
              go_ret2
              have hR1 := HR.out.1
              rw [List.take_length] at hR1
              obtain ⟨n9, D9, hM9, hn9⟩ := hR1.map
              refine ⟨a2, m2, rfl, ⟨hR1.blk, ⟨n9, D9, hM9, ?_⟩, ⟨rfl, .inl ⟨rfl, rfl⟩⟩, ⟨by rw [HQ.out]; omega, by rw [HQ.out]; omega⟩, ⟨hR1.ok.hlen, by simp [DiskM.lose, newD], HSz.out, H.out.ok.bud, by simp [DiskM.lose, newD], by simp [DiskM.lose, newD]⟩⟩, ?_⟩
              · have : n9 + 0 ≤ k + d.wait.length := hn9
                show n9 + 0 ≤ d.bud
                omega
              · rw [HQ.out]
                exact HBr.out.trans (HR.out.2.below (by rw [← HQ.out]; exact HBr.out.size) (fun b hb e => by omega))
        · intro x v kl y w4 cnt' hkey hlk hv hat hrg4 hlt hgr4 hsz4 hent
          obtain ⟨x', hx1, rfl, hwf⟩ := Maps.keyOf_int_inv Try.underlying3 hkey
          obtain rfl : x = x' := by injection hx1
          have hxr : -9223372036854775808 ≤ x ∧ x ≤ 9223372036854775807 := by simpa [Lit.wf, IntKind.min, IntKind.max, IntKind.bits, IntKind.signed] using hwf
          have hvs : v = secV (d.held x) := by
            have h2 := HM0.out.2 x hxr.1 hxr.2
            rw [hat] at h2
            unfold RH at hv
            simp only [Option.some.injEq] at hv
            rw [← hv] at h2
            exact held_inj h2
          have HV := Lib.hid hvs
          have HRg4 := Lib.hid hrg4
          have HK4 : Hid (Kept (fun b => b = m2 ∨ b = it) w3 w4) := HR4.out.trans (Kept.of_grown hgr4 (fun k hk => by cases hk; exact .inr rfl))
          have HM4 : Hid (MAt w4 m2 k Dout (part_ d.held left)) := HR2.out.kept (Kept.of_grown (S := (· = it)) hgr4 (fun k hk => by cases hk; rfl)) (by omega)
          have HLt := Lib.hid hlt
          clear hvs hrg4 hgr4 HR1 HR2 HR4 hv hat hkey hlk hx1 hwf hstart hlt
          go_wp2_with ((first | with_reducible refine park_at (.load 64 _) ?_ | with_reducible refine park_at (.load 66 _) ?_ | with_reducible refine park_at (.store 64 _ _) ?_ | with_reducible refine park_at (.store 66 _ _) ?_ | with_reducible refine park_at (.alloc 64) ?_ | with_reducible refine park_at (.alloc 66) ?_ | with_reducible refine park_at (.box 64 _) ?_ | with_reducible refine park_at (.build 64 _) ?_ | with_reducible refine park_at (.build 66 _) ?_ | with_reducible refine park_at (.binOp _ 64 _ _ _) ?_ | with_reducible refine park_at (.lookup _ _ _ _) ?_ | with_reducible refine park_at (.mapUpdate _ _ _ _) ?_ | with_reducible refine park_at (.makeMap _ _) ?_ | with_reducible refine park_at (.range _ _) ?_ | with_reducible refine park_at (.next _ _) ?_ | with_reducible refine park_append ?_ | with_reducible refine park_copy ?_ | with_reducible refine park_delete ?_); intro pq5 hq5)
          refine hq5.out ?_
          clear hq5
          refine wpList_alloc69 rfl rfl ?_
          have HR5 : Hid ((w4.alloc (.cells (cells8 zsec).toArray 64)).heap[w4.heap.size]? = some (.cells (cells8 zsec).toArray 64 (0, 0))) := heap_alloc_new w4 _
          have HB5 : Hid (Below w4.heap.size w4 (w4.alloc (.cells (cells8 zsec).toArray 64))) := (Below.refl _ _).alloc (Nat.le_refl _) _
          generalize (w4.alloc (.cells (cells8 zsec).toArray 64)) = w5 at HR5 HB5 ⊢
          obtain ⟨r, hr⟩ : ∃ r, w4.heap.size = r := ⟨_, rfl⟩
          have hr := Lib.hid hr
          rw [hr.out] at HR5 HB5 ⊢
          go_wp2_with ((first | with_reducible refine park_at (.load 64 _) ?_ | with_reducible refine park_at (.load 66 _) ?_ | with_reducible refine park_at (.store 64 _ _) ?_ | with_reducible refine park_at (.store 66 _ _) ?_ | with_reducible refine park_at (.alloc 64) ?_ | with_reducible refine park_at (.alloc 66) ?_ | with_reducible refine park_at (.box 64 _) ?_ | with_reducible refine park_at (.build 64 _) ?_ | with_reducible refine park_at (.build 66 _) ?_ | with_reducible refine park_at (.binOp _ 64 _ _ _) ?_ | with_reducible refine park_at (.lookup _ _ _ _) ?_ | with_reducible refine park_at (.mapUpdate _ _ _ _) ?_ | with_reducible refine park_at (.makeMap _ _) ?_ | with_reducible refine park_at (.range _ _) ?_ | with_reducible refine park_at (.next _ _) ?_ | with_reducible refine park_append ?_ | with_reducible refine park_copy ?_ | with_reducible refine park_delete ?_); intro pq6 hq6)
          refine hq6.out ?_
          clear hq6
          have hlx := H.out.ok.hlen x
          have HLx := Lib.hid hlx
          refine wpList_store69 rfl _ _ rfl r rfl (d.held x) zsec HV.out hlx zsec_length HR5.out ?_
          intro w6 hr6 hk6
          have HK6 : Hid (Kept (fun _ => False) w4 w6) := Kept.of_below (by rw [hr.out]; exact HB5.out.trans (hk6.below (Nat.le_of_lt (Array.getElem?_eq_some_iff.1 HR5.out).1) (fun b hb e => by omega)))
          have hm2r : m2 ≠ r := by have := HM4.out.1.lt; rw [hr.out] at this; omega
          have HM6 : Hid (MAt w6 m2 k Dout (part_ d.held left)) := HM4.out.kept HK6.out (fun x => x)
          have HRg6 := Lib.hid (HRg4.out.kept (row := none) ⟨HK6.out.os, HK6.out.tape, HK6.out.output, HK6.out.size, fun i hi _ => HK6.out.block i hi (fun x => x)⟩ (by simp) (by simp))
          have HK6' : Hid (Kept (fun b => b = m2 ∨ b = it) w3 w6) := HK4.out.trans (HK6.out.mono (fun _ _ x => x.elim))
          have o6 : w6.cell? ⟨a2, 1, none⟩ = some (.map (some m2)) := (HK6'.out.cell (HO2.out.kept HG.out (fun _ _ x => x)).c1 (by show ¬ (a2 = m2 ∨ a2 = it); omega))
          clear hk6 HB5 HM4 HRg4 HK4 HK6 HR5 hent
          have hc1 : ∀ w', (w'.rangeAt r 0 (cells8 (d.held x)) ∧ Hid (Kept (· = m2) w6 w')) → w'.cell? ⟨a2, 1, none⟩ = some (.map (some m2)) := fun w' h => h.2.out.cell o6 (fun e => ham2 e.symm)
          have hra : w6.rangeAt r 0 (cells8 (d.held x)) := by
            have := World.rangeAt_of_block hr6.out 0 256; rw [Nat.zero_add, ← HLx.out, ← cells8_length (d.held x)] at this; simpa using this
          obtain ⟨w7, hmu, hM7, hk7⟩ := MAt.update_run (w := w6.drew) HM6.out (by have := HR3.out; have := HN0.out; have := H.out.ok.bud; unfold maxLen; omega) x hxr.1 hxr.2 (d.held x)
          have HM7 := Lib.hid hM7
          have hk8 : Kept (· = m2) w6 w7 := Kept.trans ((Kept.refl (· = m2) w6).drew) hk7
          have HK7 := Lib.hid hk8
          have hS7 : w7.rangeAt r 0 (cells8 (d.held x)) ∧ Hid (Kept (· = m2) w6 w7) := ⟨fun j v hv => hk8.cell (hra j v hv) (fun e => hm2r e.symm), hk8⟩
          unfold secV at hmu
          clear hM7 hk7 hk8 hlx
          have hu := under69
          have hsz : (Try.prog.info? 64).map (·.size) = some (cells8 (d.held x)).length := by rw [cells8_length, HLx.out]; exact size69
          go_wp2_with fail
          go_region_held (fun w' => w'.rangeAt r 0 (cells8 (d.held x)) ∧ Hid (Kept (· = m2) w6 w')) (first | exact ⟨hra, (Kept.refl _ _).drew⟩ | assumption) (fail)
          all_goals
            clear hc1 hra hmu hS7 hu hsz
            have HRg7 := Lib.hid (HRg6.out.kept (row := some m2) ⟨HK7.out.os, HK7.out.tape, HK7.out.output, HK7.out.size, fun i hi hne => HK7.out.block i hi (fun e => hne (by rw [e]))⟩ (by intro e; injection e with e; omega) (by intro e; injection e with e; omega))
            go_wp2
            go_roundw
            case rel => exact ⟨_, cnt', k + 1, _, HRg7.out, by have := HM7.out; rw [part_step] at this; exact this, by have := HR3.out; have := HLt.out; omega, HK6'.out.trans (HK7.out.mono (fun _ _ e => .inl e))⟩
            case measure => rw [HRg7.out.left_eq, hleft.out]; exact HLt.out
    -- WAY2
    · skip
      have HB3 : Hid (Below q w w2) := HB2.out.trans (hb2.mono (by rw [← HQ.out]; exact HB2.out.size))
      have HA2 : Hid (DiskAt w2 base a m (.slice W d.wait.length cw) d) := HAc.out.below hb2
      have HO2 := Lib.hid hD2
      have HJ2 : Hid (w2.heap[q]? = some (.cells #[.slice A K.length c, .int .i64 torn, .int .i64 at_] 33 (0, 0))) := (hb2.block q (Array.getElem?_eq_some_iff.1 HJb.out).1).trans HJb.out
      obtain ⟨f, hf⟩ : ∃ f, wc.heap.size = f := ⟨_, rfl⟩
      have hqf : q < f := by rw [← hf]; exact (Array.getElem?_eq_some_iff.1 HJb.out).1
      have haf : a < q := by have := (H.out.foot a (.inl rfl)).2; rw [HQ.out] at this; exact this
      have hmf : m < q := by have := (H.out.foot m (.inr (.inl rfl))).2; rw [HQ.out] at this; exact this
      have hf2 : f ≤ w2.heap.size := by rw [← hf]; exact hb2.size
      rw [hf] at HO2
      have ha2 : f ≤ a2 ∧ a2 < w2.heap.size := HO2.out.foot a2 (.inl rfl)
      have hm2 : f ≤ m2 ∧ m2 < w2.heap.size := HO2.out.foot m2 (.inr (.inl rfl))
      have ham2 : m2 ≠ a2 := HO2.out.am
      have HTa := Lib.hid hta
      have HSz := Lib.hid hsz
      clear hb2 hD2 HNw HAc HJb d0 d1 d2 j0 j1 j2 hf HB2 hta hsz
      refine hq2.out ?_
      clear hq2
      have d1 := HA2.out.c1
      obtain ⟨n, D, hM, hn⟩ := HA2.out.map
      have HM0 := Lib.hid hM
      have HN0 := Lib.hid hn
      clear hM hn
      go_wp2_with ((first | with_reducible refine park_at (.load 64 _) ?_ | with_reducible refine park_at (.load 66 _) ?_ | with_reducible refine park_at (.store 64 _ _) ?_ | with_reducible refine park_at (.store 66 _ _) ?_ | with_reducible refine park_at (.alloc 64) ?_ | with_reducible refine park_at (.alloc 66) ?_ | with_reducible refine park_at (.box 64 _) ?_ | with_reducible refine park_at (.build 64 _) ?_ | with_reducible refine park_at (.build 66 _) ?_ | with_reducible refine park_at (.binOp _ 64 _ _ _) ?_ | with_reducible refine park_at (.lookup _ _ _ _) ?_ | with_reducible refine park_at (.mapUpdate _ _ _ _) ?_ | with_reducible refine park_at (.makeMap _ _) ?_ | with_reducible refine park_at (.range _ _) ?_ | with_reducible refine park_at (.next _ _) ?_ | with_reducible refine park_append ?_ | with_reducible refine park_copy ?_ | with_reducible refine park_delete ?_); intro pq3 hq3)
      refine hq3.out ?_
      clear hq3
      refine wpList_range_own w2 rfl _ 50 rfl 3 64 K3 under60 RH m n D rfl HM0.out.1 ?_
      intro w3 hrg hgr hs3
      obtain ⟨it, hit⟩ : ∃ it, w2.heap.size = it := ⟨_, rfl⟩
      have HIt := Lib.hid hit
      have HRg := Lib.hid hrg
      have HG := Lib.hid (Kept.of_grown (S := fun _ => False) hgr (fun k hk => by cases hk))
      clear hrg hgr hs3 hit d1
      rw [HIt.out] at HRg ha2 hm2 hf2 ⊢
      have hstart : Hid (∃ (left : Lit → Bool) (cnt k : Nat) (Dout : DataW Value), w3.ranges Try.prog 3 RH m it n D left cnt ∧ MAt w3 m2 k Dout (part_ d.held left) ∧ k + cnt ≤ n ∧ Kept (fun b => b = m2 ∨ b = it) w3 w3) := by
        obtain ⟨k, Do, hMo, hko⟩ := HO2.out.map
        have hk0 : k = 0 := by simp only [newD, List.length_nil] at hko; omega
        subst hk0
        refine ⟨Maps.has D, Maps.size D, 0, Do, HRg.out, ?_, by have := HM0.out.1.size_le; omega, Kept.refl _ _⟩
        refine (hMo.kept HG.out (fun x => x)).congr (fun i h0 h1 => ?_)
        unfold part_
        cases hh : Maps.has D (.int .i64 i)
        · have h2 := HM0.out.2 i h0 h1
          rw [Maps.atKey_of_not_has hh] at h2
          have := secV_inj (held_inj h2)
          simpa [newD] using this
        · rfl
      go_wp2
      try simp only [Act.put, List.setIfInBounds_toArray, List.set_cons_zero, List.set_cons_succ]
      go_loopw [54] (fun s wr => Hid (∃ (left : Lit → Bool) (cnt k : Nat) (Dout : DataW Value), wr.ranges Try.prog 3 RH m it n D left cnt ∧ MAt wr m2 k Dout (part_ d.held left) ∧ k + cnt ≤ n ∧ Kept (fun b => b = m2 ∨ b = it) w3 wr)) (fun _ wr => wr.rangeLeft m it)
      case atStart => exact hstart
      case round =>
        have HR := hrel
        clear hrel
        obtain ⟨left, cnt, k, Dout, hr1, hr2, hr3, hr4⟩ := HR.out
        have hleft := Lib.hid hr1.left_eq
        have HR1 := Lib.hid hr1
        have HR2 := Lib.hid hr2
        have HR3 := Lib.hid hr3
        have HR4 := Lib.hid hr4
        clear HR hr1 hr2 hr3 hr4
        go_wp2_with ((first | with_reducible refine park_at (.load 64 _) ?_ | with_reducible refine park_at (.load 66 _) ?_ | with_reducible refine park_at (.store 64 _ _) ?_ | with_reducible refine park_at (.store 66 _ _) ?_ | with_reducible refine park_at (.alloc 64) ?_ | with_reducible refine park_at (.alloc 66) ?_ | with_reducible refine park_at (.box 64 _) ?_ | with_reducible refine park_at (.build 64 _) ?_ | with_reducible refine park_at (.build 66 _) ?_ | with_reducible refine park_at (.binOp _ 64 _ _ _) ?_ | with_reducible refine park_at (.lookup _ _ _ _) ?_ | with_reducible refine park_at (.mapUpdate _ _ _ _) ?_ | with_reducible refine park_at (.makeMap _ _) ?_ | with_reducible refine park_at (.range _ _) ?_ | with_reducible refine park_at (.next _ _) ?_ | with_reducible refine park_append ?_ | with_reducible refine park_copy ?_ | with_reducible refine park_delete ?_); intro pq4 hq4)
        refine hq4.out ?_
        clear hq4
        refine wpList_next_ranges wr rfl _ rfl 3 K3 RH (Value.int .i64) (fun v => v) (fun key kl hk => by obtain ⟨x, rfl, _⟩ := Maps.keyOf_int_inv Try.underlying3 hk; exact ⟨x, rfl⟩) (fun v y _ => ⟨v, rfl⟩) m it n D left cnt rfl HR1.out ?_ ?_
        · intro hc0 hall
          have hDr : DiskAt wr base a m (.slice W d.wait.length cw) d := (HA2.out.kept HG.out (fun _ _ x => x)).kept HR4.out (fun b hb e => by
            have := (H.out.foot b hb).2
            rw [HQ.out] at this
            have h1 := hm2.1
            omega)
          have HDr := Lib.hid hDr
          have c2 := hDr.c2
          have hOD : DiskAt wr f a2 m2 (.slice none 0 0) { newD d.size with held := d.held, bud := k } :=
            (HO2.out.kept HG.out (fun _ _ x => x)).fresh (HR2.out.congr (fun i _ _ => by unfold part_; rw [hall]; rfl)) HR4.out (by intro e; omega) (by simp [newD]) rfl rfl rfl rfl rfl
              ⟨H.out.ok.hlen, by simp [newD], HSz.out, by have := HR3.out; have := HN0.out; have := H.out.ok.bud; simp only []; omega, by simp [newD], by simp [newD]⟩
          have HOD := Lib.hid hOD
          have hkn : k + d.wait.length ≤ d.bud := by have := HR3.out; have := HN0.out; omega
          have HBr : Hid (Below q w wr) := (HB3.out.trans ((HG.out.below (B := q) (by have := HIt.out; omega) (fun b _ x => x)))).trans (HR4.out.below (by have := HG.out.size; have := HIt.out; omega) (fun b hb e => by omega))
          have HJo : Hid (wr.heap[q]? = some (.cells #[.slice A K.length c, .int .i64 torn, .int .i64 at_] 33 (0, 0))) := (HR4.out.block q (by have := HG.out.size; have := HIt.out; omega) (by show ¬ (q = m2 ∨ q = it); omega)).trans ((HG.out.block q (by have := HIt.out; omega) (fun x => x)).trans HJ2.out)
          clear hDr hOD HR1 HR2 HR3 HR4 hall hc0 hleft hstart
          go_wp2
          obtain ⟨wo, rfl⟩ : ∃ wo : World, wo = wr := ⟨_, rfl⟩
          go_loopw [70] (fun s wr => ∃ j : Nat, j ≤ d.wait.length ∧ s = .int .i64 j ∧ Hid (DiskAt wr f a2 m2 (.slice none 0 0) { newD d.size with held := loseF K torn at_ d.wait.length 0 (d.wait.take j) d.held, bud := k + j } ∧ Kept (fun b => b = m2) wo wr)) (fun s _ => d.wait.length - (intOf s).toNat)
          case atStart => exact ⟨0, Nat.zero_le _, rfl, HOD.out, Kept.refl _ _⟩
          case round =>
            obtain ⟨j, hj, rfl, HR⟩ := hrel
            by_cases hlt : j < d.wait.length
            · -- LOOP2
              have hDr : DiskAt wr base a m (.slice W d.wait.length cw) d := HDr.out.kept HR.out.2 (fun b hb e => by have := (H.out.foot b hb).2; rw [HQ.out] at this; have h1 := hm2.1; omega)
              obtain ⟨g, hg⟩ := HF.out j hlt
              subst hg
              have hra := Lib.hid (wait_at hDr j hlt)
              have hel := Lib.hid (hDr.ok.wlen _ (List.getElem_mem hlt)).1
              have HEr := Lib.hid (hDr.ok.wlen _ (List.getElem_mem hlt)).2
              obtain ⟨e, he⟩ : ∃ e, d.wait[j] = e := ⟨_, rfl⟩
              have HEe := Lib.hid he
              rw [he] at hra hel HEr
              clear he
              have HJr : Hid (wr.heap[q]? = some (.cells #[.slice A K.length c, .int .i64 torn, .int .i64 at_] 33 (0, 0))) := (HR.out.2.block q (Array.getElem?_eq_some_iff.1 HJo.out).1 (by show ¬ q = m2; omega)).trans HJo.out
              have HBw : Hid (Below q w wr) := HBr.out.trans (HR.out.2.below (by rw [← HQ.out]; exact HBr.out.size) (fun b hb e => by omega))
              clear hDr
              go_wp2_with ((first | with_reducible refine park_at (.load 64 _) ?_ | with_reducible refine park_at (.load 66 _) ?_ | with_reducible refine park_at (.store 64 _ _) ?_ | with_reducible refine park_at (.store 66 _ _) ?_ | with_reducible refine park_at (.alloc 64) ?_ | with_reducible refine park_at (.alloc 66) ?_ | with_reducible refine park_at (.box 64 _) ?_ | with_reducible refine park_at (.build 64 _) ?_ | with_reducible refine park_at (.build 66 _) ?_ | with_reducible refine park_at (.binOp _ 64 _ _ _) ?_ | with_reducible refine park_at (.lookup _ _ _ _) ?_ | with_reducible refine park_at (.mapUpdate _ _ _ _) ?_ | with_reducible refine park_at (.makeMap _ _) ?_ | with_reducible refine park_at (.range _ _) ?_ | with_reducible refine park_at (.next _ _) ?_ | with_reducible refine park_append ?_ | with_reducible refine park_copy ?_ | with_reducible refine park_delete ?_); intro pq6 hq6)
              refine hq6.out ?_
              clear hq6
              refine wpList_load71 rfl _ rfl g (j * 257) rfl e hel.out hra.out ?_
              obtain ⟨ev, hev⟩ : ∃ ev, entV e = ev := ⟨_, rfl⟩
              have HEv := Lib.hid hev
              rw [hev]
              clear hev
              go_wp2_with ((first | with_reducible refine park_at (.load 64 _) ?_ | with_reducible refine park_at (.load 66 _) ?_ | with_reducible refine park_at (.store 64 _ _) ?_ | with_reducible refine park_at (.store 66 _ _) ?_ | with_reducible refine park_at (.alloc 64) ?_ | with_reducible refine park_at (.alloc 66) ?_ | with_reducible refine park_at (.box 64 _) ?_ | with_reducible refine park_at (.build 64 _) ?_ | with_reducible refine park_at (.build 66 _) ?_ | with_reducible refine park_at (.binOp _ 64 _ _ _) ?_ | with_reducible refine park_at (.lookup _ _ _ _) ?_ | with_reducible refine park_at (.mapUpdate _ _ _ _) ?_ | with_reducible refine park_at (.makeMap _ _) ?_ | with_reducible refine park_at (.range _ _) ?_ | with_reducible refine park_at (.next _ _) ?_ | with_reducible refine park_append ?_ | with_reducible refine park_copy ?_ | with_reducible refine park_delete ?_); intro pq6 hq6)
              refine hq6.out ?_
              clear hq6
              refine wpList_alloc71 rfl rfl ?_
              have HR5 : Hid ((wr.alloc (.cells (entL (0, zsec)).toArray 66)).heap[wr.heap.size]? = some (.cells (entL (0, zsec)).toArray 66 (0, 0))) := heap_alloc_new wr _
              have HB5 : Hid (Below wr.heap.size wr (wr.alloc (.cells (entL (0, zsec)).toArray 66))) := (Below.refl _ _).alloc (Nat.le_refl _) _
              generalize (wr.alloc (.cells (entL (0, zsec)).toArray 66)) = w5 at HR5 HB5 ⊢
              obtain ⟨r1, hr1⟩ : ∃ r, wr.heap.size = r := ⟨_, rfl⟩
              have hr1 := Lib.hid hr1
              rw [hr1.out] at HR5 HB5 ⊢
              go_wp2_with ((first | with_reducible refine park_at (.load 64 _) ?_ | with_reducible refine park_at (.load 66 _) ?_ | with_reducible refine park_at (.store 64 _ _) ?_ | with_reducible refine park_at (.store 66 _ _) ?_ | with_reducible refine park_at (.alloc 64) ?_ | with_reducible refine park_at (.alloc 66) ?_ | with_reducible refine park_at (.box 64 _) ?_ | with_reducible refine park_at (.build 64 _) ?_ | with_reducible refine park_at (.build 66 _) ?_ | with_reducible refine park_at (.binOp _ 64 _ _ _) ?_ | with_reducible refine park_at (.lookup _ _ _ _) ?_ | with_reducible refine park_at (.mapUpdate _ _ _ _) ?_ | with_reducible refine park_at (.makeMap _ _) ?_ | with_reducible refine park_at (.range _ _) ?_ | with_reducible refine park_at (.next _ _) ?_ | with_reducible refine park_append ?_ | with_reducible refine park_copy ?_ | with_reducible refine park_delete ?_); intro pq6 hq6)
              refine hq6.out ?_
              clear hq6
              refine wpList_store71 rfl _ _ rfl r1 rfl e (0, zsec) HEv.out.symm hel.out zsec_length HR5.out ?_
              intro w6 hr6 hk6
              have HB6 : Hid (Below r1 wr w6) := HB5.out.trans (hk6.below (Nat.le_of_lt (Array.getElem?_eq_some_iff.1 HR5.out).1) (fun b hb e => by omega))
              clear hk6 HB5 HR5
              have HB6' : Hid (Below wr.heap.size wr w6) := by rw [hr1.out]; exact HB6.out
              have HD6 := Lib.hid (HR.out.1.below HB6'.out)
              have HJ6 : Hid (w6.heap[q]? = some (.cells #[.slice A K.length c, .int .i64 torn, .int .i64 at_] 33 (0, 0))) := (HB6'.out.block q (Array.getElem?_eq_some_iff.1 HJr.out).1).trans HJr.out
              obtain ⟨n6, D6, hM6, hn6⟩ := HD6.out.map
              have HM6 := Lib.hid hM6
              clear hM6
              obtain ⟨s0, hs0⟩ : ∃ s0, loseF K torn at_ d.wait.length 0 (d.wait.take j) d.held e.1 = s0 := ⟨_, rfl⟩
              have HS0 := Lib.hid hs0
              have hs0l : Hid (s0.length = 256) := by rw [← hs0]; exact HD6.out.ok.hlen e.1
              clear hs0
              have x1 : ∀ w', Hid (Below w6.heap.size w6 w') → (Instr.loadAt 50 (.pointer (some ⟨a2, 1, none⟩))).run Try.prog w' = .ok (.map (some m2)) w' := fun w' h => load60 (HD6.out.below h.out).c1
              have x2 : ∀ w', Hid (Below w6.heap.size w6 w') → (Instr.loadAt 3 (.pointer (some ⟨r1, 0, none⟩))).run Try.prog w' = .ok (.int .i64 e.1) w' := fun w' h => load3 (by
                have hb : w'.heap[r1]? = some (.cells (entL e).toArray 66 (0, 0)) := (h.out.block r1 (Array.getElem?_eq_some_iff.1 hr6.out).1).trans hr6.out
                rw [cell_of_row _ _ _ _ _ _ hb]; rfl)
              have x3 : ∀ w', Hid (Below w6.heap.size w6 w') → (Instr.lookup 50 (.map (some m2)) (.int .i64 e.1) false).run Try.prog w' = .ok (secV s0) w' := fun w' h => by
                rw [← HS0.out]
                exact (HM6.out.kept (S := fun _ => False) (Kept.of_below h.out) (fun x => x)).lookup e.1 (by have := HEr.out; omega) (by have := HEr.out; have := HSz.out; omega)
              have hS : Hid (Below w6.heap.size w6 w6.drew) := (Below.refl _ _).drew
              go_wp2_with fail
              refine wp_region_held (S := fun w' => Hid (Below w6.heap.size w6 w')) (by kernel_rfl) ?_
              change wpAnyH _ _ _ _ _ _ _ _ (World.drew _)
              refine wpAnyH_takeTo (i := 0) (v := .pointer (some ⟨a2, 0, none⟩)) (some 75) rfl rfl (by kernel_rfl) (by kernel_rfl) (by kernel_rfl) (fun _ _ _ h => h) (Or.inl ⟨by rfl, fun w _ => by go_simp⟩) (by assumption) ?_
              try simp only [Act.put, List.setIfInBounds_toArray, List.set_cons_zero, List.set_cons_succ]
              refine wpAnyH_takeTo (i := 1) (v := .pointer (some ⟨a2, 0, none⟩)) (some 76) rfl rfl (by kernel_rfl) (by kernel_rfl) (by kernel_rfl) (fun _ _ _ h => h) (Or.inl ⟨by rfl, fun w _ => by go_simp⟩) (by assumption) ?_
              try simp only [Act.put, List.setIfInBounds_toArray, List.set_cons_zero, List.set_cons_succ]
              refine wpAnyH_takeTo (i := 2) (v := .pointer (some ⟨a2, 1, none⟩)) (some 77) rfl rfl (by kernel_rfl) (by kernel_rfl) (by kernel_rfl) (fun _ _ _ h => h) (Or.inl ⟨by rfl, fun w _ => by go_simp⟩) (by assumption) ?_
              try simp only [Act.put, List.setIfInBounds_toArray, List.set_cons_zero, List.set_cons_succ]
              refine wpAnyH_takeTo (i := 3) (v := .map (some m2)) (some 78) rfl rfl (by kernel_rfl) (by kernel_rfl) (by kernel_rfl) (fun _ _ _ h => h) (yieldsIf_load (by rfl) 50 (.tmp 77) rfl (.pointer (some ⟨a2, 1, none⟩)) (.map (some m2)) rfl x1) (by assumption) ?_
              try simp only [Act.put, List.setIfInBounds_toArray, List.set_cons_zero, List.set_cons_succ]
              refine wpAnyH_takeTo (i := 4) (v := .pointer (some ⟨r1, 0, none⟩)) (some 79) rfl rfl (by kernel_rfl) (by kernel_rfl) (by kernel_rfl) (fun _ _ _ h => h) (Or.inl ⟨by rfl, fun w _ => by go_simp⟩) (by assumption) ?_
              try simp only [Act.put, List.setIfInBounds_toArray, List.set_cons_zero, List.set_cons_succ]
              refine wpAnyH_takeTo (i := 5) (v := .int .i64 e.1) (some 80) rfl rfl (by kernel_rfl) (by kernel_rfl) (by kernel_rfl) (fun _ _ _ h => h) (yieldsIf_load (by rfl) 3 (.tmp 79) rfl (.pointer (some ⟨r1, 0, none⟩)) (.int .i64 e.1) rfl x2) (by assumption) ?_
              try simp only [Act.put, List.setIfInBounds_toArray, List.set_cons_zero, List.set_cons_succ]
              refine wpAnyH_takeTo (i := 6) (v := secV s0) (some 81) rfl rfl (by kernel_rfl) (by kernel_rfl) (by kernel_rfl) (fun _ _ _ h => h) (yieldsIf_lookup (by rfl) 50 (.tmp 78) (.tmp 80) rfl (.map (some m2)) (.int .i64 e.1) (secV s0) rfl rfl x3) (by assumption) ?_
              try simp only [Act.put, List.setIfInBounds_toArray, List.set_cons_zero, List.set_cons_succ]
              refine wpAnyH_one (i := 7) (by kernel_rfl) rfl (fun K' hK' => ?_)
              refine step_alloc69 (some 13) (by rfl) rfl rfl ?_
              have HT0 : Hid ((w6.drew.alloc (.cells (cells8 zsec).toArray 64)).heap[w6.drew.heap.size]? = some (.cells (cells8 zsec).toArray 64 (0, 0))) := heap_alloc_new w6.drew _
              have HU0 : Hid (Below w6.heap.size w6 (w6.drew.alloc (.cells (cells8 zsec).toArray 64))) := (Below.refl _ _).drew.alloc (Nat.le_refl _) _
              obtain ⟨r2, hr2⟩ : ∃ r, w6.drew.heap.size = r := ⟨_, rfl⟩
              have hr2' : Hid (w6.heap.size = r2) := hr2
              generalize (w6.drew.alloc (.cells (cells8 zsec).toArray 64)) = w7 at HT0 HU0 ⊢
              rw [hr2] at HT0 ⊢
              clear hr2
              refine hK' _ _ HU0 ?_
              clear hK' K'
              try simp only [Act.put, List.setIfInBounds_toArray, List.set_cons_zero, List.set_cons_succ]
              refine wpAnyH_one (i := 8) (by kernel_rfl) rfl (fun K' hK' => ?_)
              refine step_store69 (by rfl) rfl (.tmp 13) (.tmp 81) rfl r2 rfl s0 zsec rfl hs0l.out zsec_length HT0.out ?_
              intro w8 hT2 hk8
              have HU8 : Hid (Below w6.heap.size w6 w8) := HU0.out.trans (hk8.below HU0.out.size (fun b hb e => by have := hr2'.out; omega))
              refine hK' _ _ HU8 ?_
              clear hK' K' hk8 HU0 HT0
              try simp only [Act.put, List.setIfInBounds_toArray, List.set_cons_zero, List.set_cons_succ]
              refine wpAnyH_done (by kernel_rfl) ?_ _
              have HT1 := Lib.hid hT2.out
              have HL8 : Hid (w8.heap[r1]? = some (.cells (entL e).toArray 66 (0, 0))) := (HU8.out.block r1 (Array.getElem?_eq_some_iff.1 hr6.out).1).trans hr6.out
              have HJ8 : Hid (w8.heap[q]? = some (.cells #[.slice A K.length c, .int .i64 torn, .int .i64 at_] 33 (0, 0))) := (HU8.out.block q (Array.getElem?_eq_some_iff.1 HJ6.out).1).trans HJ6.out
              have HD8a := Lib.hid (HD6.out.below HU8.out)
              have HK8a : Hid (Kept (fun b => b = m2) wo w8) := HR.out.2.trans ((Kept.of_below HB6'.out).trans (Kept.of_below HU8.out))
              have HB8 : Hid (Below q w w8) := HBw.out.trans ((HB6.out.mono (by rw [← hr1.out]; have := (Array.getElem?_eq_some_iff.1 HJr.out).1; omega)).trans (HU8.out.mono (by have := (Array.getElem?_eq_some_iff.1 HJ6.out).1; omega)))
              have k0 : w8.cell? ⟨q, 0, none⟩ = some (.slice A K.length c) := by rw [cell_of_row _ _ _ _ _ _ HJ8.out]; rfl
              have k1 : w8.cell? ⟨q, 1, none⟩ = some (.int .i64 torn) := by rw [cell_of_row _ _ _ _ _ _ HJ8.out]; rfl
              have k2 : w8.cell? ⟨q, 2, none⟩ = some (.int .i64 at_) := by rw [cell_of_row _ _ _ _ _ _ HJ8.out]; rfl
              have ke : w8.cell? ⟨r1, 0, none⟩ = some (.int .i64 e.1) := by rw [cell_of_row _ _ _ _ _ _ HL8.out]; rfl
              have hm2r : Hid (m2 < r2) := by have := HM6.out.1.lt; have := hr2'.out; show m2 < r2; omega
              have ha2r : Hid (a2 < r2) := by have := (HD6.out.foot a2 (.inl rfl)).2; have := hr2'.out; show a2 < r2; omega
              have hr1r : Hid (r1 < r2) := by have := (Array.getElem?_eq_some_iff.1 hr6.out).1; have := hr2'.out; show r1 < r2; omega
              have hqr : Hid (q < r1) := by have := (Array.getElem?_eq_some_iff.1 HJr.out).1; have := hr1.out; show q < r1; omega
              have hwr : Hid (wo.heap.size ≤ r1) := by have := HR.out.2.size; have := hr1.out; show wo.heap.size ≤ r1; omega
              clear hT2 x1 x2 x3 hS HR HM6 HD6 HU8 HB6 HB6' HJ6 hr6 hra HJr HBw
              by_cases hjk : j < K.length
              · have HBo : Hid (Bools w8 A K) := HK.out.below (by rw [HQ.out]; exact HB8.out)
                obtain ⟨ad, hA, hbc⟩ := HBo.out j hjk
                subst hA
                cases hKj : K[j]
                · rw [hKj] at hbc
                  have HT2 := HT1
                  have HD8 := HD8a
                  have HK8 := HK8a
                  have HE8 := Lib.hid ke
                  have HRs := Lib.hid hs0l.out
                  have e8 := (show _ = _ from HE8.out)
                  go_wp2_with ((first | with_reducible refine park_at (.load 64 _) ?_ | with_reducible refine park_at (.load 66 _) ?_ | with_reducible refine park_at (.store 64 _ _) ?_ | with_reducible refine park_at (.store 66 _ _) ?_ | with_reducible refine park_at (.alloc 64) ?_ | with_reducible refine park_at (.alloc 66) ?_ | with_reducible refine park_at (.box 64 _) ?_ | with_reducible refine park_at (.build 64 _) ?_ | with_reducible refine park_at (.build 66 _) ?_ | with_reducible refine park_at (.binOp _ 64 _ _ _) ?_ | with_reducible refine park_at (.lookup _ _ _ _) ?_ | with_reducible refine park_at (.mapUpdate _ _ _ _) ?_ | with_reducible refine park_at (.makeMap _ _) ?_ | with_reducible refine park_at (.range _ _) ?_ | with_reducible refine park_at (.next _ _) ?_ | with_reducible refine park_append ?_ | with_reducible refine park_copy ?_ | with_reducible refine park_delete ?_); intro pq9 hq9)
                  refine hq9.out ?_
                  clear hq9
                  refine wpList_load69 rfl _ rfl r2 0 rfl (s0) HRs.out (by have := World.rangeAt_of_block HT2.out 0 256; rw [Nat.zero_add, ← HRs.out, ← cells8_length (s0)] at this; simpa using this) ?_
                  have hset := settle_calls HD8.out e.1 (by have := HEr.out; omega) (by have := HEr.out; have := HSz.out; omega) (s0) HRs.out (by have := H.out.ok.bud; simp only [newD]; omega)
                  have HSet := Lib.hid hset
                  clear hset
                  obtain ⟨sv, hsv⟩ : ∃ sv, secV (s0) = sv := ⟨_, rfl⟩
                  rw [hsv] at HSet ⊢
                  clear hsv
                  go_wp2_with (go_at_call 27; refine HSet.out.mono ?_; rintro e9 w9 ⟨rfl, hD9, hk9⟩; have HD9 := Lib.hid hD9; have HK9 := Lib.hid hk9; clear hD9 hk9)
                  go_roundw
                  case rel =>
                    refine ⟨j + 1, by omega, by go_num, ?_, HK8.out.trans HK9.out⟩
                    have hD9 := HD9.out
                    rw [List.take_succ_eq_append_getElem hlt, loseF_snoc, HEe.out]
                    have hj0 : (d.wait.take j).length = j := by rw [List.length_take]; omega
                    rw [hj0, Nat.zero_add]
                    have hss : loseS K torn at_ d.wait.length j e.2 (loseF K torn at_ d.wait.length 0 (d.wait.take j) d.held e.1) = s0 := by rw [HS0.out]; unfold loseS; rw [if_neg (fun h => absurd h.1 (by assumption))]; simp [List.getD_eq_getElem?_getD, List.getElem?_eq_getElem hjk, hKj]
                    rw [hss]
                    exact hD9
                  case measure => simp [intOf]; omega
                · rw [hKj] at hbc
                  go_wp2_with ((first | with_reducible refine park_at (.load 64 _) ?_ | with_reducible refine park_at (.load 66 _) ?_ | with_reducible refine park_at (.store 64 _ _) ?_ | with_reducible refine park_at (.store 66 _ _) ?_ | with_reducible refine park_at (.alloc 64) ?_ | with_reducible refine park_at (.alloc 66) ?_ | with_reducible refine park_at (.box 64 _) ?_ | with_reducible refine park_at (.build 64 _) ?_ | with_reducible refine park_at (.build 66 _) ?_ | with_reducible refine park_at (.binOp _ 64 _ _ _) ?_ | with_reducible refine park_at (.lookup _ _ _ _) ?_ | with_reducible refine park_at (.mapUpdate _ _ _ _) ?_ | with_reducible refine park_at (.makeMap _ _) ?_ | with_reducible refine park_at (.range _ _) ?_ | with_reducible refine park_at (.next _ _) ?_ | with_reducible refine park_append ?_ | with_reducible refine park_copy ?_ | with_reducible refine park_delete ?_); intro pq7 hq7)
                  refine hq7.out ?_
                  clear hq7
                  refine wpList_load69 rfl _ rfl r1 1 rfl e.2 hel.out (rangeAt_tail (e := e) (by have := World.rangeAt_of_block HL8.out 0 257; rw [Nat.zero_add, ← entL_length e hel.out] at this; simpa using this)) ?_
                  obtain ⟨dv, hdv⟩ : ∃ dv, secV e.2 = dv := ⟨_, rfl⟩
                  have HDv := Lib.hid hdv
                  rw [hdv]
                  clear hdv
                  go_wp2_with ((first | with_reducible refine park_at (.load 64 _) ?_ | with_reducible refine park_at (.load 66 _) ?_ | with_reducible refine park_at (.store 64 _ _) ?_ | with_reducible refine park_at (.store 66 _ _) ?_ | with_reducible refine park_at (.alloc 64) ?_ | with_reducible refine park_at (.alloc 66) ?_ | with_reducible refine park_at (.box 64 _) ?_ | with_reducible refine park_at (.build 64 _) ?_ | with_reducible refine park_at (.build 66 _) ?_ | with_reducible refine park_at (.binOp _ 64 _ _ _) ?_ | with_reducible refine park_at (.lookup _ _ _ _) ?_ | with_reducible refine park_at (.mapUpdate _ _ _ _) ?_ | with_reducible refine park_at (.makeMap _ _) ?_ | with_reducible refine park_at (.range _ _) ?_ | with_reducible refine park_at (.next _ _) ?_ | with_reducible refine park_append ?_ | with_reducible refine park_copy ?_ | with_reducible refine park_delete ?_); intro pq7 hq7)
                  refine hq7.out ?_
                  clear hq7
                  refine wpList_store69 rfl _ _ rfl r2 rfl e.2 s0 HDv.out.symm hel.out hs0l.out HT1.out ?_
                  intro w10 HT2 hk10
                  have hb10 : Below r2 w8 w10 := hk10.below (Nat.le_of_lt (Array.getElem?_eq_some_iff.1 HT1.out).1) (fun b hb e => by omega)
                  have HD8 := Lib.hid (HD8a.out.kept (Kept.of_belowB hb10) (fun b hb e => by have h1 := ha2r.out; have h2 := hm2r.out; have e : r2 ≤ b := e; rcases hb with h | h | h <;> first | omega | cases h))
                  have HK8 := Lib.hid (Kept.thenBelow HK8a.out hb10 (by have := hwr.out; have := hr1r.out; omega))
                  have HE8 := Lib.hid ((hb10.cell hr1r.out).trans ke)
                  clear hk10 hb10
                  have HRs := Lib.hid hel.out
                  have e8 := (show _ = _ from HE8.out)
                  go_wp2_with ((first | with_reducible refine park_at (.load 64 _) ?_ | with_reducible refine park_at (.load 66 _) ?_ | with_reducible refine park_at (.store 64 _ _) ?_ | with_reducible refine park_at (.store 66 _ _) ?_ | with_reducible refine park_at (.alloc 64) ?_ | with_reducible refine park_at (.alloc 66) ?_ | with_reducible refine park_at (.box 64 _) ?_ | with_reducible refine park_at (.build 64 _) ?_ | with_reducible refine park_at (.build 66 _) ?_ | with_reducible refine park_at (.binOp _ 64 _ _ _) ?_ | with_reducible refine park_at (.lookup _ _ _ _) ?_ | with_reducible refine park_at (.mapUpdate _ _ _ _) ?_ | with_reducible refine park_at (.makeMap _ _) ?_ | with_reducible refine park_at (.range _ _) ?_ | with_reducible refine park_at (.next _ _) ?_ | with_reducible refine park_append ?_ | with_reducible refine park_copy ?_ | with_reducible refine park_delete ?_); intro pq9 hq9)
                  refine hq9.out ?_
                  clear hq9
                  refine wpList_load69 rfl _ rfl r2 0 rfl (e.2) HRs.out (by have := World.rangeAt_of_block HT2.out 0 256; rw [Nat.zero_add, ← HRs.out, ← cells8_length (e.2)] at this; simpa using this) ?_
                  have hset := settle_calls HD8.out e.1 (by have := HEr.out; omega) (by have := HEr.out; have := HSz.out; omega) (e.2) HRs.out (by have := H.out.ok.bud; simp only [newD]; omega)
                  have HSet := Lib.hid hset
                  clear hset
                  obtain ⟨sv, hsv⟩ : ∃ sv, secV (e.2) = sv := ⟨_, rfl⟩
                  rw [hsv] at HSet ⊢
                  clear hsv
                  go_wp2_with (go_at_call 27; refine HSet.out.mono ?_; rintro e9 w9 ⟨rfl, hD9, hk9⟩; have HD9 := Lib.hid hD9; have HK9 := Lib.hid hk9; clear hD9 hk9)
                  go_roundw
                  case rel =>
                    refine ⟨j + 1, by omega, by go_num, ?_, HK8.out.trans HK9.out⟩
                    have hD9 := HD9.out
                    rw [List.take_succ_eq_append_getElem hlt, loseF_snoc, HEe.out]
                    have hj0 : (d.wait.take j).length = j := by rw [List.length_take]; omega
                    rw [hj0, Nat.zero_add]
                    have hss : loseS K torn at_ d.wait.length j e.2 (loseF K torn at_ d.wait.length 0 (d.wait.take j) d.held e.1) = e.2 := by rw [HS0.out]; unfold loseS; rw [if_neg (fun h => absurd h.1 (by assumption))]; simp [List.getD_eq_getElem?_getD, List.getElem?_eq_getElem hjk, hKj]
                    rw [hss]
                    exact hD9
                  case measure => simp [intOf]; omega
              · have HT2 := HT1
                have HD8 := HD8a
                have HK8 := HK8a
                have HE8 := Lib.hid ke
                have HRs := Lib.hid hs0l.out
                have e8 := (show _ = _ from HE8.out)
                go_wp2_with ((first | with_reducible refine park_at (.load 64 _) ?_ | with_reducible refine park_at (.load 66 _) ?_ | with_reducible refine park_at (.store 64 _ _) ?_ | with_reducible refine park_at (.store 66 _ _) ?_ | with_reducible refine park_at (.alloc 64) ?_ | with_reducible refine park_at (.alloc 66) ?_ | with_reducible refine park_at (.box 64 _) ?_ | with_reducible refine park_at (.build 64 _) ?_ | with_reducible refine park_at (.build 66 _) ?_ | with_reducible refine park_at (.binOp _ 64 _ _ _) ?_ | with_reducible refine park_at (.lookup _ _ _ _) ?_ | with_reducible refine park_at (.mapUpdate _ _ _ _) ?_ | with_reducible refine park_at (.makeMap _ _) ?_ | with_reducible refine park_at (.range _ _) ?_ | with_reducible refine park_at (.next _ _) ?_ | with_reducible refine park_append ?_ | with_reducible refine park_copy ?_ | with_reducible refine park_delete ?_); intro pq9 hq9)
                refine hq9.out ?_
                clear hq9
                refine wpList_load69 rfl _ rfl r2 0 rfl (s0) HRs.out (by have := World.rangeAt_of_block HT2.out 0 256; rw [Nat.zero_add, ← HRs.out, ← cells8_length (s0)] at this; simpa using this) ?_
                have hset := settle_calls HD8.out e.1 (by have := HEr.out; omega) (by have := HEr.out; have := HSz.out; omega) (s0) HRs.out (by have := H.out.ok.bud; simp only [newD]; omega)
                have HSet := Lib.hid hset
                clear hset
                obtain ⟨sv, hsv⟩ : ∃ sv, secV (s0) = sv := ⟨_, rfl⟩
                rw [hsv] at HSet ⊢
                clear hsv
                go_wp2_with (go_at_call 27; refine HSet.out.mono ?_; rintro e9 w9 ⟨rfl, hD9, hk9⟩; have HD9 := Lib.hid hD9; have HK9 := Lib.hid hk9; clear hD9 hk9)
                go_roundw
                case rel =>
                  refine ⟨j + 1, by omega, by go_num, ?_, HK8.out.trans HK9.out⟩
                  have hD9 := HD9.out
                  rw [List.take_succ_eq_append_getElem hlt, loseF_snoc, HEe.out]
                  have hj0 : (d.wait.take j).length = j := by rw [List.length_take]; omega
                  rw [hj0, Nat.zero_add]
                  have hss : loseS K torn at_ d.wait.length j e.2 (loseF K torn at_ d.wait.length 0 (d.wait.take j) d.held e.1) = s0 := by rw [HS0.out]; unfold loseS; rw [if_neg (fun h => absurd h.1 (by assumption))]; simp [List.getD_eq_getElem?_getD, List.getElem?_eq_none (Nat.not_lt.1 hjk)]
                  rw [hss]
                  exact hD9
                case measure => simp [intOf]; omega
              -- END2
            · obtain rfl : j = d.wait.length := by omega
              go_wp2
              go_ret2
              have hR1 := HR.out.1
              rw [List.take_length] at hR1
              obtain ⟨n9, D9, hM9, hn9⟩ := hR1.map
              refine ⟨a2, m2, rfl, ⟨hR1.blk, ⟨n9, D9, hM9, ?_⟩, ⟨rfl, .inl ⟨rfl, rfl⟩⟩, ⟨by rw [HQ.out]; omega, by rw [HQ.out]; omega⟩, ⟨hR1.ok.hlen, by simp [DiskM.lose, newD], HSz.out, H.out.ok.bud, by simp [DiskM.lose, newD], by simp [DiskM.lose, newD]⟩⟩, ?_⟩
              · have : n9 + 0 ≤ k + d.wait.length := hn9
                show n9 + 0 ≤ d.bud
                omega
              · rw [HQ.out]
                exact HBr.out.trans (HR.out.2.below (by rw [← HQ.out]; exact HBr.out.size) (fun b hb e => by omega))
        · intro x v kl y w4 cnt' hkey hlk hv hat hrg4 hlt hgr4 hsz4 hent
          obtain ⟨x', hx1, rfl, hwf⟩ := Maps.keyOf_int_inv Try.underlying3 hkey
          obtain rfl : x = x' := by injection hx1
          have hxr : -9223372036854775808 ≤ x ∧ x ≤ 9223372036854775807 := by simpa [Lit.wf, IntKind.min, IntKind.max, IntKind.bits, IntKind.signed] using hwf
          have hvs : v = secV (d.held x) := by
            have h2 := HM0.out.2 x hxr.1 hxr.2
            rw [hat] at h2
            unfold RH at hv
            simp only [Option.some.injEq] at hv
            rw [← hv] at h2
            exact held_inj h2
          have HV := Lib.hid hvs
          have HRg4 := Lib.hid hrg4
          have HK4 : Hid (Kept (fun b => b = m2 ∨ b = it) w3 w4) := HR4.out.trans (Kept.of_grown hgr4 (fun k hk => by cases hk; exact .inr rfl))
          have HM4 : Hid (MAt w4 m2 k Dout (part_ d.held left)) := HR2.out.kept (Kept.of_grown (S := (· = it)) hgr4 (fun k hk => by cases hk; rfl)) (by omega)
          have HLt := Lib.hid hlt
          clear hvs hrg4 hgr4 HR1 HR2 HR4 hv hat hkey hlk hx1 hwf hstart hlt
          go_wp2_with ((first | with_reducible refine park_at (.load 64 _) ?_ | with_reducible refine park_at (.load 66 _) ?_ | with_reducible refine park_at (.store 64 _ _) ?_ | with_reducible refine park_at (.store 66 _ _) ?_ | with_reducible refine park_at (.alloc 64) ?_ | with_reducible refine park_at (.alloc 66) ?_ | with_reducible refine park_at (.box 64 _) ?_ | with_reducible refine park_at (.build 64 _) ?_ | with_reducible refine park_at (.build 66 _) ?_ | with_reducible refine park_at (.binOp _ 64 _ _ _) ?_ | with_reducible refine park_at (.lookup _ _ _ _) ?_ | with_reducible refine park_at (.mapUpdate _ _ _ _) ?_ | with_reducible refine park_at (.makeMap _ _) ?_ | with_reducible refine park_at (.range _ _) ?_ | with_reducible refine park_at (.next _ _) ?_ | with_reducible refine park_append ?_ | with_reducible refine park_copy ?_ | with_reducible refine park_delete ?_); intro pq5 hq5)
          refine hq5.out ?_
          clear hq5
          refine wpList_alloc69 rfl rfl ?_
          have HR5 : Hid ((w4.alloc (.cells (cells8 zsec).toArray 64)).heap[w4.heap.size]? = some (.cells (cells8 zsec).toArray 64 (0, 0))) := heap_alloc_new w4 _
          have HB5 : Hid (Below w4.heap.size w4 (w4.alloc (.cells (cells8 zsec).toArray 64))) := (Below.refl _ _).alloc (Nat.le_refl _) _
          generalize (w4.alloc (.cells (cells8 zsec).toArray 64)) = w5 at HR5 HB5 ⊢
          obtain ⟨r, hr⟩ : ∃ r, w4.heap.size = r := ⟨_, rfl⟩
          have hr := Lib.hid hr
          rw [hr.out] at HR5 HB5 ⊢
          go_wp2_with ((first | with_reducible refine park_at (.load 64 _) ?_ | with_reducible refine park_at (.load 66 _) ?_ | with_reducible refine park_at (.store 64 _ _) ?_ | with_reducible refine park_at (.store 66 _ _) ?_ | with_reducible refine park_at (.alloc 64) ?_ | with_reducible refine park_at (.alloc 66) ?_ | with_reducible refine park_at (.box 64 _) ?_ | with_reducible refine park_at (.build 64 _) ?_ | with_reducible refine park_at (.build 66 _) ?_ | with_reducible refine park_at (.binOp _ 64 _ _ _) ?_ | with_reducible refine park_at (.lookup _ _ _ _) ?_ | with_reducible refine park_at (.mapUpdate _ _ _ _) ?_ | with_reducible refine park_at (.makeMap _ _) ?_ | with_reducible refine park_at (.range _ _) ?_ | with_reducible refine park_at (.next _ _) ?_ | with_reducible refine park_append ?_ | with_reducible refine park_copy ?_ | with_reducible refine park_delete ?_); intro pq6 hq6)
          refine hq6.out ?_
          clear hq6
          have hlx := H.out.ok.hlen x
          have HLx := Lib.hid hlx
          refine wpList_store69 rfl _ _ rfl r rfl (d.held x) zsec HV.out hlx zsec_length HR5.out ?_
          intro w6 hr6 hk6
          have HK6 : Hid (Kept (fun _ => False) w4 w6) := Kept.of_below (by rw [hr.out]; exact HB5.out.trans (hk6.below (Nat.le_of_lt (Array.getElem?_eq_some_iff.1 HR5.out).1) (fun b hb e => by omega)))
          have hm2r : m2 ≠ r := by have := HM4.out.1.lt; rw [hr.out] at this; omega
          have HM6 : Hid (MAt w6 m2 k Dout (part_ d.held left)) := HM4.out.kept HK6.out (fun x => x)
          have HRg6 := Lib.hid (HRg4.out.kept (row := none) ⟨HK6.out.os, HK6.out.tape, HK6.out.output, HK6.out.size, fun i hi _ => HK6.out.block i hi (fun x => x)⟩ (by simp) (by simp))
          have HK6' : Hid (Kept (fun b => b = m2 ∨ b = it) w3 w6) := HK4.out.trans (HK6.out.mono (fun _ _ x => x.elim))
          have o6 : w6.cell? ⟨a2, 1, none⟩ = some (.map (some m2)) := (HK6'.out.cell (HO2.out.kept HG.out (fun _ _ x => x)).c1 (by show ¬ (a2 = m2 ∨ a2 = it); omega))
          clear hk6 HB5 HM4 HRg4 HK4 HK6 HR5 hent
          have hc1 : ∀ w', (w'.rangeAt r 0 (cells8 (d.held x)) ∧ Hid (Kept (· = m2) w6 w')) → w'.cell? ⟨a2, 1, none⟩ = some (.map (some m2)) := fun w' h => h.2.out.cell o6 (fun e => ham2 e.symm)
          have hra : w6.rangeAt r 0 (cells8 (d.held x)) := by
            have := World.rangeAt_of_block hr6.out 0 256; rw [Nat.zero_add, ← HLx.out, ← cells8_length (d.held x)] at this; simpa using this
          obtain ⟨w7, hmu, hM7, hk7⟩ := MAt.update_run (w := w6.drew) HM6.out (by have := HR3.out; have := HN0.out; have := H.out.ok.bud; unfold maxLen; omega) x hxr.1 hxr.2 (d.held x)
          have HM7 := Lib.hid hM7
          have hk8 : Kept (· = m2) w6 w7 := Kept.trans ((Kept.refl (· = m2) w6).drew) hk7
          have HK7 := Lib.hid hk8
          have hS7 : w7.rangeAt r 0 (cells8 (d.held x)) ∧ Hid (Kept (· = m2) w6 w7) := ⟨fun j v hv => hk8.cell (hra j v hv) (fun e => hm2r e.symm), hk8⟩
          unfold secV at hmu
          clear hM7 hk7 hk8 hlx
          have hu := under69
          have hsz : (Try.prog.info? 64).map (·.size) = some (cells8 (d.held x)).length := by rw [cells8_length, HLx.out]; exact size69
          go_wp2_with fail
          go_region_held (fun w' => w'.rangeAt r 0 (cells8 (d.held x)) ∧ Hid (Kept (· = m2) w6 w')) (first | exact ⟨hra, (Kept.refl _ _).drew⟩ | assumption) (fail)
          all_goals
            clear hc1 hra hmu hS7 hu hsz
            have HRg7 := Lib.hid (HRg6.out.kept (row := some m2) ⟨HK7.out.os, HK7.out.tape, HK7.out.output, HK7.out.size, fun i hi hne => HK7.out.block i hi (fun e => hne (by rw [e]))⟩ (by intro e; injection e with e; omega) (by intro e; injection e with e; omega))
            go_wp2
            go_roundw
            case rel => exact ⟨_, cnt', k + 1, _, HRg7.out, by have := HM7.out; rw [part_step] at this; exact this, by have := HR3.out; have := HLt.out; omega, HK6'.out.trans (HK7.out.mono (fun _ _ e => .inl e))⟩
            case measure => rw [HRg7.out.left_eq, hleft.out]; exact HLt.out
end Go.Proofs.Ytehigfpdeoebdaa.Dsk
