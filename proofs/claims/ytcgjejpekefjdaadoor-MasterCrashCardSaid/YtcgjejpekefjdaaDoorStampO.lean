/- The walk of stamp.Open. -/
import Derived.Test.YtcgjejpekefjdaaDoorStampW
import Derived.Deep.RegionHeld3
import Derived.Deep.QuietTactic
import Derived.BigQuiet
set_option linter.unusedSimpArgs false
set_option linter.unusedVariables false
namespace Go.Proofs.YtcgjejpekefjdaaDoor
open Go.RowKit Go.Proofs.YtcgjejpekefjdaaDoor.Crc
theorem results_tmp4 {fn : Func} {t u v x : Tmp} (h : fn.results = #[.tmp t, .tmp u, .tmp v, .tmp x]) (tmps : Array Value) (P : Program) (w : World) :
    (results fn tmps).run P w = .ok (.tuple #[tmps.getD t undef, tmps.getD u undef, tmps.getD v undef, tmps.getD x undef]) w := by
  simp [results, h]
def openS (l : List UInt8) : Nat × UInt8 × List UInt8 × Int :=
  if ¬ l.length = 256 then (0, 0, [], 21)
  else if zeroB (l.take 8) = true then (0, 0, [], 40)
  else if (l.take 8 == l.drop 248) = false then (0, 0, [], 23)
  else if ¬ (openB (l.take 248)).2 = 0 then (0, 0, [], (openB (l.take 248)).2)
  else if at8 l 8 = 0 ∨ 233 < (at8 l 9).toNat ∨ zeroB ((l.take 244).drop (10 + (at8 l 9).toNat)) = false then (0, 0, [], 22)
  else (natB (l.take 8), at8 l 8, ((l.take 244).drop 10).take (at8 l 9).toNat, 0)
/-- What Open tells. -/
def RetO (w0 : World) (r : Nat × UInt8 × List UInt8 × Int) (e : Ending) (w' : World) : Prop :=
  ∃ A c, e = .returned (.tuple #[.int .u64 (r.1 : Int), .int .u8 (r.2.1.toNat : Int), .slice A r.2.2.1.length c, .int .i64 r.2.2.2]) ∧ OwnB w' w0.heap.size (.slice A r.2.2.1.length c) r.2.2.1 ∧ Below w0.heap.size w0 w'
theorem RetO.no {w0 w' : World} {n : Int} (hb : Below w0.heap.size w0 w') : RetO w0 (0, 0, [], n) (.returned (.tuple #[.int .u64 0, .int .u8 0, .slice none 0 0, .int .i64 n])) w' :=
  ⟨none, 0, rfl, World.ownsRow_nil _ _ _ _, hb⟩
theorem run_append_bytes (w : World) (base : Nat) (A : Option Addr) (m c : Nat) (l' : List UInt8) (hm : m = l'.length) (hnil : A = none → c = 0) (hb : Bytes w A l') (hbytes : l'.length ≤ 140737488355328) (hbase : base ≤ w.heap.size) :
    ∃ v' w', (Builtin.append_ #[59, 59] 59 #[.slice none 0 0, .slice A m c]).run Tryd.prog w = .ok v' w' ∧ OwnB w' base v' l' ∧ w.grownBy w' none := by
  obtain ⟨i, hi, hz0, hz1, hz2⟩ := info_parts info8
  subst hm
  have hown : w.ownsRow base 5 1 (.slice none 0 0) 0 [] := World.ownsRow_nil _ _ _ _
  cases A with
  | none =>
    have hl : l' = [] := hb.none
    subst hl
    have hc := hnil rfl
    subst hc
    exact ⟨_, _, run_append_owned_none (P := Tryd.prog) w base 59 59 5 i 1 Tryd.underlying59 hi (.slice none 0 0) 0 [] hown, hown, World.grownBy.refl _ _⟩
  | some ad =>
    obtain ⟨v', w', hr, h2, h3, _⟩ := run_append_own_at (P := Tryd.prog) w base 59 59 5 i (.int .u8 0) 1 1 Tryd.underlying59 hi hz0 hz1 hz2 rfl (by decide) (.slice none 0 0) 0 [] hown ad l'.length c (cells8 l') (by rw [cells8_length, Nat.mul_one]) (fun j u hj => by
      have hlt : j < l'.length := by have := (List.getElem?_eq_some_iff.1 hj).1; rwa [cells8_length] at this
      obtain ⟨ad', hA, hc⟩ := hb j hlt
      cases hA
      rw [cells8_get l' j hlt] at hj
      rw [hc, hj]) (cells8_one l') (by unfold maxLen; omega) (by omega) hbase
    refine ⟨v', w', hr, ?_, h3⟩
    unfold OwnB
    rw [Nat.zero_add, List.nil_append] at h2
    exact h2
theorem step_appendTo {P : Program} {ops : Array Oper} {o : Oper} {a : Act} {w : World} {K : Act → World → Prop} {Q : Exit → Act → World → Prop} {E : Prop} (hgd : o.guard = none) (t ty : TypeId) (s x : Operand)
    (ho : o.op = .call { callee := .builtin .append, args := #[s, x], argTypes := #[t, t] }) (hty : o.type = ty) (p q v : Value) (w' : World) (hs : a.eval s = p) (hx : a.eval x = q)
    (hrun : (Builtin.append_ #[t, t] ty #[p, q]).run P w = .ok v w') (hK : K (a.put o.dst v) w') : if Region.wanted o (yielded ops a.tmps) = true then Oper.wp P o a w K Q else E := by
  have hw : Region.wanted o (yielded ops a.tmps) = true := by simp [Region.wanted, hgd]
  rw [if_pos hw]
  unfold Oper.wp execOp
  simp only [ho, resolve, invoke, builtin, hty, Sem.run_bind, Sem.run_pure, Result.andThen_ok, List.map_toArray, List.map_cons, List.map_nil, hs, hx, hrun]
  exact hK
theorem openB_ok2 (l : List UInt8) (h : (openB l).2 = 0) : 4 ≤ l.length ∧ (openB l).1 = l.take (l.length - 4) := by
  unfold openB at h ⊢
  by_cases h4 : l.length < 4
  · rw [if_pos h4] at h; exact absurd h (by decide)
  · rw [if_neg h4] at h ⊢
    by_cases e : l.drop (l.length - 4) = le4 (crc (l.take (l.length - 4)))
    · rw [if_pos e]; exact ⟨by omega, rfl⟩
    · rw [if_neg e] at h; exact absurd h (by decide)
set_option maxRecDepth 100000 in
set_option maxHeartbeats 1000000 in
theorem Open7_calls (A : Option Addr) (n c : Nat) (l : List UInt8) (w : World) (hh : HalfIs w) (hn : n = l.length) (hb : Bytes w A l) (hc : n ≤ c) (hm : c ≤ 9223372036854775807) :
    Calls Tryd.prog 56 #[.slice A n c] w (RetO w (openS l)) := by
  by_cases h256 : l.length = 256
  · obtain ⟨b, o, rfl⟩ := hb.spot (by omega)
    have hn' : n = 256 := by omega
    subst hn'
    have HH := Lib.hid hh
    have HB := Lib.hid hb
    have HL := Lib.hid h256
    have h8 : 8 = (l.take 8).length := by rw [List.length_take, h256]; rfl
    have HZ := Lib.hid (zero_calls (some ⟨b, o, none⟩) 8 c (l.take 8) w h8 (hb.take 8) (by omega) (by omega))
    have H8 := Lib.hid h8
    clear hh hb hn h8
    cases hz : zeroB (l.take 8)
    · rw [hz] at HZ
      have hq := (equal_calls (some ⟨b, o, none⟩) 8 c (l.take 8) (some ⟨b, o + 248, none⟩) 8 (c - 248) (l.drop 248))
      have HE := Lib.hid (fun (w' : World) (h : Bytes w' (some ⟨b, o, none⟩) (l.take 8)) (h2 : Bytes w' (some ⟨b, o + 248, none⟩) (l.drop 248)) => hq w' H8.out h (by rw [List.length_drop, HL.out]) h2)
      have HBd := Lib.hid (HB.out.drop 248)
      have HBt := Lib.hid (HB.out.take 8)
      cases he : (l.take 8 == l.drop 248)
      · have e : openS l = (0, 0, [], 23) := by unfold openS; rw [if_neg (by simpa using h256), if_neg (by rw [hz]; decide), if_pos he]
        rw [e]
        rw [he] at HE
        clear e hz he h256 hq
        have hcc : ¬ c = 248 := by omega
        go_enter Tryd.func56, Tryd.ntmps56
        go_wp2_with (go_at_call 69; refine HZ.out.mono ?_; rintro e w' ⟨rfl, rfl⟩)
        go_quiet ((go_at_call 70; exact Calls.quiet_of_same ((HE.out _ (by exact HBt.out) (by exact HBd.out)).mono fun e w' h => ⟨h.1, h.2.symm⟩)))
        go_wp2_with fail
        refine bodyPost_ret (results_tmp4 rfl _ _ _) rfl ?_
        exact RetO.no (below_drewN _ _)
      · rw [he] at HE
        have hcc : ¬ c = 248 := by omega
        have h0 : openS l = if ¬ (openB (l.take 248)).2 = 0 then (0, 0, [], (openB (l.take 248)).2)
            else if at8 l 8 = 0 ∨ 233 < (at8 l 9).toNat ∨ zeroB ((l.take 244).drop (10 + (at8 l 9).toNat)) = false then (0, 0, [], 22)
            else (natB (l.take 8), at8 l 8, ((l.take 244).drop 10).take (at8 l 9).toNat, 0) := by
          unfold openS; rw [if_neg (by simpa using h256), if_neg (by rw [hz]; decide), if_neg (by rw [he]; decide)]
        have HO := Lib.hid h0
        clear h0 hz he h256 hq
        go_enter Tryd.func56, Tryd.ntmps56
        go_wp2_with (go_at_call 69; refine HZ.out.mono ?_; rintro e w' ⟨rfl, rfl⟩)
        go_quiet ((go_at_call 70; exact Calls.quiet_of_same ((HE.out _ (by exact HBt.out) (by exact HBd.out)).mono fun e w' h => ⟨h.1, h.2.symm⟩)))
        have HQ1 : Hid (Below w.heap.size w (w.drewN nq)) := below_drewN _ _
        have HB1 := Lib.hid (HB.out.below HQ1.out)
        have HH1 := Lib.hid (HH.out.below HQ1.out)
        clear HZ HE HBd HBt HB HH
        generalize w.drewN nq = w1 at HQ1 HB1 HH1 ⊢
        have hop := Open_calls (some ⟨b, o, none⟩) c (l.take 248) w1 HH1.out (HB1.out.take 248) (fun h => by cases h) (by rw [List.length_take, HL.out]; omega) (by rw [List.length_take, HL.out]; decide)
        rw [show (l.take 248).length = 248 by rw [List.length_take, HL.out]; rfl] at hop
        have HOp := Lib.hid hop
        clear hop
        go_wp2_with (go_at_call 71; refine HOp.out.mono ?_; rintro e w2 ⟨A6, c6, rfl, hO6, hb2⟩; refine park ?_; intro q hq)
        have HQ2 := Lib.hid (HQ1.out.trans (hb2.mono HQ1.out.size))
        have HB2 := Lib.hid (HB1.out.below hb2)
        have HO6 := Lib.hid hO6
        clear hO6 hb2 HOp HB1 HH1
        refine hq.out ?_
        clear hq
        obtain ⟨er, her⟩ : ∃ er, (openB (l.take 248)).2 = er := ⟨_, rfl⟩
        by_cases h0 : er = 0
        · subst h0
          obtain ⟨_, hin⟩ := openB_ok2 _ her
          rw [List.take_take, List.length_take, HL.out, show min (min 248 256 - 4) 248 = 244 from rfl] at hin
          rw [hin] at HO6 ⊢
          rw [her]
          have hO : openS l = if at8 l 8 = 0 ∨ 233 < (at8 l 9).toNat ∨ zeroB ((l.take 244).drop (10 + (at8 l 9).toNat)) = false then (0, 0, [], 22)
            else (natB (l.take 8), at8 l 8, ((l.take 244).drop 10).take (at8 l 9).toNat, 0) := by rw [HO.out, if_neg (by rw [her]; decide)]
          clear HO her hin
          have HO := Lib.hid hO
          clear hO
          have hl2 : (l.take 244).length = 244 := by rw [List.length_take, HL.out]; rfl
          rw [hl2]
          rw [hl2] at HO6
          have HL2 := Lib.hid hl2
          obtain ⟨g6, hg6, hg6b⟩ : ∃ g, A6 = some ⟨g, 0, none⟩ ∧ 244 ≤ c6 := by
            rcases HO6.out.form with ⟨h, h2⟩ | ⟨g, c', h, _, _, h4⟩
            · rw [h2] at hl2; simp at hl2
            · injection h with h1 h2 h3; rw [hl2] at h4; subst h3; exact ⟨g, h1, h4⟩
          subst hg6
          have x8 := (HO6.out.cells 8 (by rw [hl2]; decide)).1
          have x9 := (HO6.out.cells 9 (by rw [hl2]; decide)).1
          rw [at8_take l 244 8 (by decide)] at x8
          rw [at8_take l 244 9 (by decide)] at x9
          obtain ⟨u1, u2⟩ := ltu8 (at8 l 8)
          obtain ⟨u3, u4⟩ := ltu8 (at8 l 9)
          clear hl2
          by_cases h8 : at8 l 8 = 0
          · have e8 : (((at8 l 8).toNat : Int) == 0) = true := by rw [h8]; rfl
            have e : openS l = (0, 0, [], 22) := by rw [HO.out, if_pos (.inl h8)]
            have E := Lib.hid e
            clear e h8 HO
            go_wp2_with fail
            refine bodyPost_ret (results_tmp4 rfl _ _ _) rfl ?_
            rw [E.out]
            exact RetO.no HQ2.out
          · have e8 : (((at8 l 8).toNat : Int) == 0) = false := by
              rw [beq_eq_false_iff_ne]; intro h; exact h8 (UInt8.toNat_inj.1 (by simpa using h))
            by_cases h9 : 233 < (at8 l 9).toNat
            · have e9 : decide (((at8 l 9).toNat : Int) > 233) = true := by simp; omega
              have e : openS l = (0, 0, [], 22) := by rw [HO.out, if_pos (.inr (.inl h9))]
              have E := Lib.hid e
              clear e h8 HO
              go_wp2_with fail
              refine bodyPost_ret (results_tmp4 rfl _ _ _) rfl ?_
              rw [E.out]
              exact RetO.no HQ2.out
            · have e9 : decide (((at8 l 9).toNat : Int) > 233) = false := by simp; omega
              obtain ⟨m, hm9⟩ : ∃ m, (at8 l 9).toNat = m := ⟨_, rfl⟩
              rw [hm9] at x9 e9 u3 u4 h9 HO
              have HM9 := Lib.hid hm9
              clear hm9
              have hz9 := zero_calls (some ⟨g6, 10 + m, none⟩) (244 - (10 + m)) (c6 - (10 + m)) ((l.take 244).drop (10 + m)) w2 (by rw [List.length_drop, HL2.out]) (by have := HO6.out.bytes.drop (10 + m); rw [Nat.zero_add] at this; exact this) (by omega) (by
                rcases HO6.out.2 with ⟨h, _⟩ | ⟨g, cap, cur, h, _, _, _, h5, _⟩
                · cases h
                · injection h with h1 h2 h3; subst h3; unfold maxLen at h5; omega)
              have hc6m : ¬ c6 = 10 + m := by omega
              cases hzb : zeroB ((l.take 244).drop (10 + m))
              · rw [hzb] at hz9
                have HZ9 := Lib.hid hz9
                have e : openS l = (0, 0, [], 22) := by rw [HO.out, if_pos (.inr (.inr hzb))]
                have E := Lib.hid e
                clear e h8 HO hz9 hzb
                go_wp2_with (go_at_call 69; refine HZ9.out.mono ?_; rintro e w' ⟨rfl, rfl⟩)
                refine bodyPost_ret (results_tmp4 rfl _ _ _) rfl ?_
                rw [E.out]
                exact RetO.no HQ2.out
              · rw [hzb] at hz9
                have HZ9 := Lib.hid hz9
                have e : openS l = (natB (l.take 8), at8 l 8, ((l.take 244).drop 10).take m, 0) := by
                  rw [HO.out, if_neg]
                  rintro (h | h | h)
                  · exact h8 h
                  · exact h9 h
                  · rw [hzb] at h; cases h
                have E := Lib.hid e
                clear e h8 HO hz9 hzb
                have HRd := Lib.hid (Read_calls (some ⟨b, o, none⟩) 8 c (l.take 8) w2 H8.out (HB2.out.take 8) (fun ad h => by
                  cases h
                  obtain ⟨ad', e, hx⟩ := HB2.out 0 (by rw [HL.out]; decide)
                  cases e
                  exact World.block_lt_of_cell? w2 _ hx) (by omega) (by omega))
                go_wp2_with (first | (go_at_call 69; refine HZ9.out.mono ?_; rintro e w' ⟨rfl, rfl⟩) | (go_at_call 57; refine HRd.out.mono ?_; rintro e w3 ⟨rfl, hr3, hb3⟩; refine park ?_; intro q hq))
                have HFx := Lib.hid (Fixed_calls hr3 8 (by rw [← H8.out]; exact Nat.le_refl _) (Nat.le_refl _))
                have HQ3 := Lib.hid (HQ2.out.trans (hb3.mono HQ2.out.size))
                have HO7 := Lib.hid (HO6.out.below hb3)
                have hw2 := Lib.hid hb3.size
                have hg6l := Lib.hid (HO6.out.lt g6 rfl)
                clear hr3 hb3 HRd HZ9 x8 x9 HO6 HB2
                refine hq.out ?_
                clear hq
                go_wp2_with (go_at_call 72; refine HFx.out.mono ?_; rintro e w4 ⟨rfl, hr4, hk4⟩; refine park ?_; intro q hq)
                have HQ4 : Hid (Below w.heap.size w w4) := HQ3.out.trans (hk4.below HQ3.out.size (fun k hk e => by have := hg6l.out.2; have := HQ2.out.size; omega))
                have HO8 := Lib.hid (HO7.out.kept hk4 (fun k hk e => by have h2 := hg6l.out.2; have h3 : g6 = k := Option.some.inj hk; omega))
                clear hr4 hk4 HFx HO7 HQ3
                refine hq.out ?_
                clear hq
                have x8 := (HO8.out.cells 8 (by rw [HL2.out]; decide)).1
                rw [at8_take l 244 8 (by decide)] at x8
                have hbd : Bytes w4 (some ⟨g6, 10, none⟩) (((l.take 244).drop 10).take m) := by
                  have := (HO8.out.bytes.drop 10).take m
                  rw [Nat.zero_add] at this
                  exact this
                obtain ⟨v9, w9, hrun, hown, hgr⟩ := run_append_bytes w4.drew w.heap.size (some ⟨g6, 10, none⟩) m (c6 - 10) (((l.take 244).drop 10).take m) (by rw [List.length_take, List.length_drop, HL2.out]; omega) (fun h => by cases h) hbd (by rw [List.length_take]; omega) HQ4.out.size
                have HOw := Lib.hid hown
                have HGr := Lib.hid hgr
                have x8b : w9.cell? ⟨g6, 8, none⟩ = some (.int .u8 ((at8 l 8).toNat : Int)) := by
                  have hk : Kept (fun _ => False) w4 w9 := (Kept.refl _ w4).drew.trans (Kept.of_grown hgr (fun k hk => by cases hk))
                  exact hk.cell x8 (fun x => x)
                clear hown hgr hbd
                have i1 : IntKind.i64.wrap (10 + (m : Int)) = 10 + (m : Int) := IntWalk.i64_in _ (by omega)
                have i2 : (10 : Int) ≤ 10 + (m : Int) := by omega
                have i3 : 10 + (m : Int) ≤ (c6 : Int) := by omega
                have i4 : (10 + (m : Int)).toNat = 10 + m := by omega
                have i5 : 10 + m - 10 = m := by omega
                have i6 : ¬ c6 = 10 := by omega
                go_wp2_with fail
                have HRun := Lib.hid hrun
                clear hrun
                go_region_held3 (fun w' => w'.cell? ⟨g6, 8, none⟩ = some (.int .u8 ((at8 l 8).toNat : Int))) (first | assumption) ((refine step_appendTo (by rfl) 59 59 (.const (.slice none 0 0)) (.tmp 63) (by rfl) (by rfl) (.slice none 0 0) (.slice (some ⟨g6, 10, none⟩) m (c6 - 10)) v9 w9 (by rfl) (by rfl) HRun.out ?_))
                all_goals
                  go_wp2_with fail
                  refine bodyPost_ret (results_tmp4 rfl _ _ _) rfl ?_
                  rw [E.out]
                  have hlen : (((l.take 244).drop 10).take m).length = m := by rw [List.length_take, List.length_drop, HL2.out]; omega
                  have hB9 : Below w.heap.size w w9 := (HQ4.out.drew).grown HGr.out HQ4.out.size (fun k hk => by cases hk)
                  rcases HOw.out.form with ⟨h1, h2⟩ | ⟨g9, c9, h1, _⟩
                  · subst h1
                    refine ⟨none, 0, ?_, ?_, hB9⟩
                    · rw [h2]; simp [List.take_take]
                    · have := HOw.out; rw [h2] at this ⊢; exact this
                  · subst h1
                    exact ⟨some ⟨g9, 0, none⟩, c9, by simp [List.take_take], HOw.out, hB9⟩
        · have e1 : (er != 0) = true := by simpa using h0
          have e : openS l = (0, 0, [], er) := by rw [HO.out, if_pos (by rw [her]; exact h0), her]
          have E := Lib.hid e
          rw [her]
          clear e h0 HO
          have her' := Lib.hid her
          clear her
          go_wp2_with fail
          refine bodyPost_ret (results_tmp4 rfl _ _ _) rfl ?_
          rw [E.out]
          exact RetO.no HQ2.out
    · have e : openS l = (0, 0, [], 40) := by unfold openS; rw [if_neg (by simpa using h256), if_pos hz]
      rw [e]
      rw [hz] at HZ
      clear e hz h256
      go_enter Tryd.func56, Tryd.ntmps56
      go_wp2_with (go_at_call 69; refine HZ.out.mono ?_; rintro e w' ⟨rfl, rfl⟩)
      refine bodyPost_ret (results_tmp4 rfl _ _ _) rfl ?_
      exact RetO.no (Below.refl _ _)
  · have e : openS l = (0, 0, [], 21) := by unfold openS; rw [if_pos h256]
    rw [e]
    have h2 : ((n : Int) != 256) = true := by simp; omega
    clear e hh hb hn
    go_enter Tryd.func56, Tryd.ntmps56
    go_wp2_with fail
    refine bodyPost_ret (results_tmp4 rfl _ _ _) rfl ?_
    exact RetO.no (Below.refl _ _)
end Go.Proofs.YtcgjejpekefjdaaDoor
