/- Texts of one proof, joined: TOR, TOT. -/
import Derived.Test.YtgjlchcfdbmmlaaDoorROqg
import Derived.Deep.Slices
set_option linter.unusedSimpArgs false
set_option linter.unusedVariables false
/- object.commitOf walked. -/
namespace Go.Proofs.YtgjlchcfdbmmlaaDoor.PObjectTakes
open Go.RowKit Go.Proofs.YtgjlchcfdbmmlaaDoor.Ord Go.Proofs.YtgjlchcfdbmmlaaDoor.Obj Go.Proofs.YtgjlchcfdbmmlaaDoorW.PrintWords Go.Proofs.YtgjlchcfdbmmlaaDoorW.PrintLast Go.Proofs.YtgjlchcfdbmmlaaDoorW.PrintMore
set_option linter.unusedVariables false
set_option linter.unusedSimpArgs false
attribute [local irreducible] OpGives

def strsD : List S42 → Option (List ByteArray)
  | [] => some []
  | x :: xs => if x.f0 = 2 then (strsD xs).map (x.f2 :: ·) else none
theorem strsD_step {l : List S42} {i : Nat} {x : S42} (h : l[i]? = some x) : strsD (l.drop i) = if x.f0 = 2 then (strsD (l.drop (i + 1))).map (x.f2 :: ·) else none := by
  obtain ⟨hi, hx⟩ := List.getElem?_eq_some_iff.1 h
  rw [List.drop_eq_getElem_cons hi, strsD, hx]
theorem infoStr : (Tryd.prog.info? 9).map (fun i => (i.zero, i.size, i.bytes)) = some (some (.string (⟨#[]⟩ : ByteArray)), 1, 16) := by kernel_rfl
theorem append_str {W : World} {b0 : Nat} {v : Value} {acc : List ByteArray} {x : ByteArray} {g : Nat} (hR : rS W b0 v acc) (hb0 : b0 ≤ W.heap.size)
    (hg : W.heap[g]? = some (.cells #[.string x] 9 (0, 0))) (hn : acc.length ≤ 1000000) (ty : TypeId) :
    ∃ v' W', (Builtin.append_ #[25, 25] ty #[v, .slice (some ⟨g, 0, none⟩) 1 1]).run Tryd.prog W = .ok v' W' ∧ W.grownBy W' v.ownBlock ∧ rS W' b0 v' (acc ++ [x]) := by
  obtain ⟨i0, hi0, hz0, hz1, hz2⟩ := info_parts infoStr
  have hgs := (Array.getElem?_eq_some_iff.1 hg).1
  obtain ⟨h0, inner, hown, hreps⟩ := hR
  have hbn : (acc.length + 1) * 16 ≤ 1000001 * 16 := Nat.mul_le_mul (by omega) (Nat.le_refl _)
  obtain ⟨h, cap, W', hr, hown', hgr, hat, _⟩ := run_append_lies (P := Tryd.prog) W 25 ty b0 9 i0 _ 1 16 Tryd.underlying25 hi0 hz0 hz1 hz2 (by rfl) (by decide) v acc.length _ hown ⟨g, 0, none⟩ 1 1 [.string x]
    (by rfl) (World.news_of_block (cs := #[.string x]) hg) (by
      intro u hu
      rw [List.mem_singleton.1 hu]; rfl) (by decide) (by unfold maxLen; omega) (by omega) hb0 W.heap.size rfl
  have hm3 : Kd.M Kd.string W b0 (fun _ => False) x [.string x] := by unfold Kd.string Kd.scalar; first | rfl | exact rfl
  have hres := Kd.R_appended (d := Kd.string) (e := 9) (base := b0) (ok := fun _ => True) (W := W) (w1 := W') (v := v) (v1 := .slice (some ⟨h, 0, none⟩) (acc.length + 1) cap) h0 hreps hm3 (fun k hk => hk.elim) (fun k hk => trivial) hown' hgr
    (hat.elim (fun e => .inl (by rw [e]; rfl)) (fun e => .inr ⟨h, rfl, by omega⟩))
  exact ⟨_, W', hr, hgr, hres⟩
def commitD (a b c d : S42) : Option Ob :=
  if isL a = true ∧ b.f0 = 1 ∧ c.f0 = 2 ∧ d.f0 = 2 then (strsD a.f3).map (fun ps => ⟨2, ⟨#[]⟩, [], [], ps, b.f1, c.f2, d.f2⟩) else none
theorem ob_results2 : (Tryd.f42).results = #[.cell 2 27, .tmp 3] := Tryd.results42
/-- What holds between the rounds: the object's box g, its parents' row. -/
structure CommIn (w2 : World) (g : Nat) (st : Int) (nt rt : ByteArray) (v : Value) (acc : List ByteArray) (W : World) : Prop where
  below : Below w2.heap.size w2 W
  ge : w2.heap.size ≤ g
  blk : W.heap[g]? = some (.cells #[.int .i64 2, .string (⟨#[]⟩ : ByteArray), .slice none 0 0, .slice none 0 0, v, .int .i64 st, .string nt, .string rt] 27 (0, 0))
  row : rS W (g + 1) v acc
theorem CommIn.later {w2 W W' : World} {g : Nat} {st : Int} {nt rt : ByteArray} {v : Value} {acc : List ByteArray} (h : CommIn w2 g st nt rt v acc W) (hb : Below W.heap.size W W') : CommIn w2 g st nt rt v acc W' :=
  ⟨h.below.trans (hb.mono h.below.size), h.ge, (hb.block g (Array.getElem?_eq_some_iff.1 h.blk).1).trans h.blk, Kd.R_below h.row hb⟩
theorem CommIn.step {w2 W W' : World} {g : Nat} {st : Int} {nt rt : ByteArray} {v v' : Value} {acc acc' : List ByteArray} (h : CommIn w2 g st nt rt v acc W) (hg : W.grownBy W' v.ownBlock) (hr : rS W' (g + 1) v' acc') :
    CommIn w2 g st nt rt v' acc' (W'.setCell ⟨g, 4, none⟩ v') := by
  obtain ⟨_, inner, hown, _⟩ := h.row
  have hgl := (Array.getElem?_eq_some_iff.1 h.blk).1
  have hne : ∀ k, k < g + 1 → some k ≠ v.ownBlock := fun k hk e => by have := own_base hown k e.symm; omega
  have hblk := (hg.block g hgl (hne g (by omega))).trans h.blk
  have hs := h.below.size
  have hb : Below w2.heap.size w2 W' := ⟨hg.os.trans h.below.os, hg.tape.trans h.below.tape, hg.output.trans h.below.output, Nat.le_trans hs hg.size, fun k hk => (hg.block k (by omega) (hne k (by have := h.ge; omega))).trans (h.below.block k hk)⟩
  refine ⟨⟨hb.os, hb.tape, hb.output, by rw [sc_size]; exact hb.size, fun k hk => (set_far _ _ _ _ _ (by have := h.ge; omega)).trans (hb.block k hk)⟩, h.ge, blk_put (cs' := #[.int .i64 2, .string (⟨#[]⟩ : ByteArray), .slice none 0 0, .slice none 0 0, v', .int .i64 st, .string nt, .string rt]) hblk 4 v' rfl, ?_⟩
  exact Kd.R_mono (Kd.R_step (Kd.R_bound hr) (fun k hk _ => set_far _ _ _ _ _ (by have := hk.2.1; omega))) (fun _ _ => trivial)
set_option maxHeartbeats 16000000 in
set_option maxRecDepth 100000 in
theorem commitOf_calls (a b x2 d : S42) (A : Option Addr) (c : Nat) (w : World) (hA : kA.C w A 4 [a, b, x2, d]) (hal : a.f3.length ≤ 1000000) :
    Calls Tryd.prog 42 #[.slice A 4 c] w (ObPost (commitD a b x2 d) w) := by
  obtain ⟨ad, u0, rfl, c0, k0, hb0⟩ := any_at (l := [a, b, x2, d]) hA (i := 0) (x := a) rfl
  obtain ⟨ad1, u1, e1, c1, k1, hb1⟩ := any_at (l := [a, b, x2, d]) hA (i := 1) (x := b) rfl
  obtain ⟨ad2, u2, e2, c2, k2, hb2⟩ := any_at (l := [a, b, x2, d]) hA (i := 2) (x := x2) rfl
  obtain ⟨ad3, u3, e3, c3, k3, hb3⟩ := any_at (l := [a, b, x2, d]) hA (i := 3) (x := d) rfl
  cases e1; cases e2; cases e3
  rw [show ad.add 0 = ad from by simp [Addr.add]] at c0 hb0
  have c1 := three_at 1 (by decide) c1
  have c2 := three_at 2 (by decide) c2
  have c3 := three_at 3 (by decide) c3
  obtain ⟨A2, n2, p2, ta0, hl2⟩ := any_list k0
  obtain ⟨n1, ta1, hn1'⟩ := any_int k1
  obtain ⟨s2, ta2, hs2'⟩ := any_str k2
  obtain ⟨s3, ta3, hs3'⟩ := any_str k3
  obtain ⟨W2, hW2⟩ : ∃ W2, W2 = w.alloc (.cells obZ 27) := ⟨_, rfl⟩
  have hbw : Below w.heap.size w W2 := by rw [hW2]; exact (Below.refl _ _).alloc (Nat.le_refl _) _
  have hg2 : W2.heap[w.heap.size]? = some (.cells obZ 27 (0, 0)) := by rw [hW2]; exact alloc_lastV _ _
  have hs12 : w.heap.size < W2.heap.size := (Array.getElem?_eq_some_iff.1 hg2).1
  unfold obZ at hg2 hW2
  have HG2 := Lib.hid hg2
  have HBW := Lib.hid hbw
  have HS12 := Lib.hid hs12
  have HW2 := Lib.hid hW2
  have HL2 := Lib.hid hl2
  have HVAL := Lib.hid (And.intro hn1' (And.intro hs2' hs3'))
  obtain ⟨RP, hRP⟩ : ∃ RP : Ending → World → Prop, RP = ObPost (commitD a b x2 d) w := ⟨_, rfl⟩
  rw [← hRP]
  unfold commitD at hRP
  have HRP := Lib.hid hRP
  clear hA hl2 hbw hg2 hs12 hW2 hRP k0 k1 k2 k3 hb1 hb2 hb3 hn1' hs2' hs3'
  generalize hb1e : isL a = B1 at ta0 HL2
  generalize hb2e : decide (b.f0 = 1) = B2 at ta1
  generalize hb3e : decide (x2.f0 = 2) = B3 at ta2
  generalize hb4e : decide (d.f0 = 2) = B4 at ta3
  have HB := Lib.hid (And.intro hb1e (And.intro hb2e (And.intro hb3e hb4e)))
  clear hb1e hb2e hb3e hb4e
  have hnone : (B1 && (B2 && (B3 && B4))) = false → ∀ W, Below w.heap.size w W → W.heap[w.heap.size]? = some (.cells obZ 27 (0, 0)) → ∀ tmps : Array Value, tmps.getD 2 undef = .pointer (some ⟨w.heap.size, 0, none⟩) → tmps.getD 3 undef = .bool false →
      bodyPost Tryd.prog Tryd.f42 RP Exit.ret { tmps := tmps, defers := [] } W := fun h W hW hg tmps t2 t3 => by
    refine bodyPost_ret (results_ob ob_results2 _ _ w.heap.size _ _ _ _ _ _ _ _ _ t2 t3 hg) rfl ?_
    rw [HRP.out, if_neg (by
      rintro ⟨y1, y2, y3, y4⟩
      obtain ⟨q1, q2, q3, q4⟩ := HB.out
      rw [← q1, ← q2, ← q3, ← q4, decide_eq_true y2, decide_eq_true y3, decide_eq_true y4, y1] at h
      cases h)]
    exact ⟨none, 0, none, 0, none, 0, rfl, ObR_zero _ _, hW⟩
  have HNONE := Lib.hid hnone
  clear hnone
  obtain ⟨⟨z0, z1, z2, z3⟩, z4, z5, z6, z7⟩ := box8 HG2.out
  obtain ⟨⟨f0, f1, f2, f3⟩, f4, f5, f6, f7⟩ := frozen8 HG2.out
  rw [HW2.out] at z0 z1 z2 z3 z4 z5 z6 z7 f0 f1 f2 f3 f4 f5 f6 f7
  cases B1 with
  | false =>
    go_enter Tryd.func42, Tryd.ntmps42
    go_wp2_with fail
    rw [← HW2.out]
    exact HNONE.out (by first | rfl | simp) W2 HBW.out HG2.out _ rfl rfl
  | true =>
    cases B2 with
    | false =>
      go_enter Tryd.func42, Tryd.ntmps42
      go_wp2_with fail
      rw [← HW2.out]
      exact HNONE.out (by first | rfl | simp) W2 HBW.out HG2.out _ rfl rfl
    | true =>
      cases B3 with
      | false =>
        go_enter Tryd.func42, Tryd.ntmps42
        go_wp2_with fail
        rw [← HW2.out]
        exact HNONE.out (by first | rfl | simp) W2 HBW.out HG2.out _ rfl rfl
      | true =>
        cases B4 with
        | false =>
          go_enter Tryd.func42, Tryd.ntmps42
          go_wp2_with fail
          rw [← HW2.out]
          exact HNONE.out (by first | rfl | simp) W2 HBW.out HG2.out _ rfl rfl
        | true =>
          obtain ⟨hn2, hn2c, hC2⟩ := HL2.out rfl
          obtain ⟨l, hl⟩ : ∃ l, l = a.f3 := ⟨_, rfl⟩
          rw [← hl] at hn2 hC2 hal
          subst hn2
          obtain ⟨K, hK⟩ : ∃ K, K = strsD l := ⟨_, rfl⟩
          have hfin : ∀ e W, RP e W ↔ ObPost (K.map fun ps => ⟨2, ⟨#[]⟩, [], [], ps, n1, s2, s3⟩) w e W := fun e W => by
            obtain ⟨q1, q2, q3, q4⟩ := HB.out
            have y2 := of_decide_eq_true q2
            have y3 := of_decide_eq_true q3
            have y4 := of_decide_eq_true q4
            rw [HRP.out, if_pos ⟨q1, y2, y3, y4⟩, hK, hl, ← HVAL.out.1 y2, ← HVAL.out.2.1 y3, ← HVAL.out.2.2 y4]
          have HFIN := Lib.hid hfin
          have HC2 := Lib.hid (Kd.C_below hC2 HBW.out)
          have HKK := Lib.hid (show K = (strsD (l.drop 0)).map (([] : List ByteArray) ++ ·) by rw [hK, List.drop_zero]; simp)
          clear hfin hC2 hK hl HNONE
          go_enter Tryd.func42, Tryd.ntmps42
          go_wp2_with fail
          rw [← HW2.out]
          clear z0 z1 z2 z3 z4 z5 z6 z7 f0 f1 f2 f3 f4 f5 f6 f7
          obtain ⟨W3, hW3⟩ : ∃ W3, W3 = W2.alloc (.cells #[.int .i64 2, .string (⟨#[]⟩ : ByteArray), .slice none 0 0, .slice none 0 0, .slice none 0 0, .int .i64 n1, .string s2, .string s3] 27) := ⟨_, rfl⟩
          rw [← hW3]
          have hs2e : W2.heap.size = w.heap.size + 1 := by rw [HW2.out]; simp
          have hni : CommIn W2 (w.heap.size + 1) n1 s2 s3 (.slice none 0 0) [] W3 :=
            ⟨by rw [hW3]; exact (Below.refl _ _).alloc (Nat.le_refl _) _, by omega, by rw [hW3, ← hs2e]; exact alloc_lastV _ _, Kd.R_nil _ _ _ _ _⟩
          have HNI := Lib.hid hni
          have HS2E := Lib.hid hs2e
          clear hni hW3 c0 c1 c2 c3 hs2e
          go_loopw [66] (fun i wr => ∃ (j : Nat) (acc : List ByteArray) (v : Value), i = .int .i64 (j : Int) ∧ j ≤ l.length ∧ acc.length = j ∧ CommIn W2 (w.heap.size + 1) n1 s2 s3 v acc wr ∧ Hid (K = (strsD (l.drop j)).map (acc ++ ·))) (fun i _ => l.length - (intOf i).toNat)
          case atStart => exact ⟨0, [], _, rfl, Nat.zero_le _, rfl, HNI.out, HKK⟩
          case round =>
            obtain ⟨i, acc, v, rfl, hi, hac, hni, hr⟩ := hrel
            obtain ⟨Av, cv, rfl, hvc, hvC⟩ := Kd.R_reads hni.row
            have HNJ := Lib.hid hni
            have HAC := Lib.hid hac
            have HBR := Lib.hid (HBW.out.trans (hni.below.mono HBW.out.size))
            have HGR := Lib.hid ((hni.below.block _ HS12.out).trans HG2.out)
            by_cases hil : i < l.length
            · obtain ⟨x, hx⟩ : ∃ x, l[i]? = some x := ⟨_, List.getElem?_eq_getElem hil⟩
              obtain ⟨ad', u, rfl, c0, hu, hbk⟩ := any_at (Kd.C_below HC2.out hni.below) hx
              have hr2 := hr.out
              rw [strsD_step hx] at hr2
              have HR2 := Lib.hid hr2
              obtain ⟨sx, tax, hsx⟩ := any_str hu
              clear hr2 hr hx hu hni hac hvC
              by_cases hkd : x.f0 = 2
              · have hr3 := HR2.out
                rw [if_pos hkd] at hr3
                rw [decide_eq_true hkd] at tax
                have hsx' := hsx hkd
                obtain ⟨W6, hW6⟩ : ∃ W6, W6 = wr.alloc (.cells #[.string sx] 9) := ⟨_, rfl⟩
                have hn6 : Below wr.heap.size wr W6 := by rw [hW6]; exact (Below.refl _ _).alloc (Nat.le_refl _) _
                have hg6 : W6.heap[wr.heap.size]? = some (.cells #[.string sx] 9 (0, 0)) := by rw [hW6]; exact alloc_lastV _ _
                have hni6 := HNJ.out.later hn6
                have hgl := (Array.getElem?_eq_some_iff.1 hni6.blk).1
                obtain ⟨v8, W8, hr8, hg8, hR8⟩ := append_str (b0 := w.heap.size + 1 + 1) hni6.row (by omega) hg6 (by have := HAC.out; omega) 25
                obtain ⟨A8, c8, rfl, _, _⟩ := Kd.R_reads hR8
                have hst := hni6.step hg8 hR8
                obtain ⟨_, inner, hown, _⟩ := hni6.row
                have hblk8 := (hg8.block (w.heap.size + 1) hgl (fun e => by have := own_base hown _ e.symm; omega)).trans hni6.blk
                have y4 : W8.cell? ⟨w.heap.size + 1, 4, none⟩ = some (.slice Av acc.length cv) := (box8 hblk8).2.1
                have x4 : W8.frozen? ⟨w.heap.size + 1, 4, none⟩ = false := Lib.frozen_of_heap hblk8 4
                have w4 : wr.cell? ⟨w.heap.size + 1, 4, none⟩ = some (.slice Av acc.length cv) := (box8 HNJ.out.blk).2.1
                have HST := Lib.hid hst
                rw [hW6] at hr8
                have HAPP := Lib.hid hr8
                have HR9 := Lib.hid (show K = (strsD (l.drop (i + 1))).map ((acc ++ [sx]) ++ ·) by
                  rw [hr3, Option.map_map, hsx']; congr 1; funext z; simp)
                clear hst hR8 hg8 hni6 hg6 hn6 hW6 hr8 hown hblk8 hgl hr3 hsx hsx' hkd HR2
                go_wp2_with (refine wpList_value rfl (exec_append _ _ 25 rfl HAPP.out) ?_)
                go_roundw
                case rel => exact ⟨i + 1, acc ++ [sx], _, by go_num, hil, by rw [List.length_append]; have := HAC.out; simp; omega, by have := HST.out; rwa [List.length_append, List.length_singleton] at this, HR9⟩
                case measure => simp [intOf]; omega
              · have hr3 := HR2.out
                rw [if_neg hkd] at hr3
                rw [decide_eq_false hkd] at tax
                have HK := Lib.hid (show K = none from hr3)
                obtain ⟨⟨z0, z1, z2, z3⟩, z4, z5, z6, z7⟩ := box8 HGR.out
                obtain ⟨⟨f0, f1, f2, f3⟩, f4, f5, f6, f7⟩ := frozen8 HGR.out
                clear hr3 hkd hsx HR2
                go_wp2_with fail
                refine bodyPost_ret (results_ob ob_results2 _ _ w.heap.size _ _ _ _ _ _ _ _ _ rfl rfl (put8_same HGR.out (.int .i64 0) (.string (⟨#[]⟩ : ByteArray)) (.slice none 0 0) (.slice none 0 0) (.slice none 0 0) (.int .i64 0) (.string (⟨#[]⟩ : ByteArray)) (.string (⟨#[]⟩ : ByteArray)))) rfl ?_
                rw [HFIN.out, HK.out]
                exact ⟨none, 0, none, 0, none, 0, rfl, ObR_zero _ _, put8_below HBR.out (Nat.le_refl _) _ _ _ _ _ _ _ _⟩
            · have hie : i = l.length := by omega
              have hr2 := hr.out
              rw [hie, List.drop_length, strsD, Option.map_some, List.append_nil] at hr2
              have HK := Lib.hid hr2
              obtain ⟨⟨z0, z1, z2, z3⟩, z4, z5, z6, z7⟩ := box8 HGR.out
              obtain ⟨⟨f0, f1, f2, f3⟩, f4, f5, f6, f7⟩ := frozen8 HGR.out
              obtain ⟨⟨y0, y1, y2, y3⟩, y4, y5, y6, y7⟩ := box8 hni.blk
              have hp := put8_below (B := w.heap.size) HBR.out (Nat.le_refl _) (.int .i64 2) (.string (⟨#[]⟩ : ByteArray)) (.slice none 0 0) (.slice none 0 0) (.slice Av acc.length cv) (.int .i64 n1) (.string s2) (.string s3)
              have hsm := put8_same HGR.out (.int .i64 2) (.string (⟨#[]⟩ : ByteArray)) (.slice none 0 0) (.slice none 0 0) (.slice Av acc.length cv) (.int .i64 n1) (.string s2) (.string s3)
              have hob : ObR (put8 wr w.heap.size (.int .i64 2) (.string (⟨#[]⟩ : ByteArray)) (.slice none 0 0) (.slice none 0 0) (.slice Av acc.length cv) (.int .i64 n1) (.string s2) (.string s3)) w.heap.size ⟨2, ⟨#[]⟩, [], [], acc, n1, s2, s3⟩ none 0 none 0 Av cv := by
                have h1 : ObR wr (w.heap.size + 1) ⟨2, ⟨#[]⟩, [], [], acc, n1, s2, s3⟩ none 0 none 0 Av cv := ⟨Kd.R_nil _ _ _ _ _, Kd.R_nil _ _ _ _ _, Kd.R_lower hni.row (by omega)⟩
                exact h1.move (fun k hk _ => put8_far (by omega) _ _ _ _ _ _ _ _) (by omega)
              have HP := Lib.hid hp
              have HSM := Lib.hid hsm
              have HOB := Lib.hid hob
              clear hie hr2 hr hni hvC hac hp hsm hob
              go_wp2_with fail
              refine bodyPost_ret (results_ob ob_results2 _ _ w.heap.size _ _ _ _ _ _ _ _ _ rfl rfl HSM.out) rfl ?_
              rw [HFIN.out, HK.out]
              exact ⟨none, 0, none, 0, Av, cv, rfl, HOB.out, HP.out⟩
end Go.Proofs.YtgjlchcfdbmmlaaDoor.PObjectTakes
/- object.objectOf walked. -/
namespace Go.Proofs.YtgjlchcfdbmmlaaDoor.PObjectTakes
open Go.RowKit Go.Proofs.YtgjlchcfdbmmlaaDoor.Ord Go.Proofs.YtgjlchcfdbmmlaaDoor.Obj Go.Proofs.YtgjlchcfdbmmlaaDoorW.PrintWords Go.Proofs.YtgjlchcfdbmmlaaDoorW.PrintLast Go.Proofs.YtgjlchcfdbmmlaaDoorW.PrintMore
set_option linter.unusedVariables false
set_option linter.unusedSimpArgs false
attribute [local irreducible] OpGives
attribute [local go_sem] ta_ii ta_is ta_il ta_si ta_ss ta_sl ta_li ta_ls ta_ll

def objL : List S42 → Option Ob
  | [k, a, b, d] => if k.f0 = 1 ∧ k.f1 = 1 then nodeD a b d else none
  | [k, a, b, c, d] => if k.f0 = 1 ∧ k.f1 = 2 then commitD a b c d else none
  | _ => none
def objD (x : S42) : Option Ob := if isL x then objL x.f3 else none
theorem ob_results3 : (Tryd.f22).results = #[.cell 2 27, .tmp 3] := Tryd.results22
theorem C_tail {w : World} {ad : Addr} {x : S42} {l : List S42} {n : Nat} (h : kA.C w (some ad) (n + 1) (x :: l)) : kA.C w (some (ad.add 1)) n l := by
  obtain ⟨h1, h2, h3⟩ := h
  refine ⟨by simpa using h1, by omega, fun hn => ⟨_, rfl, fun j p hj => ?_⟩⟩
  obtain ⟨ad', e, hc⟩ := h3 (by omega)
  cases e
  obtain ⟨c, hc1, hR, hcell⟩ := hc (j + 1) p (by simpa using hj)
  refine ⟨c, hc1, hR, fun i u hu => ?_⟩
  have := hcell i u hu
  rw [Go.Deep.add_add, show 1 + (j * kA.sz + i) = (j + 1) * kA.sz + i by rw [show kA.sz = 1 from rfl]; omega]
  exact this
set_option maxRecDepth 100000 in
theorem obj_atom (u : Value) (w : World) (hu : (∃ v, u = .iface 3 v) ∨ ∃ v, u = .iface 9 v) : Calls Tryd.prog 22 #[u] w (ObPost none w) := by
  rcases hu with ⟨v, rfl⟩ | ⟨v, rfl⟩
  · go_enter Tryd.func22, Tryd.ntmps22
    go_wp2
    refine bodyPost_ret (results_ob ob_results3 _ _ w.heap.size _ _ _ _ _ _ _ _ _ rfl rfl (alloc_lastV _ _)) rfl ?_
    exact ⟨none, 0, none, 0, none, 0, rfl, ObR_zero _ _, (Below.refl _ _).alloc (Nat.le_refl _) _⟩
  · go_enter Tryd.func22, Tryd.ntmps22
    go_wp2
    refine bodyPost_ret (results_ob ob_results3 _ _ w.heap.size _ _ _ _ _ _ _ _ _ rfl rfl (alloc_lastV _ _)) rfl ?_
    exact ⟨none, 0, none, 0, none, 0, rfl, ObR_zero _ _, (Below.refl _ _).alloc (Nat.le_refl _) _⟩
set_option maxHeartbeats 8000000 in
set_option maxRecDepth 100000 in
theorem obj_none (A : Option Addr) (n c : Nat) (kv : Int) (bk : Bool) (w : World) (hv : 0 < n → ∃ ad u, A = some ad ∧ w.cell? ad = some u ∧ ad.block < w.heap.size ∧ ∀ W, (Instr.typeAssert u 69 3 true).run Tryd.prog W = .ok (.tuple #[.int .i64 kv, .bool bk]) W)
    (h1 : ¬ (bk = true ∧ kv = 1 ∧ n = 4)) (h2 : ¬ (bk = true ∧ kv = 2 ∧ n = 5)) :
    Calls Tryd.prog 22 #[.iface 99 (.slice A n c)] w (ObPost none w) := by
  rcases Nat.eq_zero_or_pos n with h0 | h0
  · subst h0
    go_enter Tryd.func22, Tryd.ntmps22
    go_wp2
    refine bodyPost_ret (results_ob ob_results3 _ _ w.heap.size _ _ _ _ _ _ _ _ _ rfl rfl (alloc_lastV _ _)) rfl ?_
    exact ⟨none, 0, none, 0, none, 0, rfl, ObR_zero _ _, (Below.refl _ _).alloc (Nat.le_refl _) _⟩
  · obtain ⟨ad, u, rfl, c0, hbk, ta⟩ := hv h0
    have hn0 : ((n : Int) == 0) = false := by rw [beq_eq_false_iff_ne]; omega
    have hnp : (0 : Int) < (n : Int) := by omega
    cases bk with
    | false =>
      clear h1 h2
      go_enter Tryd.func22, Tryd.ntmps22
      go_wp2
      refine bodyPost_ret (results_ob ob_results3 _ _ w.heap.size _ _ _ _ _ _ _ _ _ rfl rfl (alloc_lastV _ _)) rfl ?_
      exact ⟨none, 0, none, 0, none, 0, rfl, ObR_zero _ _, (Below.refl _ _).alloc (Nat.le_refl _) _⟩
    | true =>
      by_cases k1 : kv = 1
      · subst k1
        have h4 : ((n : Int) == 4) = false := by rw [beq_eq_false_iff_ne]; intro e; exact h1 ⟨rfl, rfl, by omega⟩
        clear h1 h2
        go_enter Tryd.func22, Tryd.ntmps22
        go_wp2
        refine bodyPost_ret (results_ob ob_results3 _ _ w.heap.size _ _ _ _ _ _ _ _ _ rfl rfl (alloc_lastV _ _)) rfl ?_
        exact ⟨none, 0, none, 0, none, 0, rfl, ObR_zero _ _, (Below.refl _ _).alloc (Nat.le_refl _) _⟩
      · have k1' : (kv == 1) = false := by simpa using k1
        by_cases k2 : kv = 2
        · subst k2
          have h4 : ((n : Int) == 5) = false := by rw [beq_eq_false_iff_ne]; intro e; exact h2 ⟨rfl, rfl, by omega⟩
          clear h1 h2
          go_enter Tryd.func22, Tryd.ntmps22
          go_wp2
          refine bodyPost_ret (results_ob ob_results3 _ _ w.heap.size _ _ _ _ _ _ _ _ _ rfl rfl (alloc_lastV _ _)) rfl ?_
          exact ⟨none, 0, none, 0, none, 0, rfl, ObR_zero _ _, (Below.refl _ _).alloc (Nat.le_refl _) _⟩
        · have k2' : (kv == 2) = false := by simpa using k2
          clear h1 h2 k1 k2
          go_enter Tryd.func22, Tryd.ntmps22
          go_wp2
          refine bodyPost_ret (results_ob ob_results3 _ _ w.heap.size _ _ _ _ _ _ _ _ _ rfl rfl (alloc_lastV _ _)) rfl ?_
          exact ⟨none, 0, none, 0, none, 0, rfl, ObR_zero _ _, (Below.refl _ _).alloc (Nat.le_refl _) _⟩
theorem parts_len (x : S42) : x.f3.length ≤ parts x := by
  rw [parts_eq]; have := partsL_len x.f3; omega
set_option maxHeartbeats 8000000 in
set_option maxRecDepth 100000 in
theorem obj_node (a b d : S42) (ad : Addr) (c : Nat) (u0 : Value) (w : World) (c0 : w.cell? ad = some u0) (hb0 : ad.block < w.heap.size)
    (ta : ∀ W, (Instr.typeAssert u0 69 3 true).run Tryd.prog W = .ok (.tuple #[.int .i64 1, .bool true]) W) (hC : kA.C w (some (ad.add 1)) 3 [a, b, d]) (hc : 4 ≤ c) (hbl : b.f3.length ≤ 1000000) (hdl : d.f3.length ≤ 1000000) (hT : Lib.Utf8Tabs 0 1 w) :
    Calls Tryd.prog 22 #[.iface 99 (.slice (some ad) 4 c)] w (ObPost (nodeD a b d) w) := by
  obtain ⟨W1, hW1⟩ : ∃ W1, W1 = w.alloc (.cells obZ 27) := ⟨_, rfl⟩
  have hn1 : Below w.heap.size w W1 := by rw [hW1]; exact (Below.refl _ _).alloc (Nat.le_refl _) _
  have hg1 : W1.heap[w.heap.size]? = some (.cells obZ 27 (0, 0)) := by rw [hW1]; exact alloc_lastV _ _
  have hs1 : W1.heap.size = w.heap.size + 1 := by rw [hW1]; simp
  have HCALL := Lib.hid (nodeOf_calls a b d (some (ad.add 1)) (c - 1) W1 (Kd.C_below hC hn1) hbl hdl (Utf8Tabs_below hT hn1))
  generalize (nodeD a b d) = r at HCALL ⊢
  have HN1 := Lib.hid hn1
  have HG1 := Lib.hid hg1
  have HS1 := Lib.hid hs1
  unfold obZ at hW1
  have HW1 := Lib.hid hW1
  have hc1 : (1 : Int) ≤ (c : Int) := by omega
  clear hn1 hg1 hs1 hW1 hC hT
  go_enter Tryd.func22, Tryd.ntmps22
  go_wp2_with fail
  rw [← HW1.out]
  refine HCALL.out.mono ?_
  rintro e W2 ⟨Ar, cr, Ak, ck, Ap, cp, rfl, hO, hb2⟩
  have hg2 := (hb2.block _ (Array.getElem?_eq_some_iff.1 HG1.out).1).trans HG1.out
  have hbw : Below w.heap.size w W2 := HN1.out.trans (hb2.mono HN1.out.size)
  unfold obZ at hg2
  obtain ⟨⟨z0, z1, z2, z3⟩, z4, z5, z6, z7⟩ := box8 hg2
  obtain ⟨⟨f0, f1, f2, f3⟩, f4, f5, f6, f7⟩ := frozen8 hg2
  have HG2 := Lib.hid hg2
  have HBW := Lib.hid hbw
  have HO := Lib.hid hO
  clear hg2 hbw hO hb2
  generalize hoo : r.getD zOb = o at HO ⊢
  obtain ⟨o0, o1, o2, o3, o4, o5, o6, o7⟩ := o
  unfold obV
  simp only at HO ⊢
  have HOO := Lib.hid hoo
  clear hoo
  go_wp2_with fail
  refine bodyPost_ret (results_ob ob_results3 _ _ w.heap.size _ _ _ _ _ _ _ _ _ rfl rfl (put8_same HG2.out (.int .i64 o0) (.string o1) (.slice Ar o2.length cr) (.slice Ak o3.length ck) (.slice Ap o4.length cp) (.int .i64 o5) (.string o6) (.string o7))) rfl ?_
  refine ⟨Ar, cr, Ak, ck, Ap, cp, by rw [HOO.out]; rfl, ?_, put8_below HBW.out (Nat.le_refl _) _ _ _ _ _ _ _ _⟩
  rw [HOO.out]
  exact HO.out.move (fun k hk _ => put8_far (by have := HS1.out; omega) _ _ _ _ _ _ _ _) (by have := HS1.out; omega)
set_option maxHeartbeats 8000000 in
set_option maxRecDepth 100000 in
theorem obj_comm (a b d f : S42) (ad : Addr) (c : Nat) (u0 : Value) (w : World) (c0 : w.cell? ad = some u0) (hb0 : ad.block < w.heap.size)
    (ta : ∀ W, (Instr.typeAssert u0 69 3 true).run Tryd.prog W = .ok (.tuple #[.int .i64 2, .bool true]) W) (hC : kA.C w (some (ad.add 1)) 4 [a, b, d, f]) (hc : 5 ≤ c) (hal : a.f3.length ≤ 1000000) :
    Calls Tryd.prog 22 #[.iface 99 (.slice (some ad) 5 c)] w (ObPost (commitD a b d f) w) := by
  obtain ⟨W1, hW1⟩ : ∃ W1, W1 = w.alloc (.cells obZ 27) := ⟨_, rfl⟩
  have hn1 : Below w.heap.size w W1 := by rw [hW1]; exact (Below.refl _ _).alloc (Nat.le_refl _) _
  have hg1 : W1.heap[w.heap.size]? = some (.cells obZ 27 (0, 0)) := by rw [hW1]; exact alloc_lastV _ _
  have hs1 : W1.heap.size = w.heap.size + 1 := by rw [hW1]; simp
  have HCALL := Lib.hid (commitOf_calls a b d f (some (ad.add 1)) (c - 1) W1 (Kd.C_below hC hn1) hal)
  generalize (commitD a b d f) = r at HCALL ⊢
  have HN1 := Lib.hid hn1
  have HG1 := Lib.hid hg1
  have HS1 := Lib.hid hs1
  unfold obZ at hW1
  have HW1 := Lib.hid hW1
  have hc1 : (1 : Int) ≤ (c : Int) := by omega
  clear hn1 hg1 hs1 hW1 hC 
  go_enter Tryd.func22, Tryd.ntmps22
  go_wp2_with fail
  rw [← HW1.out]
  refine HCALL.out.mono ?_
  rintro e W2 ⟨Ar, cr, Ak, ck, Ap, cp, rfl, hO, hb2⟩
  have hg2 := (hb2.block _ (Array.getElem?_eq_some_iff.1 HG1.out).1).trans HG1.out
  have hbw : Below w.heap.size w W2 := HN1.out.trans (hb2.mono HN1.out.size)
  unfold obZ at hg2
  obtain ⟨⟨z0, z1, z2, z3⟩, z4, z5, z6, z7⟩ := box8 hg2
  obtain ⟨⟨f0, f1, f2, f3⟩, f4, f5, f6, f7⟩ := frozen8 hg2
  have HG2 := Lib.hid hg2
  have HBW := Lib.hid hbw
  have HO := Lib.hid hO
  clear hg2 hbw hO hb2
  generalize hoo : r.getD zOb = o at HO ⊢
  obtain ⟨o0, o1, o2, o3, o4, o5, o6, o7⟩ := o
  unfold obV
  simp only at HO ⊢
  have HOO := Lib.hid hoo
  clear hoo
  go_wp2_with fail
  refine bodyPost_ret (results_ob ob_results3 _ _ w.heap.size _ _ _ _ _ _ _ _ _ rfl rfl (put8_same HG2.out (.int .i64 o0) (.string o1) (.slice Ar o2.length cr) (.slice Ak o3.length ck) (.slice Ap o4.length cp) (.int .i64 o5) (.string o6) (.string o7))) rfl ?_
  refine ⟨Ar, cr, Ak, ck, Ap, cp, by rw [HOO.out]; rfl, ?_, put8_below HBW.out (Nat.le_refl _) _ _ _ _ _ _ _ _⟩
  rw [HOO.out]
  exact HO.out.move (fun k hk _ => put8_far (by have := HS1.out; omega) _ _ _ _ _ _ _ _) (by have := HS1.out; omega)
theorem objectOf_calls (x : S42) (u : Value) (w : World) (h : AnyAt w x u) (hp : parts x ≤ 1000000) (hT : Lib.Utf8Tabs 0 1 w) : Calls Tryd.prog 22 #[u] w (ObPost (objD x) w) := by
  rcases any_cases h with ⟨h1, rfl⟩ | ⟨h1, rfl⟩ | ⟨h1, h2, A, c, rfl, hlc, hC⟩
  · have : objD x = none := by unfold objD isL; rw [decide_eq_true h1]; rfl
    rw [this]; exact obj_atom _ w (.inl ⟨_, rfl⟩)
  · have : objD x = none := by unfold objD isL; rw [decide_eq_true h1]; simp
    rw [this]; exact obj_atom _ w (.inr ⟨_, rfl⟩)
  · have hd : objD x = objL x.f3 := by unfold objD; rw [if_pos (isL_of h1 h2)]
    rw [hd]
    obtain ⟨xk, xn, xs, l⟩ := x
    rw [parts] at hp
    simp only at hlc hC ⊢
    clear hd h h1 h2
    cases l with
    | nil => exact obj_none A 0 c 0 false w (fun h => by omega) (by simp) (by simp)
    | cons k rest =>
      obtain ⟨ad, u0, rfl, c0, k0, hb0⟩ := any_at (l := k :: rest) hC (i := 0) (x := k) rfl
      rw [show ad.add 0 = ad from by simp [Addr.add]] at c0 hb0
      obtain ⟨kv, ta, hkv⟩ := any_int k0
      by_cases h4 : k.f0 = 1 ∧ kv = 1 ∧ rest.length = 3
      · obtain ⟨q1, q2, q3⟩ := h4
        obtain ⟨a, b, d, rfl⟩ : ∃ a b d, rest = [a, b, d] := by
          match rest, q3 with
          | [a, b, d], _ => exact ⟨a, b, d, rfl⟩
        have : objL [k, a, b, d] = nodeD a b d := by rw [objL, if_pos ⟨q1, by rw [← hkv q1]; exact q2⟩]
        rw [this]
        subst q2
        rw [decide_eq_true q1] at ta
        rw [partsL, partsL, partsL, partsL, partsL] at hp
        exact obj_node a b d ad c u0 w c0 hb0 ta (C_tail hC) hlc (by have := parts_len b; omega) (by have := parts_len d; omega) hT
      · by_cases h5 : k.f0 = 1 ∧ kv = 2 ∧ rest.length = 4
        · obtain ⟨q1, q2, q3⟩ := h5
          obtain ⟨a, b, d, f, rfl⟩ : ∃ a b d f, rest = [a, b, d, f] := by
            match rest, q3 with
            | [a, b, d, f], _ => exact ⟨a, b, d, f, rfl⟩
          have : objL [k, a, b, d, f] = commitD a b d f := by rw [objL, if_pos ⟨q1, by rw [← hkv q1]; exact q2⟩]
          rw [this]
          subst q2
          rw [decide_eq_true q1] at ta
          rw [partsL, partsL] at hp
          exact obj_comm a b d f ad c u0 w c0 hb0 ta (C_tail hC) hlc (by have := parts_len a; omega)
        · have : objL (k :: rest) = none := by
            match rest with
            | [] => rfl
            | [_] => rfl
            | [_, _] => rfl
            | [a, b, d] => rw [objL, if_neg]; rintro ⟨y1, y2⟩; exact h4 ⟨y1, by rw [hkv y1]; exact y2, rfl⟩
            | [a, b, d, f] => rw [objL, if_neg]; rintro ⟨y1, y2⟩; exact h5 ⟨y1, by rw [hkv y1]; exact y2, rfl⟩
            | _ :: _ :: _ :: _ :: _ :: _ => rfl
          rw [this]
          exact obj_none (some ad) (rest.length + 1) c kv (decide (k.f0 = 1)) w (fun _ => ⟨ad, u0, rfl, c0, hb0, ta⟩)
            (by rintro ⟨y1, y2, y3⟩; exact h4 ⟨of_decide_eq_true y1, y2, by omega⟩) (by rintro ⟨y1, y2, y3⟩; exact h5 ⟨of_decide_eq_true y1, y2, by omega⟩)
end Go.Proofs.YtgjlchcfdbmmlaaDoor.PObjectTakes
