/- Texts of one proof, joined: TVA, TVB, TVD, TUE. -/
import Derived.Test.YtgjlchcfdbmmlaaDoorYf
import Derived.Test.YtgjlchcfdbmmlaaDoorYg
import Derived.Test.YtgjlchcfdbmmlaaDoorYb
import Derived.Deep.RegionHeld3
import Derived.Maps.RangeWalk
set_option linter.unusedSimpArgs false
set_option linter.unusedVariables false
namespace Go.Proofs.YtgjlchcfdbmmlaaDoor.PObjectTakes
open Go.RowKit Go.Proofs.YtgjlchcfdbmmlaaDoor.Ord Go.Proofs.YtgjlchcfdbmmlaaDoor.Obj Go.Proofs.YtgjlchcfdbmmlaaDoorW.PrintWords Go.Proofs.YtgjlchcfdbmmlaaDoorW.PrintLast Go.Proofs.YtgjlchcfdbmmlaaDoorW.PrintMore
attribute [local irreducible] OpGives
attribute [local go_sem] rdl_const rdl_func rdl_global rdl_nil rdl_cons

/-- The value that a cell may be. -/
def valL (x : S42) : S53 := if x.f0 = 2 then ⟨2, 0, x.f2⟩ else ⟨1, x.f1, ⟨#[]⟩⟩
/-- The row that a cell may be. -/
def rowL (x : S42) : Option S55 := match x.f3 with | [a, b, c] => some ⟨a.f1, b.f1, valL c⟩ | _ => none
def rowsL : List S42 → Option (List S55)
  | [] => some []
  | x :: xs => match rowL x with | none => none | some r => (rowsL xs).map (r :: ·)
theorem rowsL_step {l : List S42} {i : Nat} {x : S42} (h : l[i]? = some x) : rowsL (l.drop i) = match rowL x with | none => none | some r => (rowsL (l.drop (i + 1))).map (r :: ·) := by
  obtain ⟨hi, hx⟩ := List.getElem?_eq_some_iff.1 h
  rw [List.drop_eq_getElem_cons hi, rowsL, hx]
/-- What the document's TakeRows answers. -/
noncomputable def dTakeRows (x : S42) : List S55 × Int := match rowsL x.f3 with
  | none => ([], 4)
  | some rs => if okRows rs && eqC (rowsC rs) x then (rs, 0) else ([], 4)
theorem rowL_C {x : S55} (h : okV x.f2 = true) : rowL (rowC x) = some x := by
  obtain ⟨a, b, k, n, s⟩ := x
  unfold okV at h
  simp only at h
  unfold rowL rowC listC valC
  simp only
  by_cases h2 : k = 2
  · subst h2
    simp only [if_true, show ¬ ((2 : Int) = 1) by decide, if_false, Bool.and_eq_true, decide_eq_true_eq] at h
    rw [h.1]; rfl
  · rw [if_neg h2]
    by_cases h1 : k = 1
    · subst h1
      simp only [if_true, decide_eq_true_eq] at h
      rw [empty_str h]; rfl
    · rw [if_neg h1, if_neg h2] at h; cases h
theorem rowsL_C : ∀ {l : List S55}, (∀ x ∈ l, okV x.f2 = true) → rowsL (l.map rowC) = some l
  | [], _ => rfl
  | x :: xs, h => by rw [List.map_cons, rowsL, rowL_C (h x List.mem_cons_self), rowsL_C (fun y hy => h y (List.mem_cons_of_mem _ hy))]; rfl
theorem wfS_ok : ∀ (d : Nat) (x : S42), okS d x = true → wfW x → wfS x
  | 0, x, h, _ => by rw [okS] at h; cases h
  | d + 1, x, h, hw => by
    obtain ⟨hn0, hn1, hs, hl, hwl⟩ := wfW_parts hw
    obtain ⟨d', e, hx⟩ := ok_cases h
    obtain rfl : d' = d := by omega
    rcases hx with ⟨n, rfl⟩ | ⟨t, rfl, ht⟩ | ⟨l, rfl, hl', hk⟩
    · rw [wfS, wfL]; exact ⟨hn0, hn1, by decide, by decide, trivial⟩
    · rw [wfS, wfL]; exact ⟨hn0, hn1, by omega, by decide, trivial⟩
    · rw [wfS]; exact ⟨hn0, hn1, by decide, by omega, wfL_of (fun y hy => wfS_ok d' y (hk y hy) (wfWL_mem hwl hy))⟩
theorem taken_rows {x : S42} (h : (takenR x).2 = true) : okRows (takenR x).1 = true := by
  unfold takenR at h ⊢
  split at h
  · rename_i hL
    rw [if_pos hL]
    unfold takenP at h ⊢
    split at h
    · exact h
    · cases h
  · cases h
/-- The document's TakeRows answers as the program's does. -/
theorem dTakeRows_eq (x : S42) (hw : wfW x) : dTakeRows x = takeRowsR x := by
  unfold takeRowsR
  cases hb : (takenR x).2 && okS 16 x with
  | true =>
    rw [Bool.and_eq_true] at hb
    have hx := (taken_inv hb.2 (wfS_ok 16 x hb.2 hw) hb.1).1
    have hr := taken_rows hb.1
    generalize (takenR x).1 = rs at hx hr
    rw [if_pos rfl]
    unfold dTakeRows
    rw [hx]
    show (match rowsL (rs.map rowC) with | none => _ | some rs' => _) = _
    rw [rowsL_C (fun y hy => ((okRows_parts hr).2 y hy).2)]
    simp only [hr, eqC_self, Bool.and_self, if_true]
  | false =>
    rw [if_neg (by decide)]
    unfold dTakeRows
    split
    · rfl
    · rename_i rs hrs
      cases hq : okRows rs && eqC (rowsC rs) x with
      | false => rfl
      | true =>
        exfalso
        rw [Bool.and_eq_true] at hq
        have hx := eqC_true hq.2
        have hok : okS 16 (rowsC rs) = true := (fine_rows 13 hq.1 (fun r hr => by
          have hv := ((okRows_parts hq.1).2 r hr).2
          have hwl := (wfW_parts hw).2.2.2.2
          rw [← hx] at hwl
          have h1 := wfWL_mem hwl (y := rowC r) (List.mem_map.2 ⟨r, hr, rfl⟩)
          have h2 := wfWL_mem (wfW_parts h1).2.2.2.2 (y := valC r.f2) (by unfold rowC listC; simp)
          unfold valC at h2
          by_cases hk : r.f2.f0 = 2
          · unfold okV at hv
            rw [if_neg (by omega), if_pos hk, Bool.and_eq_true, decide_eq_true_eq] at hv
            omega
          · rw [if_neg hk] at h2
            exact ⟨(wfW_parts h2).1, (wfW_parts h2).2.1⟩)).ok
        rw [← hx, takenR_C hq.1, hok] at hb
        cases hb
theorem cell3_at {w : World} {A : Option Addr} {a b d : S42} (h : Kd.C k42 w A 3 [a, b, d]) :
    ∃ ad : Addr, A = some ad ∧ w.cell? ⟨ad.block, ad.off + 1, none⟩ = some (.int .i64 a.f1) ∧ w.cell? ⟨ad.block, ad.off + 4 + 1, none⟩ = some (.int .i64 b.f1) ∧ w.cell? ⟨ad.block, ad.off + 8, none⟩ = some (.int .i64 d.f0) ∧ w.cell? ⟨ad.block, ad.off + 8 + 1, none⟩ = some (.int .i64 d.f1) ∧ w.cell? ⟨ad.block, ad.off + 8 + 2, none⟩ = some (.string d.f2) := by
  obtain ⟨ad, A0, c0, e, h0, h1, h2, h3, _, _, _⟩ := cell_at (l := [a, b, d]) h (i := 0) rfl
  obtain ⟨ad', A1, c1, e', k0, k1, k2, k3, _, _, _⟩ := cell_at (l := [a, b, d]) h (i := 1) rfl
  obtain ⟨ad2, A2, c2, e2, m0, m1, m2, m3, _, _, _⟩ := cell_at (l := [a, b, d]) h (i := 2) rfl
  subst e
  cases e'; cases e2
  obtain ⟨bl, off, p⟩ := ad
  cases p with
  | none => exact ⟨_, rfl, by simpa [Addr.add] using h1, by simpa [Addr.add] using k1, by simpa [Addr.add] using m0, by simpa [Addr.add] using m1, by simpa [Addr.add] using m2⟩
  | some p => exact ⟨_, rfl, by simpa [Addr.add] using h1, by simpa [Addr.add] using k1, by simpa [Addr.add] using m0, by simpa [Addr.add] using m1, by simpa [Addr.add] using m2⟩
theorem quiet_val {P : Program} {o : Oper} {a : Act} {C : World → Prop} {K : Act → Prop} {v : Value} (h : ∀ w, C w → (execOp a.eval o).run P w = .ok (.value v) w) (hk : K (a.put o.dst v)) : o.quiet P a C K :=
  ⟨v, fun w hw => by unfold Oper.quietAt Oper.quietUpon; rw [h w hw]; exact ⟨rfl, rfl⟩, hk⟩
theorem quiet_call {P : Program} {o : Oper} {a : Act} {C : World → Prop} {K : Act → Prop} {v : Value} {f : FuncId} {args : Array Value} (h : ∀ w, C w → (execOp a.eval o).run P w = .ok (.enter f args) w) (hc : ∀ w, C w → Calls P f args w fun e w' => e = .returned v ∧ C w') (hk : K (a.put o.dst v)) : o.quiet P a C K :=
  ⟨v, fun w hw => by unfold Oper.quietAt Oper.quietUpon; rw [h w hw]; exact ⟨rfl, hc w hw⟩, hk⟩
/-- A region whose operations' values do not hang on the world, in a class of worlds that they do not leave. -/
theorem region_quiet_lit {P : Program} (C : World → Prop) {id : Nat} {Q : Exit → Act → World → Prop} {a : Act} {w : World} {l : List Oper} (hm : P.follows .mixedOrders = true) (hB : Region.lexB .any l.toArray = true) (hC : C w.drew)
    (h : wpQuiet P l.toArray C (fun a' => ∀ w', C w' → Q .normal a' w') l a) : (Code.region id l.toArray true).wp P Q a w :=
  wp_region_quiet (C := C) hm hB hC (by simpa using h)
/-- A row that a literal made. -/
def rowLit (lo : Nat) (r : S55) : Value → World → Prop := fun u W => ∃ g, u = .slice (some ⟨g, 0, none⟩) 1 1 ∧ lo ≤ g ∧ W.heap[g]? = some (.cells #[.int .i64 r.f0, .int .i64 r.f1, .int .i64 r.f2.f0, .int .i64 r.f2.f1, .string r.f2.f2] 55 (0, 0))
theorem rowLit_below {lo : Nat} {r : S55} {u : Value} {W W' : World} (h : rowLit lo r u W) (hb : Below W.heap.size W W') : rowLit lo r u W' := by
  obtain ⟨g, e, hl, hg⟩ := h
  exact ⟨g, e, hl, (hb.block _ (Array.getElem?_eq_some_iff.1 hg).1).trans hg⟩
set_option maxHeartbeats 16000000 in
set_option maxRecDepth 100000 in
theorem dtakerows_calls (x : S42) (A : Option Addr) (c : Nat) (w : World) (hA : Kd.C k42 w A x.f3.length x.f3) (hpl : x.f3.length ≤ 1000000) :
    Calls Tryd.prog 16 #[.agg #[.int .i64 x.f0, .int .i64 x.f1, .string x.f2, .slice A x.f3.length c]] w (TakeRowsPost (dTakeRows x) w) := by
  obtain ⟨W1, hW1⟩ : ∃ W1, W1 = w.alloc (.cells #[.int .i64 x.f0, .int .i64 x.f1, .string x.f2, .slice A x.f3.length c] 42) := ⟨_, rfl⟩
  have hn1 : Below w.heap.size w W1 := by rw [hW1]; exact (Below.refl _ _).alloc (Nat.le_refl _) _
  have hg1 : W1.heap[w.heap.size]? = some (.cells #[.int .i64 x.f0, .int .i64 x.f1, .string x.f2, .slice A x.f3.length c] 42 (0, 0)) := by rw [hW1]; exact alloc_lastV _ _
  obtain ⟨⟨b0, b1, b2, b3⟩, _⟩ := box4 hg1
  have HN1 := Lib.hid hn1
  have HG1 := Lib.hid hg1
  have HA := Lib.hid (Kd.C_below hA hn1)
  have HAW := Lib.hid hA
  obtain ⟨RP, hRP⟩ : ∃ RP : Ending → World → Prop, RP = TakeRowsPost (dTakeRows x) w := ⟨_, rfl⟩
  rw [← hRP]
  unfold dTakeRows at hRP
  have HRP := Lib.hid hRP
  have HX := Lib.hid (rfl : x = x)
  obtain ⟨l, hl⟩ : ∃ l, l = x.f3 := ⟨_, rfl⟩
  obtain ⟨R, hR⟩ : ∃ R, R = rowsL x.f3 := ⟨_, rfl⟩
  rw [← hR] at HRP
  have HR := Lib.hid (show R = (rowsL (l.drop 0)).map (([] : List S55) ++ ·) by rw [hR, hl, List.drop_zero]; simp)
  have HL := Lib.hid hl
  rw [← hl] at hpl b3 HG1 HA HAW hW1 hg1 ⊢
  rw [hW1] at b0 b1 b2 b3
  have HW1 := Lib.hid hW1
  clear hW1 hn1 hg1 hA hRP hR hl
  go_enter Tryd.func16, Tryd.ntmps16
  go_wp2_with fail
  rw [← HW1.out]
  clear b0 b1 b2 b3
  go_loopw [4, 5] (fun v i wr => ∃ (j : Nat) (acc : List S55), i = .int .i64 (j : Int) ∧ j ≤ l.length ∧ acc.length = j ∧ rR wr W1.heap.size v acc ∧ Below W1.heap.size W1 wr ∧ Hid (R = (rowsL (l.drop j)).map (acc ++ ·))) (fun _ i _ => l.length - (intOf i).toNat)
  case atStart => exact ⟨0, [], rfl, Nat.zero_le _, rfl, Kd.R_nil _ _ _ _ _, Below.refl _ _, HR⟩
  case round =>
    obtain ⟨i, acc, rfl, hi, hal, hrow, hbe, hr⟩ := hrel
    have HROW := Lib.hid hrow
    have HBE := Lib.hid hbe
    have HAL := Lib.hid hal
    have HBW := Lib.hid (HN1.out.trans (hbe.mono HN1.out.size))
    have hgr := (hbe.block _ (Array.getElem?_eq_some_iff.1 HG1.out).1).trans HG1.out
    obtain ⟨⟨b0, b1, b2, b3⟩, _⟩ := box4 hgr
    by_cases hil : i < l.length
    · obtain ⟨y, hy⟩ : ∃ y, l[i]? = some y := ⟨_, List.getElem?_eq_getElem hil⟩
      obtain ⟨ad, A3, c3, rfl, c0, c1, c2, c3', l3, g3, hbk⟩ := cell_at (Kd.C_below HA.out hbe) hy
      have hr2 := hr.out
      rw [rowsL_step hy] at hr2
      have HR2 := Lib.hid hr2
      obtain ⟨W3, hW3⟩ : ∃ W3, W3 = wr.alloc (.cells #[.int .i64 y.f0, .int .i64 y.f1, .string y.f2, .slice A3 y.f3.length c3] 42) := ⟨_, rfl⟩
      have hn3 : Below wr.heap.size wr W3 := by rw [hW3]; exact (Below.refl _ _).alloc (Nat.le_refl _) _
      have hg3 : W3.heap[wr.heap.size]? = some (.cells #[.int .i64 y.f0, .int .i64 y.f1, .string y.f2, .slice A3 y.f3.length c3] 42 (0, 0)) := by rw [hW3]; exact alloc_lastV _ _
      have HN3 := Lib.hid hn3
      have HC3 := Lib.hid (Kd.C_below g3 hn3)
      have HC0 := Lib.hid g3
      have HG3 := Lib.hid hg3
      obtain ⟨⟨d0, d1, d2, d3⟩, _⟩ := box4 hg3
      rw [hW3] at d0 d1 d2 d3
      have HW3 := Lib.hid hW3
      clear hr2 hr hy hrow hbe hal hgr hg3 hn3 g3 hbk hW3
      by_cases h3 : y.f3.length = 3
      case neg =>
        have h3' : ¬ (y.f3.length : Int) = 3 := by omega
        have HF := Lib.hid (show RP = TakeRowsPost ([], 4) w by
          have e : rowL y = none := by
            unfold rowL; split
            · rename_i a b c' e; rw [e] at h3; exact absurd rfl h3
            · rfl
          have hRn : R = none := by rw [HR2.out, e]; rfl
          rw [HRP.out, hRn])
        clear h3
        go_wp2_with fail
        rw [HF.out]
        exact ⟨none, 0, rfl, Kd.R_nil _ _ _ _ _, HBW.out.alloc HBW.out.size _⟩
      obtain ⟨y0, y1, y2, hy3⟩ : ∃ a b c', y.f3 = [a, b, c'] := by
        match hh : y.f3, h3 with
        | [a, b, c'], _ => exact ⟨a, b, c', rfl⟩
      rw [hy3] at HC3 HC0 HW3 HG3 d3 c3'
      rw [show ([y0, y1, y2] : List S42).length = 3 from rfl] at HW3 HG3 d3 c3'
      obtain ⟨ad3, rfl, q0, q1, q2, q3, q4⟩ := cell3_at HC3.out
      have hb3 : ad3.block < wr.heap.size := by
        obtain ⟨ad', e', p0, _⟩ := cell3_at HC0.out
        cases e'
        exact (block_lt_of_cell p0 : (⟨ad3.block, ad3.off + 1, none⟩ : Addr).block < _)
      rw [HW3.out] at q0 q1 q2 q3 q4
      obtain ⟨⟨V0, V1, V2⟩, hV⟩ : ∃ V, V = valL y2 := ⟨_, rfl⟩
      obtain ⟨W5, hW5⟩ : ∃ W5, W5 = W3.alloc (.cells #[.int .i64 V0, .int .i64 V1, .string V2] 53) := ⟨_, rfl⟩
      have hn5 : Below W3.heap.size W3 W5 := by rw [hW5]; exact (Below.refl _ _).alloc (Nat.le_refl _) _
      have hg5 : W5.heap[W3.heap.size]? = some (.cells #[.int .i64 V0, .int .i64 V1, .string V2] 53 (0, 0)) := by rw [hW5]; exact alloc_lastV _ _
      have hs3 : W3.heap.size = wr.heap.size + 1 := by rw [HW3.out]; simp
      have HB5 := Lib.hid (HN3.out.trans (hn5.mono HN3.out.size))
      have HCL := Lib.hid (fun W (hW : Below W5.heap.size W5 W) => show W.cell? ⟨wr.heap.size, 3, none⟩ = some (.slice (some ad3) 3 c3) ∧ W.cell? ⟨ad3.block, ad3.off + 1, none⟩ = some (.int .i64 y0.f1) ∧ W.cell? ⟨ad3.block, ad3.off + 4 + 1, none⟩ = some (.int .i64 y1.f1) ∧ W.cell? ⟨W3.heap.size, 0, none⟩ = some (.int .i64 V0) ∧ W.cell? ⟨W3.heap.size, 1, none⟩ = some (.int .i64 V1) ∧ W.cell? ⟨W3.heap.size, 2, none⟩ = some (.string V2) by
        have hb := hn5.trans (hW.mono hn5.size)
        obtain ⟨ad', e', p0, p1, _, _, _⟩ := cell3_at (Kd.C_below HC3.out hb)
        cases e'
        have h5 := (hW.block _ (Array.getElem?_eq_some_iff.1 hg5).1).trans hg5
        exact ⟨(box4 ((hb.block _ (Array.getElem?_eq_some_iff.1 HG3.out).1).trans HG3.out)).1.2.2.2, p0, p1, by rw [Lib.cell_of_heap h5]; rfl, by rw [Lib.cell_of_heap h5]; rfl, by rw [Lib.cell_of_heap h5]; rfl⟩)
      have HS3 := Lib.hid hs3
      have HR3 := Lib.hid (show R = (rowsL (l.drop (i + 1))).map ((acc ++ [⟨y0.f1, y1.f1, ⟨V0, V1, V2⟩⟩]) ++ ·) by
        rw [HR2.out, show rowL y = some ⟨y0.f1, y1.f1, valL y2⟩ by unfold rowL; rw [hy3], ← hV]
        simp only [Option.map_map]; congr 1; funext z; simp)
      have HV := Lib.hid hV
      have HW5 := Lib.hid hW5
      have h3' : (y.f3.length : Int) = 3 := by omega
      clear hV hW5 hn5 hg5 hs3 hy3 h3 h3'
      go_upto_if 35 with (fail)
      go_cut [] (fun wc => W5 = wc)
      case first =>
        by_cases hk : y2.f0 = 2
        · have hv := HV.out
          unfold valL at hv
          rw [if_pos hk] at hv
          obtain ⟨rfl, rfl, rfl⟩ : V0 = 2 ∧ V1 = 0 ∧ V2 = y2.f2 := by injection hv with a b c; exact ⟨a, b, c⟩
          go_wp2_with fail
          go_meet
          case rel => rw [HW5.out, HW3.out]
        · have hv := HV.out
          unfold valL at hv
          rw [if_neg hk] at hv
          obtain ⟨rfl, rfl, rfl⟩ : V0 = 1 ∧ V1 = y2.f1 ∧ V2 = ⟨#[]⟩ := by injection hv with a b c; exact ⟨a, b, c⟩
          have hk' : (y2.f0 == 2) = false := by simpa using hk
          go_wp2_with fail
          go_meet
          case rel => rw [HW5.out, HW3.out]
      case rest =>
        subst hcut
        have HCL2 := HCL
        rw [HS3.out] at HCL2
        clear d0 d1 d2 d3 q0 q1 q2 q3 q4 c0 c1 c2 c3' hb3 b0 b1 b2 b3
        go_wp2_with fail
        refine' wp_region_factsM (S := (fun _ W => Below W5.heap.size W5 W)) (fun _ W W' => Below W.heap.size W W') [eqM _, eqM _, eqM (.slice (some ad3) 3 c3), eqM (.pointer (some ad3)), eqM (.pointer (some ⟨ad3.block, ad3.off + 1, none⟩)), eqM (.int .i64 y0.f1), eqM _, eqM (.slice (some ad3) 3 c3), eqM (.pointer (some ⟨ad3.block, ad3.off + 4, none⟩)), eqM (.pointer (some ⟨ad3.block, ad3.off + 4 + 1, none⟩)), eqM (.int .i64 y1.f1), eqM (.agg #[.int .i64 V0, .int .i64 V1, .string V2]), eqM (.agg #[.int .i64 y0.f1, .int .i64 y1.f1, .int .i64 V0, .int .i64 V1, .string V2]), rowLit W5.heap.size ⟨y0.f1, y1.f1, ⟨V0, V1, V2⟩⟩] (by kernel_rfl) (by kernel_rfl) ?hst ?h0 (Ord.stepsM_cons ?s0 (Ord.stepsM_cons ?s1 (Ord.stepsM_cons ?s2 (Ord.stepsM_cons ?s3 (Ord.stepsM_cons ?s4 (Ord.stepsM_cons ?s5 (Ord.stepsM_cons ?s6 (Ord.stepsM_cons ?s7 (Ord.stepsM_cons ?s8 (Ord.stepsM_cons ?s9 (Ord.stepsM_cons ?s10 (Ord.stepsM_cons ?s11 (Ord.stepsM_cons ?s12 (Ord.stepsM_cons ?s13 (Ord.stepsM_nil))))))))))))))) ?fin
        case s0 =>
          intro g W L hL hSW hd
          try simp only [Nat.zero_add, Nat.reduceAdd] at hd ⊢
          with_reducible refine OpGives.pre_reads [] 68 ?_ ?_ ?_
          · rfl
          · kernel_rfl
          simp only [List.map_cons, List.map_nil]
          refine OpGives.val (w' := W) ?_ ⟨Below.refl _ _, rfl, hSW⟩
          go_simp
          try with_reducible rfl
        case s1 =>
          intro g W L hL hSW hd
          try simp only [Nat.zero_add, Nat.reduceAdd] at hd ⊢
          with_reducible refine OpGives.pre_reads [] 68 ?_ ?_ ?_
          · rfl
          · kernel_rfl
          simp only [List.map_cons, List.map_nil]
          refine OpGives.val (w' := W) ?_ ⟨Below.refl _ _, rfl, hSW⟩
          go_simp
          try with_reducible rfl
        case s2 =>
          intro g W L hL hSW hd
          try simp only [Nat.zero_add, Nat.reduceAdd] at hd ⊢
          have h1 : g 1 = _ := hd 1 (by decide) (by kernel_rfl)
          with_reducible refine OpGives.pre_reads [(43, 1)] 68 ?_ ?_ ?_
          · rfl
          · kernel_rfl
          simp only [List.map_cons, List.map_nil]
          obtain ⟨z3, q0, q1, v0, v1, v2⟩ := HCL2.out W hSW; refine OpGives.val (v := .slice (some ad3) 3 c3) (w' := W) ?_ ⟨Below.refl _ _, rfl, hSW⟩; rw [h1]; go_simp
        case s3 =>
          intro g W L hL hSW hd
          try simp only [Nat.zero_add, Nat.reduceAdd] at hd ⊢
          have h2 : g 2 = _ := hd 2 (by decide) (by kernel_rfl)
          with_reducible refine OpGives.pre_reads [(44, 2)] 68 ?_ ?_ ?_
          · rfl
          · kernel_rfl
          simp only [List.map_cons, List.map_nil]
          refine OpGives.val (v := .pointer (some ad3)) (w' := W) ?_ ⟨Below.refl _ _, rfl, hSW⟩; rw [h2]; go_simp
        case s4 =>
          intro g W L hL hSW hd
          try simp only [Nat.zero_add, Nat.reduceAdd] at hd ⊢
          have h3 : g 3 = _ := hd 3 (by decide) (by kernel_rfl)
          with_reducible refine OpGives.pre_reads [(45, 3)] 68 ?_ ?_ ?_
          · rfl
          · kernel_rfl
          simp only [List.map_cons, List.map_nil]
          refine OpGives.val (v := .pointer (some ⟨ad3.block, ad3.off + 1, none⟩)) (w' := W) ?_ ⟨Below.refl _ _, rfl, hSW⟩; rw [h3]; go_simp
        case s5 =>
          intro g W L hL hSW hd
          try simp only [Nat.zero_add, Nat.reduceAdd] at hd ⊢
          have h4 : g 4 = _ := hd 4 (by decide) (by kernel_rfl)
          with_reducible refine OpGives.pre_reads [(46, 4)] 68 ?_ ?_ ?_
          · rfl
          · kernel_rfl
          simp only [List.map_cons, List.map_nil]
          obtain ⟨z3, q0, q1, v0, v1, v2⟩ := HCL2.out W hSW; refine OpGives.val (v := .int .i64 y0.f1) (w' := W) ?_ ⟨Below.refl _ _, rfl, hSW⟩; rw [h4]; go_simp
        case s6 =>
          intro g W L hL hSW hd
          try simp only [Nat.zero_add, Nat.reduceAdd] at hd ⊢
          with_reducible refine OpGives.pre_reads [] 68 ?_ ?_ ?_
          · rfl
          · kernel_rfl
          simp only [List.map_cons, List.map_nil]
          refine OpGives.val (w' := W) ?_ ⟨Below.refl _ _, rfl, hSW⟩
          go_simp
          try with_reducible rfl
        case s7 =>
          intro g W L hL hSW hd
          try simp only [Nat.zero_add, Nat.reduceAdd] at hd ⊢
          have h6 : g 6 = _ := hd 6 (by decide) (by kernel_rfl)
          with_reducible refine OpGives.pre_reads [(48, 6)] 68 ?_ ?_ ?_
          · rfl
          · kernel_rfl
          simp only [List.map_cons, List.map_nil]
          obtain ⟨z3, q0, q1, v0, v1, v2⟩ := HCL2.out W hSW; refine OpGives.val (v := .slice (some ad3) 3 c3) (w' := W) ?_ ⟨Below.refl _ _, rfl, hSW⟩; rw [h6]; go_simp
        case s8 =>
          intro g W L hL hSW hd
          try simp only [Nat.zero_add, Nat.reduceAdd] at hd ⊢
          have h7 : g 7 = _ := hd 7 (by decide) (by kernel_rfl)
          with_reducible refine OpGives.pre_reads [(49, 7)] 68 ?_ ?_ ?_
          · rfl
          · kernel_rfl
          simp only [List.map_cons, List.map_nil]
          refine OpGives.val (v := .pointer (some ⟨ad3.block, ad3.off + 4, none⟩)) (w' := W) ?_ ⟨Below.refl _ _, rfl, hSW⟩; rw [h7]; go_simp
        case s9 =>
          intro g W L hL hSW hd
          try simp only [Nat.zero_add, Nat.reduceAdd] at hd ⊢
          have h8 : g 8 = _ := hd 8 (by decide) (by kernel_rfl)
          with_reducible refine OpGives.pre_reads [(50, 8)] 68 ?_ ?_ ?_
          · rfl
          · kernel_rfl
          simp only [List.map_cons, List.map_nil]
          refine OpGives.val (v := .pointer (some ⟨ad3.block, ad3.off + 4 + 1, none⟩)) (w' := W) ?_ ⟨Below.refl _ _, rfl, hSW⟩; rw [h8]; go_simp
        case s10 =>
          intro g W L hL hSW hd
          try simp only [Nat.zero_add, Nat.reduceAdd] at hd ⊢
          have h9 : g 9 = _ := hd 9 (by decide) (by kernel_rfl)
          with_reducible refine OpGives.pre_reads [(51, 9)] 68 ?_ ?_ ?_
          · rfl
          · kernel_rfl
          simp only [List.map_cons, List.map_nil]
          obtain ⟨z3, q0, q1, v0, v1, v2⟩ := HCL2.out W hSW; refine OpGives.val (v := .int .i64 y1.f1) (w' := W) ?_ ⟨Below.refl _ _, rfl, hSW⟩; rw [h9]; go_simp
        case s11 =>
          intro g W L hL hSW hd
          try simp only [Nat.zero_add, Nat.reduceAdd] at hd ⊢
          with_reducible refine OpGives.pre_reads [] 68 ?_ ?_ ?_
          · rfl
          · kernel_rfl
          simp only [List.map_cons, List.map_nil]
          obtain ⟨z3, q0, q1, v0, v1, v2⟩ := HCL2.out W hSW; refine OpGives.val (v := .agg #[.int .i64 V0, .int .i64 V1, .string V2]) (w' := W) ?_ ⟨Below.refl _ _, rfl, hSW⟩; go_simp
        case s12 =>
          intro g W L hL hSW hd
          try simp only [Nat.zero_add, Nat.reduceAdd] at hd ⊢
          have h5 : g 5 = _ := hd 5 (by decide) (by kernel_rfl)
          have h10 : g 10 = _ := hd 10 (by decide) (by kernel_rfl)
          have h11 : g 11 = _ := hd 11 (by decide) (by kernel_rfl)
          with_reducible refine OpGives.pre_reads [(47, 5), (52, 10), (53, 11)] 68 ?_ ?_ ?_
          · rfl
          · kernel_rfl
          simp only [List.map_cons, List.map_nil]
          refine OpGives.val (v := .agg #[.int .i64 y0.f1, .int .i64 y1.f1, .int .i64 V0, .int .i64 V1, .string V2]) (w' := W) ?_ ⟨Below.refl _ _, rfl, hSW⟩; rw [h5, h10, h11]; go_simp
        case s13 =>
          intro g W L hL hSW hd
          try simp only [Nat.zero_add, Nat.reduceAdd] at hd ⊢
          have h12 : g 12 = _ := hd 12 (by decide) (by kernel_rfl)
          with_reducible refine OpGives.pre_reads [(54, 12)] 68 ?_ ?_ ?_
          · rfl
          · kernel_rfl
          simp only [List.map_cons, List.map_nil]
          refine OpGives.val (v := .slice (some ⟨W.heap.size, 0, none⟩) 1 1) (w' := W.alloc (.cells #[.int .i64 y0.f1, .int .i64 y1.f1, .int .i64 V0, .int .i64 V1, .string V2] 55)) ?_ ⟨(Below.refl _ _).alloc (Nat.le_refl _) _, ⟨_, rfl, hSW.size, alloc_lastV _ _⟩, hSW.alloc hSW.size _⟩; rw [h12]; go_simp
        case hst =>
          refine fun i j v w w' _ h hR => st_of (R := fun W W' => Below W.heap.size W W') ?_ i v w w' h hR
          repeat' first
            | exact trivial
            | with_reducible refine StL.eq ?_
            | refine ⟨fun v w w' h hR => rowLit_below h hR, ?_⟩
        case h0 => exact (Below.refl _ _).drew
        case fin =>
          intro v' W L hL hSW hf
          have h13 := hf 13 (Nat.lt_of_lt_of_eq (by decide : 13 < 14) rfl)
          have h0 : v' 0 = _ := hf 0 (Nat.lt_of_lt_of_eq (by decide : 0 < 14) rfl)
          change rowLit W5.heap.size ⟨y0.f1, y1.f1, ⟨V0, V1, V2⟩⟩ (v' 13) W at h13
          clear hf
          generalize hF : Ord.pre _ _ v' _ = F
          rw [Ord.pre_lit [some 42, some 43, some 44, some 45, some 46, some 47, some 48, some 49, some 50, some 51, some 52, some 53, some 54, some 55]
            (by kernel_rfl)] at hF
          simp only [Ord.puts, Nat.zero_add, Nat.reduceAdd] at hF
          subst hF
          rw [h0]
          obtain ⟨g, eg, hlg, hgg⟩ := h13
          rw [eg]
          have hbW := HB5.out.trans (hSW.mono HB5.out.size)
          have hrW := Kd.R_below HROW.out hbW
          obtain ⟨v8, W8, hr8, hg8, hR8⟩ := append_row (b0 := W1.heap.size) hrW (Nat.le_trans HBE.out.size hbW.size) hgg (by have := HAL.out; omega) 23
          have hB8 := grown_belowK hrW hg8 (HBE.out.trans (hbW.mono HBE.out.size)) (Nat.le_trans HBE.out.size hbW.size)
          have HR8 := Lib.hid hR8
          have HB8 := Lib.hid hB8
          clear hg8 hR8 hB8 hrW hbW hSW eg hgg hlg h0
          refine any_one (i := 14) (by kernel_rfl) ?_
          refine wpOp_value (v := v8) (w' := W8) rfl rfl ?_ ?_
          · refine exec_append (.tmp 42) (.tmp 55) 23 rfl ?_
            have key : ∀ a b ty, a = u4 → b = .slice (some ⟨g, 0, none⟩) 1 1 → ty = 23 → (Builtin.append_ #[23, 23] ty #[a, b]).run Tryd.prog W = .ok v8 W8 := by rintro _ _ _ rfl rfl rfl; exact hr8
            refine key _ _ _ ?_ ?_ rfl
            · go_simp
            · go_simp
          refine any_one (i := 15) (by kernel_rfl) ?_
          refine wpOp_value (v := v8) (w' := W8) rfl rfl (by go_simp) ?_
          refine wpAny_done (by kernel_rfl) ?_ _
          try simp only [List.getElem_toArray, List.getElem_cons_succ, List.getElem_cons_zero]
          go_frame
          clear hr8
          go_wp2_with fail
          go_roundw
          case rel => exact ⟨i + 1, _, by go_num, hil, by rw [List.length_append]; have := HAL.out; simp; omega, HR8.out, HB8.out, HR3⟩
          case measure => simp [intOf]; omega
    · have hie : i = l.length := by omega
      have hr2 := hr.out
      rw [hie, List.drop_length, rowsL, Option.map_some, List.append_nil] at hr2
      obtain ⟨A5, c5, rfl, hlc, hC⟩ := Kd.R_reads hrow
      have HC := Lib.hid hC
      have HLC := Lib.hid hlc
      have hrp := HRP.out
      rw [hr2] at hrp
      have HRP2 := Lib.hid hrp
      have HGR := Lib.hid hgr
      have hml : acc.length ≤ 2513169434916 := by omega
      clear hrp hr2 hr hrow hal hgr hbe hie hC hlc b0 b1 b2
      cases hok : okRows acc with
      | false =>
        have HF := Lib.hid (show RP = TakeRowsPost ([], 4) w by rw [HRP2.out]; simp only [hok, Bool.false_and]; rfl)
        have HRT := Lib.hid (fun W (hW : Below wr.heap.size wr W) => (show Calls Tryd.prog 34 #[.slice A5 acc.length c5] W (fun e w' => e = .returned (.bool false) ∧ Below W.heap.size W w') by rw [← hok]; exact rright_calls acc A5 c5 W (Kd.C_below HC.out hW) HLC.out))
        clear hok
        go_wp2_with fail
        refine region_quiet_lit (fun W => Below wr.heap.size wr W) (by kernel_rfl) (by kernel_rfl) ((Below.refl _ _).drew) ?_
        refine BigFrame.wpQuiet_want (by go_simp) (fun K hK => quiet_val (v := .slice A5 acc.length c5) (fun w' hw' => by go_simp) (hK _ ?_))
        clear hK K
        simp only [Act.put, List.setIfInBounds_toArray, List.set_cons_zero, List.set_cons_succ]
        refine BigFrame.wpQuiet_want (by go_simp) (fun K hK => quiet_call (v := .bool false) (f := 34) (args := #[.slice A5 acc.length c5]) (fun w' hw' => by go_simp) (fun w' hw' => (HRT.out w' hw').mono fun e w2 h => ⟨h.1, hw'.trans (h.2.mono hw'.size)⟩) (hK _ ?_))
        clear hK K
        simp only [Act.put, List.setIfInBounds_toArray, List.set_cons_zero, List.set_cons_succ]
        refine BigFrame.wpQuiet_want (by go_simp) (fun K hK => quiet_val (v := .bool true) (fun w' hw' => by go_simp) (hK _ ?_))
        clear hK K
        simp only [Act.put, List.setIfInBounds_toArray, List.set_cons_zero, List.set_cons_succ]
        refine BigFrame.wpQuiet_want (by go_simp) (fun K hK => quiet_val (v := .bool true) (fun w' hw' => by go_simp) (hK _ ?_))
        clear hK K
        simp only [Act.put, List.setIfInBounds_toArray, List.set_cons_zero, List.set_cons_succ]
        refine BigFrame.wpQuiet_skip (by go_simp) ?_
        simp only [Act.put, List.setIfInBounds_toArray, List.set_cons_zero, List.set_cons_succ]
        refine BigFrame.wpQuiet_skip (by go_simp) ?_
        simp only [Act.put, List.setIfInBounds_toArray, List.set_cons_zero, List.set_cons_succ]
        refine BigFrame.wpQuiet_skip (by go_simp) ?_
        simp only [Act.put, List.setIfInBounds_toArray, List.set_cons_zero, List.set_cons_succ]
        refine BigFrame.wpQuiet_skip (by go_simp) ?_
        simp only [Act.put, List.setIfInBounds_toArray, List.set_cons_zero, List.set_cons_succ]
        refine BigFrame.wpQuiet_skip (by go_simp) ?_
        simp only [Act.put, List.setIfInBounds_toArray, List.set_cons_zero, List.set_cons_succ]
        refine BigFrame.wpQuiet_want (by go_simp) (fun K hK => quiet_val (v := .bool true) (fun w' hw' => by go_simp) (hK _ ?_))
        clear hK K
        simp only [Act.put, List.setIfInBounds_toArray, List.set_cons_zero, List.set_cons_succ]
        refine wpQuiet_nil ?_
        intro W2 hW2
        have HB2 := Lib.hid (HBW.out.trans (hW2.mono HBW.out.size))
        clear hW2
        go_wp2_with fail
        rw [HF.out]
        exact ⟨none, 0, rfl, Kd.R_nil _ _ _ _ _, HB2.out⟩
      | true =>
        obtain ⟨b, hb⟩ : ∃ b, eqC (rowsC acc) x = b := ⟨_, rfl⟩
        have HF := Lib.hid (show RP = TakeRowsPost (if b then (acc, 0) else ([], 4)) w by rw [HRP2.out]; simp only [hok, hb, Bool.true_and])
        have HRT := Lib.hid (fun W (hW : Below wr.heap.size wr W) => (show Calls Tryd.prog 34 #[.slice A5 acc.length c5] W (fun e w' => e = .returned (.bool true) ∧ Below W.heap.size W w') by rw [← hok]; exact rright_calls acc A5 c5 W (Kd.C_below HC.out hW) HLC.out))
        have HRW := Lib.hid (fun W (hW : Below wr.heap.size wr W) => rows7_calls acc A5 c5 W (Kd.C_below HC.out hW) HLC.out hml)
        have HB := Lib.hid hb
        have HCL := Lib.hid (fun W (hW : Below wr.heap.size wr W) => (box4 ((hW.block _ (Array.getElem?_eq_some_iff.1 HGR.out).1).trans HGR.out)).1)
        have HXA := Lib.hid (fun W (hW : Below wr.heap.size wr W) => (show Kd.C k42 W A x.f3.length x.f3 by rw [← HL.out]; exact Kd.C_below HAW.out (HBW.out.trans (hW.mono HBW.out.size))))
        have HLL := Lib.hid (show l.length = x.f3.length by rw [HL.out])
        clear hok hb
        go_wp2_with fail
        rw [HLL.out]
        refine' wp_region_factsW (sz := 68) (S := (fun _ W => Below wr.heap.size wr W)) (fun _ W W' => Below W.heap.size W W') [eqM _, eqM (.bool true), eqM (.bool false), eqM (.bool false), eqM _, cellF wr.heap.size (rowsC acc), eqM (.agg #[.int .i64 x.f0, .int .i64 x.f1, .string x.f2, .slice A x.f3.length c]), eqM (.bool b), eqM (.bool (!b)), eqM (.bool (!b))] (by kernel_rfl) (by kernel_rfl) rfl (guardsM_of [(3, false)] (n := 10) rfl (by kernel_rfl) ⟨fun _ _ h => h, trivial⟩) ?hst ?h0 (Ord.stepsW_cons ?s0 (Ord.stepsW_cons ?s1 (Ord.stepsW_cons ?s2 (Ord.stepsW_cons ?s3 (Ord.stepsW_cons ?s4 (Ord.stepsW_cons ?s5 (Ord.stepsW_cons ?s6 (Ord.stepsW_cons ?s7 (Ord.stepsW_cons ?s8 (Ord.stepsW_cons ?s9 (Ord.stepsW_nil))))))))))) ?fin
        case s0 =>
          intro g W L hL hSW hd
          try simp only [Nat.zero_add, Nat.reduceAdd] at hd ⊢
          with_reducible refine OpGives.pre_reads [] 68 ?_ ?_ ?_
          · rfl
          · kernel_rfl
          simp only [List.map_cons, List.map_nil]
          refine OpGives.val (w' := W) ?_ ⟨Below.refl _ _, rfl, hSW⟩
          go_simp
          try with_reducible rfl
        case s1 =>
          intro g W L hL hSW hd
          try simp only [Nat.zero_add, Nat.reduceAdd] at hd ⊢
          have h0 : g 0 = _ := hd 0 (by decide) (by kernel_rfl)
          with_reducible refine OpGives.pre_reads [(57, 0)] 68 ?_ ?_ ?_
          · rfl
          · kernel_rfl
          simp only [List.map_cons, List.map_nil]
          refine OpGives.call (f := 34) (args := #[.slice A5 acc.length c5]) (w' := W) (by go_simp) ((HRT.out W hSW).mono fun e W' ⟨he, hb⟩ => ⟨_, he, hb, rfl, hSW.trans (hb.mono hSW.size)⟩)
        case s2 =>
          intro g W L hL hSW hd
          try simp only [Nat.zero_add, Nat.reduceAdd] at hd ⊢
          have h1 : g 1 = _ := hd 1 (by decide) (by kernel_rfl)
          with_reducible refine OpGives.pre_reads [(58, 1)] 68 ?_ ?_ ?_
          · rfl
          · kernel_rfl
          simp only [List.map_cons, List.map_nil]
          refine OpGives.val (w' := W) ?_ ⟨Below.refl _ _, rfl, hSW⟩
          go_simp
          try with_reducible rfl
        case s3 =>
          intro g W L hL hSW hd
          try simp only [Nat.zero_add, Nat.reduceAdd] at hd ⊢
          have h2 : g 2 = _ := hd 2 (by decide) (by kernel_rfl)
          with_reducible refine OpGives.pre_reads [(59, 2)] 68 ?_ ?_ ?_
          · rfl
          · kernel_rfl
          simp only [List.map_cons, List.map_nil]
          refine OpGives.val (w' := W) ?_ ⟨Below.refl _ _, rfl, hSW⟩
          go_simp
          try with_reducible rfl
        case s4 =>
          intro g W L hL hSW hd
          try simp only [Nat.zero_add, Nat.reduceAdd] at hd ⊢
          with_reducible refine OpGives.pre_reads [] 68 ?_ ?_ ?_
          · rfl
          · kernel_rfl
          simp only [List.map_cons, List.map_nil]
          refine OpGives.val (w' := W) ?_ ⟨Below.refl _ _, rfl, hSW⟩
          go_simp
          try with_reducible rfl
        case s5 =>
          intro g W L hL hSW hd
          try simp only [Nat.zero_add, Nat.reduceAdd] at hd ⊢
          have h4 : g 4 = _ := hd 4 (by decide) (by kernel_rfl)
          with_reducible refine OpGives.pre_reads [(61, 4)] 68 ?_ ?_ ?_
          · rfl
          · kernel_rfl
          simp only [List.map_cons, List.map_nil]
          refine OpGives.call (f := 35) (args := #[.slice A5 acc.length c5]) (w' := W) (by go_simp) ((HRW.out W hSW).mono fun e W' ⟨u, he, hf, hb⟩ => ⟨u, he, hb, cellF_lower hf hSW.size, hSW.trans (hb.mono hSW.size)⟩)
        case s6 =>
          intro g W L hL hSW hd
          try simp only [Nat.zero_add, Nat.reduceAdd] at hd ⊢
          with_reducible refine OpGives.pre_reads [] 68 ?_ ?_ ?_
          · rfl
          · kernel_rfl
          simp only [List.map_cons, List.map_nil]
          obtain ⟨z0, z1, z2, z3⟩ := HCL.out W hSW; rw [HLL.out] at z3; refine OpGives.val (v := .agg #[.int .i64 x.f0, .int .i64 x.f1, .string x.f2, .slice A x.f3.length c]) (w' := W) ?_ ⟨Below.refl _ _, rfl, hSW⟩; go_simp
        case s7 =>
          intro g W L hL hSW hd
          try simp only [Nat.zero_add, Nat.reduceAdd] at hd ⊢
          have h5 := hd 5 (by decide) (by kernel_rfl)
          change (cellF wr.heap.size (rowsC acc)) (g 5) W at h5
          have h6 : g 6 = _ := hd 6 (by decide) (by kernel_rfl)
          with_reducible refine OpGives.pre_reads [(62, 5), (63, 6)] 68 ?_ ?_ ?_
          · rfl
          · kernel_rfl
          simp only [List.map_cons, List.map_nil]
          rw [h6]; obtain ⟨v3, e5, hr5⟩ := h5; obtain ⟨A7, c7, rfl⟩ := R_slice hr5; rw [e5]; refine OpGives.call (f := 30) (args := #[.agg #[.int .i64 (rowsC acc).f0, .int .i64 (rowsC acc).f1, .string (rowsC acc).f2, .slice A7 (rowsC acc).f3.length c7], .agg #[.int .i64 x.f0, .int .i64 x.f1, .string x.f2, .slice A x.f3.length c]]) (w' := W) (by go_simp) ((same4_calls _ (rowsC acc) x (Nat.lt_succ_self _) A7 c7 A c W (Kd.R_reads' hr5).2.2 (HXA.out W hSW)).mono fun e W' ⟨he, hb⟩ => by rw [HB.out] at he; exact ⟨_, he, hb, rfl, hSW.trans (hb.mono hSW.size)⟩)
        case s8 =>
          intro g W L hL hSW hd
          try simp only [Nat.zero_add, Nat.reduceAdd] at hd ⊢
          have h7 : g 7 = _ := hd 7 (by decide) (by kernel_rfl)
          with_reducible refine OpGives.pre_reads [(64, 7)] 68 ?_ ?_ ?_
          · rfl
          · kernel_rfl
          simp only [List.map_cons, List.map_nil]
          refine OpGives.val (w' := W) ?_ ⟨Below.refl _ _, rfl, hSW⟩
          go_simp
          try with_reducible rfl
        case s9 =>
          intro g W L hL hSW hd
          try simp only [Nat.zero_add, Nat.reduceAdd] at hd ⊢
          have h3 : g 3 = _ := hd 3 (by decide) (by kernel_rfl)
          have h8 : g 8 = _ := hd 8 (by decide) (by kernel_rfl)
          with_reducible refine OpGives.pre_reads [(60, 3), (65, 8)] 68 ?_ ?_ ?_
          · rfl
          · kernel_rfl
          simp only [List.map_cons, List.map_nil]
          refine OpGives.val (w' := W) ?_ ⟨Below.refl _ _, rfl, hSW⟩
          go_simp
          try with_reducible rfl
        case hst =>
          refine fun i j v w w' _ h hR => st_of (R := fun W W' => Below W.heap.size W W') ?_ i v w w' h hR
          repeat' first
            | exact trivial
            | with_reducible refine StL.eq ?_
            | refine ⟨fun v w w' h hR => cellF_below h hR, ?_⟩
        case h0 => exact (Below.refl _ _).drew
        case fin =>
          intro v W L hL hSW hf
          have h9 : v 9 = _ := hf 9 (Nat.lt_of_lt_of_eq (by decide : 9 < 10) rfl)
          clear hf
          generalize hF : Ord.pre _ _ v _ = F'
          rw [Ord.pre_lit [some 57, some 58, some 59, some 60, some 61, some 62, some 63, some 64, some 65, some 66]
            (by kernel_rfl)] at hF
          simp only [Ord.puts, Nat.zero_add, Nat.reduceAdd] at hF
          subst hF
          rw [h9]
          have HB2 := Lib.hid (HBW.out.trans (hSW.mono HBW.out.size))
          have HC2 := Lib.hid (Kd.R_lower (Kd.R_below HROW.out hSW) HN1.out.size)
          clear hSW h9
          refine wpAny_done (by kernel_rfl) ?_ _
          try simp only [List.getElem_toArray, List.getElem_cons_succ, List.getElem_cons_zero]
          go_frame
          cases b with
          | false =>
            go_wp2_with fail
            rw [HF.out]
            exact ⟨none, 0, rfl, Kd.R_nil _ _ _ _ _, HB2.out⟩
          | true =>
            go_wp2_with fail
            rw [HF.out]
            exact ⟨A5, c5, rfl, HC2.out, HB2.out⟩
end Go.Proofs.YtgjlchcfdbmmlaaDoor.PObjectTakes
namespace Go.Proofs.YtgjlchcfdbmmlaaDoor.PObjectTakes
open Go.RowKit Go.Proofs.YtgjlchcfdbmmlaaDoor.Ord Go.Proofs.YtgjlchcfdbmmlaaDoor.Obj Go.Proofs.YtgjlchcfdbmmlaaDoorW.PrintWords Go.Proofs.YtgjlchcfdbmmlaaDoorW.PrintLast Go.Proofs.YtgjlchcfdbmmlaaDoorW.PrintMore
attribute [local irreducible] OpGives
attribute [local go_sem] rdl_const rdl_func rdl_global rdl_nil rdl_cons

/-- The kid that a cell may be. -/
def kidL (x : S42) : Option S60 := match x.f3 with | [a, b] => some ⟨IntKind.u8.wrap (Int.tmod a.f1 256), b.f2⟩ | _ => none
/-- The object that a cell may be. -/
noncomputable def guessO (x : S42) : Ob := match x.f3 with
  | [_, b, r, k] => ⟨1, b.f2, (dTakeRows r).1, k.f3.filterMap kidL, [], 0, ⟨#[]⟩, ⟨#[]⟩⟩
  | [_, p, s, n, t] => ⟨2, ⟨#[]⟩, [], [], p.f3.map (·.f2), s.f1, n.f2, t.f2⟩
  | _ => zOb
def GuessPost (o : Ob) (w : World) (e : Ending) (w' : World) : Prop :=
  ∃ Ar cr Ak ck Ap cp, e = .returned (.agg (obV o Ar cr Ak ck Ap cp)) ∧ ObR w' w.heap.size o Ar cr Ak ck Ap cp ∧ Below w.heap.size w w'
theorem elem_at {w : World} {A : Option Addr} {l : List S42} {n : Nat} (j : Nat) {x : S42} (h : Kd.C k42 w A n l) (hn : n = l.length) (hx : l[j]? = some x) :
    ∃ (ad : Addr) (A3 : Option Addr) (c3 : Nat), A = some ad ∧ (0 < j → w.cell? ⟨ad.block, ad.off + j * 4, none⟩ = some (.int .i64 x.f0)) ∧ w.cell? ⟨ad.block, ad.off + j * 4 + 1, none⟩ = some (.int .i64 x.f1) ∧ w.cell? ⟨ad.block, ad.off + j * 4 + 2, none⟩ = some (.string x.f2) ∧ w.cell? ⟨ad.block, ad.off + j * 4 + 3, none⟩ = some (.slice A3 x.f3.length c3) ∧ x.f3.length ≤ c3 ∧ Kd.C k42 w A3 x.f3.length x.f3 ∧ ad.block < w.heap.size := by
  subst hn
  obtain ⟨ad, A3, c3, e, h0, h1, h2, h3, hl, hC, hb⟩ := cell_at h hx
  by_cases hj : j * 4 = 0
  · simp only [Addr.add, hj, if_true, Nat.add_zero] at h1 h2 h3 hb ⊢
    exact ⟨ad, A3, c3, e, fun h => by omega, h1, h2, h3, hl, hC, hb⟩
  · simp only [Addr.add, hj, if_false] at h0 h1 h2 h3 hb ⊢
    exact ⟨ad, A3, c3, e, fun _ => h0, h1, h2, h3, hl, hC, hb⟩
/-- A kid that a literal made. -/
def kidLit (lo : Nat) (r : S60) : Value → World → Prop := fun u W => ∃ g, u = .slice (some ⟨g, 0, none⟩) 1 1 ∧ lo ≤ g ∧ W.heap[g]? = some (.cells #[.int .u8 r.f0, .string r.f1] 60 (0, 0))
theorem kidLit_below {lo : Nat} {r : S60} {u : Value} {W W' : World} (h : kidLit lo r u W) (hb : Below W.heap.size W W') : kidLit lo r u W' := by
  obtain ⟨g, e, hl, hg⟩ := h
  exact ⟨g, e, hl, (hb.block _ (Array.getElem?_eq_some_iff.1 hg).1).trans hg⟩
/-- An object's box, new. -/
def obLit (lo : Nat) : Value → World → Prop := fun u W => ∃ g, u = .pointer (some ⟨g, 0, none⟩) ∧ lo ≤ g ∧ W.heap[g]? = some (.cells obZ 27 (0, 0))
theorem obLit_below {lo : Nat} {u : Value} {W W' : World} (h : obLit lo u W) (hb : Below W.heap.size W W') : obLit lo u W' := by
  obtain ⟨g, e, hl, hg⟩ := h
  exact ⟨g, e, hl, (hb.block _ (Array.getElem?_eq_some_iff.1 hg).1).trans hg⟩
def strLit (lo : Nat) (s : ByteArray) : Value → World → Prop := fun u W => ∃ g, u = .slice (some ⟨g, 0, none⟩) 1 1 ∧ lo ≤ g ∧ W.heap[g]? = some (.cells #[.string s] 9 (0, 0))
theorem strLit_below {lo : Nat} {s : ByteArray} {u : Value} {W W' : World} (h : strLit lo s u W) (hb : Below W.heap.size W W') : strLit lo s u W' := by
  obtain ⟨g, e, hl, hg⟩ := h
  exact ⟨g, e, hl, (hb.block _ (Array.getElem?_eq_some_iff.1 hg).1).trans hg⟩
/-- What holds between the rounds, from a world w4 on: the object's box g (an elder one), its kids' row (younger). -/
structure NodeG (w4 : World) (g : Nat) (lab : ByteArray) (rv v : Value) (acc : List S60) (W : World) : Prop where
  os : W.os = w4.os
  tape : W.tape = w4.tape
  output : W.output = w4.output
  size : w4.heap.size ≤ W.heap.size
  keep : ∀ k, k < w4.heap.size → k ≠ g → W.heap[k]? = w4.heap[k]?
  lt : g < w4.heap.size
  blk : W.heap[g]? = some (.cells #[.int .i64 1, .string lab, rv, v, .slice none 0 0, .int .i64 0, .string (⟨#[]⟩ : ByteArray), .string (⟨#[]⟩ : ByteArray)] 27 (0, 0))
  row : rK W w4.heap.size v acc
section
variable {w4 W W' : World} {g : Nat} {lab : ByteArray} {rv v v' : Value} {acc acc' : List S60}
theorem NodeG.later (h : NodeG w4 g lab rv v acc W) (hb : Below W.heap.size W W') : NodeG w4 g lab rv v acc W' :=
  ⟨hb.os.trans h.os, hb.tape.trans h.tape, hb.output.trans h.output, Nat.le_trans h.size hb.size, fun k hk hg => (hb.block k (Nat.lt_of_lt_of_le hk h.size)).trans (h.keep k hk hg), h.lt, (hb.block g (Array.getElem?_eq_some_iff.1 h.blk).1).trans h.blk, Kd.R_below h.row hb⟩
theorem NodeG.step (h : NodeG w4 g lab rv v acc W) (hg : W.grownBy W' v.ownBlock) (hr : rK W' w4.heap.size v' acc') : NodeG w4 g lab rv v' acc' (W'.setCell ⟨g, 3, none⟩ v') := by
  obtain ⟨_, inner, hown, _⟩ := h.row
  have hlt := h.lt
  have hs := h.size
  have hne : ∀ k, k < w4.heap.size → some k ≠ v.ownBlock := fun k hk e => by have := own_base hown k e.symm; omega
  refine ⟨hg.os.trans h.os, hg.tape.trans h.tape, hg.output.trans h.output, by rw [sc_size]; exact Nat.le_trans hs hg.size, fun k hk hkg => (set_far _ _ _ _ _ hkg).trans ((hg.block k (by omega) (hne k hk)).trans (h.keep k hk hkg)), h.lt, blk_put (cs' := #[.int .i64 1, .string lab, rv, v', .slice none 0 0, .int .i64 0, .string (⟨#[]⟩ : ByteArray), .string (⟨#[]⟩ : ByteArray)]) ((hg.block g (by omega) (hne g h.lt)).trans h.blk) 3 v' rfl, ?_⟩
  exact Kd.R_mono (Kd.R_step (Kd.R_bound hr) (fun k hk _ => set_far _ _ _ _ _ (by have := hk.2.1; omega))) (fun _ _ => trivial)
theorem NodeG.below {w1 : World} (h : NodeG w4 g lab rv v acc W) (hb : Below w1.heap.size w1 w4) (hg : w1.heap.size ≤ g) : Below w1.heap.size w1 W :=
  ⟨h.os.trans hb.os, h.tape.trans hb.tape, h.output.trans hb.output, Nat.le_trans hb.size h.size, fun k hk => (h.keep k (Nat.lt_of_lt_of_le hk hb.size) (by omega)).trans (hb.block k hk)⟩
theorem NodeG.rows {rs : List S55} (h : NodeG w4 g lab rv v acc W) (hr : rR w4 (g + 1) rv rs) : rR W (g + 1) rv rs :=
  Kd.R_mono (Kd.R_step (Kd.R_bound hr) (fun k hk hl => h.keep k hl (by have := hk.2.1; omega))) (fun _ _ => trivial)
end
theorem results_ob1 {fn : Func} (hfn : fn.results = #[.cell 2 27]) (tmps : Array Value) (w : World) (c : Nat) (a0 a1 a2 a3 a4 a5 a6 a7 : Value) (h2 : tmps.getD 2 undef = .pointer (some ⟨c, 0, none⟩))
    (hc : w.heap[c]? = some (.cells #[a0, a1, a2, a3, a4, a5, a6, a7] 27 (0, 0))) :
    (results fn tmps).run Tryd.prog w = .ok (.agg #[a0, a1, a2, a3, a4, a5, a6, a7]) w := by
  have h2' : tmps[2]?.getD undef = .pointer (some ⟨c, 0, none⟩) := by simpa using h2
  obtain ⟨⟨k0, k1, k2, k3⟩, k4, k5, k6, k7⟩ := box8 hc
  simp [results, hfn, h2', asAddr, k0, k1, k2, k3, k4, k5, k6, k7, go_sem]
theorem guess_results : (Tryd.f28).results = #[.cell 2 27] := Tryd.results28
set_option maxHeartbeats 16000000 in
set_option maxRecDepth 100000 in
theorem guess_four (k0 n0 : Int) (s0 : ByteArray) (xa b r k : S42) (A : Option Addr) (c : Nat) (w : World) (hA : Kd.C k42 w A 4 [xa, b, r, k]) (hrl : r.f3.length ≤ 1000000) (hkl : k.f3.length ≤ 1000000) :
    Calls Tryd.prog 28 #[.agg #[.int .i64 k0, .int .i64 n0, .string s0, .slice A 4 c]] w (GuessPost ⟨1, b.f2, (dTakeRows r).1, k.f3.filterMap kidL, [], 0, ⟨#[]⟩, ⟨#[]⟩⟩ w) := by
  obtain ⟨RP, hRP⟩ : ∃ RP : Ending → World → Prop, RP = GuessPost ⟨1, b.f2, (dTakeRows r).1, k.f3.filterMap kidL, [], 0, ⟨#[]⟩, ⟨#[]⟩⟩ w := ⟨_, rfl⟩
  rw [← hRP]
  have HRP := Lib.hid hRP
  clear hRP
  obtain ⟨W0, hW0⟩ : ∃ W0, W0 = w.alloc (.cells #[.int .i64 k0, .int .i64 n0, .string s0, .slice A 4 c] 42) := ⟨_, rfl⟩
  obtain ⟨W1, hW1⟩ : ∃ W1, W1 = W0.alloc (.cells obZ 27) := ⟨_, rfl⟩
  have hn0 : Below w.heap.size w W0 := by rw [hW0]; exact (Below.refl _ _).alloc (Nat.le_refl _) _
  have hn1 : Below W0.heap.size W0 W1 := by rw [hW1]; exact (Below.refl _ _).alloc (Nat.le_refl _) _
  have hg0 : W0.heap[w.heap.size]? = some (.cells #[.int .i64 k0, .int .i64 n0, .string s0, .slice A 4 c] 42 (0, 0)) := by rw [hW0]; exact alloc_lastV _ _
  have hs0 : W0.heap.size = w.heap.size + 1 := by rw [hW0]; simp
  have hg1 : W1.heap[w.heap.size + 1]? = some (.cells obZ 27 (0, 0)) := by rw [← hs0, hW1]; exact alloc_lastV _ _
  have hg01 := (hn1.block _ (Array.getElem?_eq_some_iff.1 hg0).1).trans hg0
  have hs1 : W1.heap.size = w.heap.size + 1 + 1 := by rw [hW1]; simp [hs0]
  have hb1 : Below w.heap.size w W1 := hn0.trans (hn1.mono hn0.size)
  obtain ⟨ad, A1, c1, rfl, e0, e1, e2, e3, l1, g1, hbk⟩ := elem_at 1 hA rfl (x := b) rfl
  simp only [show 1 * 4 = 4 from rfl] at e0 e1 e2 e3
  have b3 : W1.cell? ⟨w.heap.size, 3, none⟩ = some (.slice (some ad) 4 c) := (box4 hg01).1.2.2.2
  obtain ⟨W2, hW2⟩ : ∃ W2, W2 = W1.alloc (.cells #[.int .i64 1, .string b.f2, .slice none 0 0, .slice none 0 0, .slice none 0 0, .int .i64 0, .string (⟨#[]⟩ : ByteArray), .string (⟨#[]⟩ : ByteArray)] 27) := ⟨_, rfl⟩
  have hn2 : Below W1.heap.size W1 W2 := by rw [hW2]; exact (Below.refl _ _).alloc (Nat.le_refl _) _
  have hg2 : W2.heap[W1.heap.size]? = some (.cells #[.int .i64 1, .string b.f2, .slice none 0 0, .slice none 0 0, .slice none 0 0, .int .i64 0, .string (⟨#[]⟩ : ByteArray), .string (⟨#[]⟩ : ByteArray)] 27 (0, 0)) := by rw [hW2]; exact alloc_lastV _ _
  have hb2 := hb1.trans (hn2.mono hb1.size)
  obtain ⟨ad2, A2, c2, e', f0, f1, f2, f3, l2, g2, hbk2⟩ := elem_at 2 (Kd.C_below hA hb2) rfl (x := r) rfl
  cases e'
  replace f0 := f0 (by decide)
  simp only [show 2 * 4 = 8 from rfl] at f0 f1 f2 f3
  have HT := Lib.hid (dtakerows_calls r A2 c2 W2 g2 hrl)
  have HA := Lib.hid hA
  have HB1 := Lib.hid hb1
  have HN2 := Lib.hid hn2
  have HG0 := Lib.hid hg01
  have HG1 := Lib.hid hg1
  have HG2 := Lib.hid hg2
  have HS1 := Lib.hid hs1
  unfold obZ at hW1
  rw [hW1, hW0] at b3 hW2
  rw [hW2] at f0 f1 f2 f3
  have HW1 := Lib.hid (hW1.trans (by rw [hW0]))
  have HW2 := Lib.hid hW2
  clear hA hn0 hn1 hg0 hg1 hg01 hs0 hs1 hb1 hn2 hg2 hb2 hW0 hW1 hW2 g1 g2 l1 l2 e0 hbk2
  go_enter Tryd.func28, Tryd.ntmps28
  go_wp2_with fail
  rw [← HW2.out]
  clear b3 e1 e2 e3 f0 f1 f2 f3
  refine HT.out.mono ?_
  rintro e W3 ⟨Ar, cr, rfl, hR3, hb3⟩
  generalize hrs : (dTakeRows r).1 = rs at hR3
  generalize (dTakeRows r).2 = re
  have hb13 := HN2.out.trans (hb3.mono HN2.out.size)
  have hg3 := (hb3.block _ (Array.getElem?_eq_some_iff.1 HG2.out).1).trans HG2.out
  have hbl := blk_put (cs' := #[.int .i64 1, .string b.f2, .slice Ar rs.length cr, .slice none 0 0, .slice none 0 0, .int .i64 0, .string (⟨#[]⟩ : ByteArray), .string (⟨#[]⟩ : ByteArray)]) hg3 2 (.slice Ar rs.length cr) rfl
  have hb4 : Below W1.heap.size W1 (W3.setCell ⟨W1.heap.size, 2, none⟩ (.slice Ar rs.length cr)) := ⟨hb13.os, hb13.tape, hb13.output, by rw [sc_size]; exact hb13.size, fun k hk => (set_far _ _ _ _ _ (by omega)).trans (hb13.block k hk)⟩
  have hrr : rR (W3.setCell ⟨W1.heap.size, 2, none⟩ (.slice Ar rs.length cr)) (W1.heap.size + 1) (.slice Ar rs.length cr) rs := by
    have hs2 : W2.heap.size = W1.heap.size + 1 := by rw [HW2.out, ← HW1.out]; simp
    rw [hs2] at hR3
    exact Kd.R_mono (Kd.R_step (Kd.R_bound hR3) (fun k hk _ => set_far _ _ _ _ _ (by have := hk.2.1; omega))) (fun _ _ => trivial)
  obtain ⟨W4, hW4⟩ : ∃ W4, W4 = W3.setCell ⟨W1.heap.size, 2, none⟩ (.slice Ar rs.length cr) := ⟨_, rfl⟩
  rw [← hW4] at hbl hrr hb4
  have hni : NodeG W4 W1.heap.size b.f2 (.slice Ar rs.length cr) (.slice none 0 0) [] W4 := ⟨rfl, rfl, rfl, Nat.le_refl _, fun _ _ _ => rfl, (Array.getElem?_eq_some_iff.1 hbl).1, hbl, Kd.R_nil _ _ _ _ _⟩
  rw [HS1.out] at hg3 hW4
  obtain ⟨⟨y0, y1, y2, y3⟩, y4, y5, y6, y7⟩ := box8 hg3
  obtain ⟨⟨z0, z1, z2, z3⟩, z4, z5, z6, z7⟩ := frozen8 hg3
  have HNI := Lib.hid hni
  have HRR := Lib.hid hrr
  have HB4 := Lib.hid hb4
  have HW4 := Lib.hid hW4
  have HRS := Lib.hid hrs
  clear hR3 hb3 hb13 hg3 hni hrr hW4 hrs hbl hb4
  go_wp2_with fail
  rw [← HW4.out]
  clear y0 y1 y2 y3 y4 y5 y6 y7 z0 z1 z2 z3 z4 z5 z6 z7
  go_loopw [4] (fun i wr => ∃ (j : Nat) (v : Value), i = .int .i64 (j : Int) ∧ j ≤ k.f3.length ∧ NodeG W4 W1.heap.size b.f2 (.slice Ar rs.length cr) v ((k.f3.take j).filterMap kidL) wr) (fun i _ => k.f3.length - (intOf i).toNat)
  case atStart => exact ⟨0, _, rfl, Nat.zero_le _, HNI.out⟩
  case round =>
    obtain ⟨i, v, rfl, hi, hni⟩ := hrel
    obtain ⟨Av, cv, rfl, hvc, hvC⟩ := Kd.R_reads hni.row
    have HNJ := Lib.hid hni
    have hbj := hni.below HB4.out (Nat.le_refl _)
    have HBR := Lib.hid (HB1.out.trans (hbj.mono HB1.out.size))
    have b3 : wr.cell? ⟨w.heap.size, 3, none⟩ = some (.slice (some ad) 4 c) := (box4 ((hbj.block _ (Array.getElem?_eq_some_iff.1 HG0.out).1).trans HG0.out)).1.2.2.2
    obtain ⟨ad', A5, c5, e', _, _, _, k3, l5, g5, _⟩ := elem_at 3 (Kd.C_below HA.out HBR.out) rfl (x := k) rfl
    cases e'
    simp only [show 3 * 4 = 12 from rfl] at k3
    by_cases hil : i < k.f3.length
    case neg =>
      have hie : i = k.f3.length := by omega
      have hfm : (k.f3.take i).filterMap kidL = k.f3.filterMap kidL := by rw [hie, List.take_length]
      rw [hfm] at hni
      have hg2r : wr.heap[w.heap.size + 1]? = some (.cells #[.int .i64 0, .string (⟨#[]⟩ : ByteArray), .slice none 0 0, .slice none 0 0, .slice none 0 0, .int .i64 0, .string (⟨#[]⟩ : ByteArray), .string (⟨#[]⟩ : ByteArray)] 27 (0, 0)) :=
        (hbj.block _ (Array.getElem?_eq_some_iff.1 HG1.out).1).trans HG1.out
      obtain ⟨⟨z0, z1, z2, z3⟩, z4, z5, z6, z7⟩ := box8 hg2r
      obtain ⟨⟨q0, q1, q2, q3⟩, q4, q5, q6, q7⟩ := frozen8 hg2r
      have hblk := hni.blk
      rw [HS1.out] at hblk
      obtain ⟨⟨y0, y1, y2, y3⟩, y4, y5, y6, y7⟩ := box8 hblk
      have hp := put8_below (B := w.heap.size) (g := w.heap.size + 1) HBR.out (by omega) (.int .i64 1) (.string b.f2) (.slice Ar rs.length cr) (.slice Av (k.f3.filterMap kidL).length cv) (.slice none 0 0) (.int .i64 0) (.string (⟨#[]⟩ : ByteArray)) (.string (⟨#[]⟩ : ByteArray))
      have hsm := put8_same hg2r (.int .i64 1) (.string b.f2) (.slice Ar rs.length cr) (.slice Av (k.f3.filterMap kidL).length cv) (.slice none 0 0) (.int .i64 0) (.string (⟨#[]⟩ : ByteArray)) (.string (⟨#[]⟩ : ByteArray))
      have hob : ObR (put8 wr (w.heap.size + 1) (.int .i64 1) (.string b.f2) (.slice Ar rs.length cr) (.slice Av (k.f3.filterMap kidL).length cv) (.slice none 0 0) (.int .i64 0) (.string (⟨#[]⟩ : ByteArray)) (.string (⟨#[]⟩ : ByteArray))) w.heap.size ⟨1, b.f2, rs, k.f3.filterMap kidL, [], 0, ⟨#[]⟩, ⟨#[]⟩⟩ Ar cr Av cv none 0 := by
        have hr := hni.row
        have h1 : ObR wr (W1.heap.size + 1) ⟨1, b.f2, rs, k.f3.filterMap kidL, [], 0, ⟨#[]⟩, ⟨#[]⟩⟩ Ar cr Av cv none 0 := ⟨hni.rows HRR.out, Kd.R_lower hr (by have := hni.lt; omega), Kd.R_nil _ _ _ _ _⟩
        exact h1.move (fun k hk _ => put8_far (by have := HS1.out; omega) _ _ _ _ _ _ _ _) (by have := HS1.out; omega)
      have HP := Lib.hid hp
      have HSM := Lib.hid hsm
      have HOB := Lib.hid hob
      clear hie hfm hni hvC hvc hbj hg2r hblk hp hsm hob l5 g5
      go_wp2_with fail
      refine bodyPost_ret (results_ob1 guess_results _ _ (w.heap.size + 1) _ _ _ _ _ _ _ _ rfl HSM.out) rfl ?_
      rw [HRP.out, HRS.out]
      exact ⟨Ar, cr, Av, cv, none, 0, rfl, HOB.out, HP.out⟩
    obtain ⟨x, hx⟩ : ∃ x, k.f3[i]? = some x := ⟨_, List.getElem?_eq_getElem hil⟩
    obtain ⟨ad5, A6, c6, rfl, x0, x1, x2, x3, l6, g6, hbx⟩ := cell_at g5 hx
    have hst : (k.f3.take (i + 1)).filterMap kidL = (k.f3.take i).filterMap kidL ++ (kidL x).toList := by
      rw [List.take_add_one, hx, Option.toList_some, List.filterMap_append]
      congr 1
    obtain ⟨W5, hW5⟩ : ∃ W5, W5 = wr.alloc (.cells #[.int .i64 x.f0, .int .i64 x.f1, .string x.f2, .slice A6 x.f3.length c6] 42) := ⟨_, rfl⟩
    have hn5 : Below wr.heap.size wr W5 := by rw [hW5]; exact (Below.refl _ _).alloc (Nat.le_refl _) _
    have hg5 : W5.heap[wr.heap.size]? = some (.cells #[.int .i64 x.f0, .int .i64 x.f1, .string x.f2, .slice A6 x.f3.length c6] 42 (0, 0)) := by rw [hW5]; exact alloc_lastV _ _
    have HN5 := Lib.hid hn5
    have HG5 := Lib.hid hg5
    have HC6 := Lib.hid g6
    have HST := Lib.hid hst
    have HN5J := Lib.hid (hni.later hn5)
    obtain ⟨⟨d0, d1, d2, d3⟩, _⟩ := box4 hg5
    rw [hW5] at d0 d1 d2 d3
    have HW5 := Lib.hid hW5
    clear hst hx hn5 hg5 hW5 g6 g5 hni hvC hvc l5
    by_cases h2 : x.f3.length = 2
    case neg =>
      have h2' : ¬ (x.f3.length : Int) = 2 := by omega
      have hkn : kidL x = none := by
        unfold kidL; split
        · rename_i p q e; rw [e] at h2; exact absurd rfl h2
        · rfl
      have HKN := Lib.hid hkn
      clear h2 hkn
      go_wp2_with fail
      rw [← HW5.out]
      go_roundw
      case rel => exact ⟨i + 1, _, by go_num, hil, by rw [HST.out, HKN.out]; simpa using HN5J.out⟩
      case measure => simp [intOf]; omega
    obtain ⟨p, q, hpq⟩ : ∃ p q, x.f3 = [p, q] := by
      match hh : x.f3, h2 with
      | [p, q], _ => exact ⟨p, q, rfl⟩
    rw [hpq] at HC6 HW5 HG5 d3 x3
    rw [show ([p, q] : List S42).length = 2 from rfl] at HW5 HG5 d3 x3
    obtain ⟨ad6, A7, c7, rfl, _, p1, _, _, _, _, _⟩ := elem_at 0 HC6.out rfl (x := p) rfl
    obtain ⟨ad6', A8, c8, e', _, _, q2, _, _, _, _⟩ := elem_at 1 HC6.out rfl (x := q) rfl
    cases e'
    clear h2
    go_wp2_with fail
    rw [← HW5.out]
    obtain ⟨KY, hKY⟩ : ∃ KY : S60, KY = ⟨IntKind.u8.wrap (Int.tmod p.f1 256), q.f2⟩ := ⟨_, rfl⟩
    have HKY := Lib.hid (show kidL x = some KY by unfold kidL; rw [hpq, hKY])
    have HK0 := Lib.hid hKY
    have HCL := Lib.hid (fun W (hW : Below W5.heap.size W5 W) => show W.cell? ⟨w.heap.size + 1 + 1, 3, none⟩ = some (.slice Av ((k.f3.take i).filterMap kidL).length cv) ∧ W.cell? ⟨wr.heap.size, 3, none⟩ = some (.slice (some ad6) 2 c6) ∧ W.cell? ⟨ad6.block, ad6.off + 1, none⟩ = some (.int .i64 p.f1) ∧ W.cell? ⟨ad6.block, ad6.off + 4 + 2, none⟩ = some (.string q.f2) by
      obtain ⟨a1, _, _, x1, _, r1, _, _, _, _, _⟩ := elem_at 0 (Kd.C_below HC6.out (HN5.out.trans (hW.mono HN5.out.size))) rfl (x := p) rfl
      obtain ⟨a2, _, _, x2, _, _, r2, _, _, _, _⟩ := elem_at 1 (Kd.C_below HC6.out (HN5.out.trans (hW.mono HN5.out.size))) rfl (x := q) rfl
      cases x1; cases x2
      have hb := (HN5J.out.later hW).blk
      rw [HS1.out] at hb
      exact ⟨(box8 hb).1.2.2.2, (box4 ((hW.block _ (Array.getElem?_eq_some_iff.1 HG5.out).1).trans HG5.out)).1.2.2.2, by simpa using r1, r2⟩)
    have hnl : ((k.f3.take i).filterMap kidL).length ≤ 1000000 := Nat.le_trans (List.length_filterMap_le _ _) (by rw [List.length_take]; omega)
    have HNL := Lib.hid hnl
    clear hKY hpq hnl b3 k3 x0 x1 x2 x3 hbx d0 d1 d2 d3 p1 q2
    refine' wp_region_factsM (S := (fun _ W => Below W5.heap.size W5 W)) (fun _ W W' => Below W.heap.size W W') [eqM _, eqM (.slice Av ((k.f3.take i).filterMap kidL).length cv), eqM _, eqM (.slice (some ad6) 2 c6), eqM (.pointer (some ad6)), eqM (.pointer (some ⟨ad6.block, ad6.off + 1, none⟩)), eqM (.int .i64 p.f1), eqM (.int .i64 (Int.tmod p.f1 256)), eqM (.int .u8 KY.f0), eqM _, eqM (.slice (some ad6) 2 c6), eqM (.pointer (some ⟨ad6.block, ad6.off + 4, none⟩)), eqM (.pointer (some ⟨ad6.block, ad6.off + 4 + 2, none⟩)), eqM (.string KY.f1), eqM (.agg #[.int .u8 KY.f0, .string KY.f1]), kidLit W5.heap.size KY] (by kernel_rfl) (by kernel_rfl) ?hst ?h0 (Ord.stepsM_cons ?s0 (Ord.stepsM_cons ?s1 (Ord.stepsM_cons ?s2 (Ord.stepsM_cons ?s3 (Ord.stepsM_cons ?s4 (Ord.stepsM_cons ?s5 (Ord.stepsM_cons ?s6 (Ord.stepsM_cons ?s7 (Ord.stepsM_cons ?s8 (Ord.stepsM_cons ?s9 (Ord.stepsM_cons ?s10 (Ord.stepsM_cons ?s11 (Ord.stepsM_cons ?s12 (Ord.stepsM_cons ?s13 (Ord.stepsM_cons ?s14 (Ord.stepsM_cons ?s15 (Ord.stepsM_nil))))))))))))))))) ?fin
    case s0 =>
      intro g W L hL hSW hd
      try simp only [Nat.zero_add, Nat.reduceAdd] at hd ⊢
      with_reducible refine OpGives.pre_reads [] 114 ?_ ?_ ?_
      · rfl
      · kernel_rfl
      simp only [List.map_cons, List.map_nil]
      refine OpGives.val (w' := W) ?_ ⟨Below.refl _ _, rfl, hSW⟩
      go_simp
      try with_reducible rfl
    case s1 =>
      intro g W L hL hSW hd
      try simp only [Nat.zero_add, Nat.reduceAdd] at hd ⊢
      have h0 : g 0 = _ := hd 0 (by decide) (by kernel_rfl)
      with_reducible refine OpGives.pre_reads [(49, 0)] 114 ?_ ?_ ?_
      · rfl
      · kernel_rfl
      simp only [List.map_cons, List.map_nil]
      obtain ⟨z0, z1, z2, z3⟩ := HCL.out W hSW; refine OpGives.val (v := .slice Av ((k.f3.take i).filterMap kidL).length cv) (w' := W) ?_ ⟨Below.refl _ _, rfl, hSW⟩; rw [h0]; go_simp
    case s2 =>
      intro g W L hL hSW hd
      try simp only [Nat.zero_add, Nat.reduceAdd] at hd ⊢
      with_reducible refine OpGives.pre_reads [] 114 ?_ ?_ ?_
      · rfl
      · kernel_rfl
      simp only [List.map_cons, List.map_nil]
      refine OpGives.val (w' := W) ?_ ⟨Below.refl _ _, rfl, hSW⟩
      go_simp
      try with_reducible rfl
    case s3 =>
      intro g W L hL hSW hd
      try simp only [Nat.zero_add, Nat.reduceAdd] at hd ⊢
      have h2 : g 2 = _ := hd 2 (by decide) (by kernel_rfl)
      with_reducible refine OpGives.pre_reads [(51, 2)] 114 ?_ ?_ ?_
      · rfl
      · kernel_rfl
      simp only [List.map_cons, List.map_nil]
      obtain ⟨z0, z1, z2, z3⟩ := HCL.out W hSW; refine OpGives.val (v := .slice (some ad6) 2 c6) (w' := W) ?_ ⟨Below.refl _ _, rfl, hSW⟩; rw [h2]; go_simp
    case s4 =>
      intro g W L hL hSW hd
      try simp only [Nat.zero_add, Nat.reduceAdd] at hd ⊢
      have h3 : g 3 = _ := hd 3 (by decide) (by kernel_rfl)
      with_reducible refine OpGives.pre_reads [(52, 3)] 114 ?_ ?_ ?_
      · rfl
      · kernel_rfl
      simp only [List.map_cons, List.map_nil]
      refine OpGives.val (v := .pointer (some ad6)) (w' := W) ?_ ⟨Below.refl _ _, rfl, hSW⟩; rw [h3]; go_simp
    case s5 =>
      intro g W L hL hSW hd
      try simp only [Nat.zero_add, Nat.reduceAdd] at hd ⊢
      have h4 : g 4 = _ := hd 4 (by decide) (by kernel_rfl)
      with_reducible refine OpGives.pre_reads [(53, 4)] 114 ?_ ?_ ?_
      · rfl
      · kernel_rfl
      simp only [List.map_cons, List.map_nil]
      refine OpGives.val (v := .pointer (some ⟨ad6.block, ad6.off + 1, none⟩)) (w' := W) ?_ ⟨Below.refl _ _, rfl, hSW⟩; rw [h4]; go_simp
    case s6 =>
      intro g W L hL hSW hd
      try simp only [Nat.zero_add, Nat.reduceAdd] at hd ⊢
      have h5 : g 5 = _ := hd 5 (by decide) (by kernel_rfl)
      with_reducible refine OpGives.pre_reads [(54, 5)] 114 ?_ ?_ ?_
      · rfl
      · kernel_rfl
      simp only [List.map_cons, List.map_nil]
      obtain ⟨z0, z1, z2, z3⟩ := HCL.out W hSW; refine OpGives.val (v := .int .i64 p.f1) (w' := W) ?_ ⟨Below.refl _ _, rfl, hSW⟩; rw [h5]; go_simp
    case s7 =>
      intro g W L hL hSW hd
      try simp only [Nat.zero_add, Nat.reduceAdd] at hd ⊢
      have h6 : g 6 = _ := hd 6 (by decide) (by kernel_rfl)
      with_reducible refine OpGives.pre_reads [(55, 6)] 114 ?_ ?_ ?_
      · rfl
      · kernel_rfl
      simp only [List.map_cons, List.map_nil]
      refine OpGives.val (v := .int .i64 (Int.tmod p.f1 256)) (w' := W) ?_ ⟨Below.refl _ _, rfl, hSW⟩; rw [h6]; go_simp
    case s8 =>
      intro g W L hL hSW hd
      try simp only [Nat.zero_add, Nat.reduceAdd] at hd ⊢
      have h7 : g 7 = _ := hd 7 (by decide) (by kernel_rfl)
      with_reducible refine OpGives.pre_reads [(56, 7)] 114 ?_ ?_ ?_
      · rfl
      · kernel_rfl
      simp only [List.map_cons, List.map_nil]
      rw [HK0.out]; refine OpGives.val (v := .int .u8 (IntKind.u8.wrap (Int.tmod p.f1 256))) (w' := W) ?_ ⟨Below.refl _ _, rfl, hSW⟩; rw [h7]; go_simp
    case s9 =>
      intro g W L hL hSW hd
      try simp only [Nat.zero_add, Nat.reduceAdd] at hd ⊢
      with_reducible refine OpGives.pre_reads [] 114 ?_ ?_ ?_
      · rfl
      · kernel_rfl
      simp only [List.map_cons, List.map_nil]
      refine OpGives.val (w' := W) ?_ ⟨Below.refl _ _, rfl, hSW⟩
      go_simp
      try with_reducible rfl
    case s10 =>
      intro g W L hL hSW hd
      try simp only [Nat.zero_add, Nat.reduceAdd] at hd ⊢
      have h9 : g 9 = _ := hd 9 (by decide) (by kernel_rfl)
      with_reducible refine OpGives.pre_reads [(58, 9)] 114 ?_ ?_ ?_
      · rfl
      · kernel_rfl
      simp only [List.map_cons, List.map_nil]
      obtain ⟨z0, z1, z2, z3⟩ := HCL.out W hSW; refine OpGives.val (v := .slice (some ad6) 2 c6) (w' := W) ?_ ⟨Below.refl _ _, rfl, hSW⟩; rw [h9]; go_simp
    case s11 =>
      intro g W L hL hSW hd
      try simp only [Nat.zero_add, Nat.reduceAdd] at hd ⊢
      have h10 : g 10 = _ := hd 10 (by decide) (by kernel_rfl)
      with_reducible refine OpGives.pre_reads [(59, 10)] 114 ?_ ?_ ?_
      · rfl
      · kernel_rfl
      simp only [List.map_cons, List.map_nil]
      refine OpGives.val (v := .pointer (some ⟨ad6.block, ad6.off + 4, none⟩)) (w' := W) ?_ ⟨Below.refl _ _, rfl, hSW⟩; rw [h10]; go_simp
    case s12 =>
      intro g W L hL hSW hd
      try simp only [Nat.zero_add, Nat.reduceAdd] at hd ⊢
      have h11 : g 11 = _ := hd 11 (by decide) (by kernel_rfl)
      with_reducible refine OpGives.pre_reads [(60, 11)] 114 ?_ ?_ ?_
      · rfl
      · kernel_rfl
      simp only [List.map_cons, List.map_nil]
      refine OpGives.val (v := .pointer (some ⟨ad6.block, ad6.off + 4 + 2, none⟩)) (w' := W) ?_ ⟨Below.refl _ _, rfl, hSW⟩; rw [h11]; go_simp
    case s13 =>
      intro g W L hL hSW hd
      try simp only [Nat.zero_add, Nat.reduceAdd] at hd ⊢
      have h12 : g 12 = _ := hd 12 (by decide) (by kernel_rfl)
      with_reducible refine OpGives.pre_reads [(61, 12)] 114 ?_ ?_ ?_
      · rfl
      · kernel_rfl
      simp only [List.map_cons, List.map_nil]
      rw [HK0.out]; obtain ⟨z0, z1, z2, z3⟩ := HCL.out W hSW; refine OpGives.val (v := .string q.f2) (w' := W) ?_ ⟨Below.refl _ _, rfl, hSW⟩; rw [h12]; go_simp
    case s14 =>
      intro g W L hL hSW hd
      try simp only [Nat.zero_add, Nat.reduceAdd] at hd ⊢
      have h8 : g 8 = _ := hd 8 (by decide) (by kernel_rfl)
      have h13 : g 13 = _ := hd 13 (by decide) (by kernel_rfl)
      with_reducible refine OpGives.pre_reads [(57, 8), (62, 13)] 114 ?_ ?_ ?_
      · rfl
      · kernel_rfl
      simp only [List.map_cons, List.map_nil]
      refine OpGives.val (v := .agg #[.int .u8 KY.f0, .string KY.f1]) (w' := W) ?_ ⟨Below.refl _ _, rfl, hSW⟩; rw [h8, h13]; go_simp
    case s15 =>
      intro g W L hL hSW hd
      try simp only [Nat.zero_add, Nat.reduceAdd] at hd ⊢
      have h14 : g 14 = _ := hd 14 (by decide) (by kernel_rfl)
      with_reducible refine OpGives.pre_reads [(63, 14)] 114 ?_ ?_ ?_
      · rfl
      · kernel_rfl
      simp only [List.map_cons, List.map_nil]
      refine OpGives.val (v := .slice (some ⟨W.heap.size, 0, none⟩) 1 1) (w' := W.alloc (.cells #[.int .u8 KY.f0, .string KY.f1] 60)) ?_ ⟨(Below.refl _ _).alloc (Nat.le_refl _) _, ⟨_, rfl, hSW.size, alloc_lastV _ _⟩, hSW.alloc hSW.size _⟩; rw [h14]; go_simp
    case hst =>
      refine fun i j v w w' _ h hR => st_of (R := fun W W' => Below W.heap.size W W') ?_ i v w w' h hR
      repeat' first
        | exact trivial
        | with_reducible refine StL.eq ?_
        | refine ⟨fun v w w' h hR => kidLit_below h hR, ?_⟩
    case h0 => exact (Below.refl _ _).drew
    case fin =>
      intro v' W L hL hSW hf
      have h15 := hf 15 (Nat.lt_of_lt_of_eq (by decide : 15 < 16) rfl)
      have h1 : v' 1 = _ := hf 1 (Nat.lt_of_lt_of_eq (by decide : 1 < 16) rfl)
      change kidLit W5.heap.size KY (v' 15) W at h15
      clear hf
      generalize hF : Ord.pre _ _ v' _ = F
      rw [Ord.pre_lit [some 49, some 50, some 51, some 52, some 53, some 54, some 55, some 56, some 57, some 58, some 59, some 60, some 61, some 62, some 63, some 64]
        (by kernel_rfl)] at hF
      simp only [Ord.puts, Nat.zero_add, Nat.reduceAdd] at hF
      subst hF
      rw [h1]
      obtain ⟨g, eg, hlg, hgg⟩ := h15
      rw [eg]
      have hniW := HN5J.out.later hSW
      obtain ⟨v8, W8, hr8, hg8, hR8⟩ := append_kid (b0 := W4.heap.size) hniW.row hniW.size hgg HNL.out 24
      obtain ⟨A8, c8, rfl, _, _⟩ := Kd.R_reads hR8
      have hst := hniW.step hg8 hR8
      have hblk8 := (hg8.block W1.heap.size (Nat.lt_of_lt_of_le hniW.lt hniW.size) (fun e => by
        obtain ⟨_, inner, hown, _⟩ := hniW.row
        have := own_base hown _ e.symm; have := hniW.lt; omega)).trans hniW.blk
      rw [HS1.out] at hblk8
      have y3 : W8.cell? ⟨w.heap.size + 1 + 1, 3, none⟩ = some (.slice Av ((k.f3.take i).filterMap kidL).length cv) := (box8 hblk8).1.2.2.2
      have x3 : W8.frozen? ⟨w.heap.size + 1 + 1, 3, none⟩ = false := Lib.frozen_of_heap hblk8 3
      have HST8 := Lib.hid (show NodeG W4 W1.heap.size b.f2 (.slice Ar rs.length cr) (.slice A8 ((k.f3.take i).filterMap kidL ++ [KY]).length c8) ((k.f3.take (i + 1)).filterMap kidL) (W8.setCell ⟨w.heap.size + 1 + 1, 3, none⟩ (.slice A8 ((k.f3.take i).filterMap kidL ++ [KY]).length c8)) by
        rw [HST.out, HKY.out, ← HS1.out]; exact hst)
      have hll : ((k.f3.take i).filterMap kidL ++ [KY]).length = ((k.f3.take i).filterMap kidL).length + 1 := by simp
      rw [hll] at HST8 hr8
      clear hst hR8 hg8 hniW hblk8 eg hgg hlg hSW h1 hll
      refine any_one (i := 16) (by kernel_rfl) ?_
      refine wpOp_value (v := .slice A8 (((k.f3.take i).filterMap kidL).length + 1) c8) (w' := W8) rfl rfl ?_ ?_
      · refine exec_append (.tmp 50) (.tmp 64) 24 rfl ?_
        have key : ∀ a b ty, a = .slice Av ((k.f3.take i).filterMap kidL).length cv → b = .slice (some ⟨g, 0, none⟩) 1 1 → ty = 24 → (Builtin.append_ #[24, 24] ty #[a, b]).run Tryd.prog W = .ok (.slice A8 (((k.f3.take i).filterMap kidL).length + 1) c8) W8 := by rintro _ _ _ rfl rfl rfl; exact hr8
        refine key _ _ _ ?_ ?_ rfl
        · go_simp
        · go_simp
      clear hr8
      refine any_one (i := 17) (by kernel_rfl) (wpOp_value (v := .pointer (some ⟨w.heap.size + 1 + 1, 3, none⟩)) (w' := W8) rfl rfl (by go_simp) ?_)
      refine any_one (i := 18) (by kernel_rfl) (wpOp_skip (w' := W8.setCell ⟨w.heap.size + 1 + 1, 3, none⟩ (.slice A8 (((k.f3.take i).filterMap kidL).length + 1) c8)) rfl rfl (by go_simp) ?_)
      refine wpAny_done (by kernel_rfl) ?_ _
      try simp only [List.getElem_toArray, List.getElem_cons_succ, List.getElem_cons_zero]
      go_frame
      generalize W8.setCell ⟨w.heap.size + 1 + 1, 3, none⟩ (.slice A8 (((k.f3.take i).filterMap kidL).length + 1) c8) = W9 at HST8 ⊢
      clear y3 x3
      go_wp2_with fail
      go_roundw
      case rel => exact ⟨i + 1, _, by go_num, hil, HST8.out⟩
      case measure => simp [intOf]; omega
end Go.Proofs.YtgjlchcfdbmmlaaDoor.PObjectTakes
namespace Go.Proofs.YtgjlchcfdbmmlaaDoor.PObjectTakes
open Go.RowKit Go.Proofs.YtgjlchcfdbmmlaaDoor.Ord Go.Proofs.YtgjlchcfdbmmlaaDoor.Obj Go.Proofs.YtgjlchcfdbmmlaaDoorW.PrintWords Go.Proofs.YtgjlchcfdbmmlaaDoorW.PrintLast Go.Proofs.YtgjlchcfdbmmlaaDoorW.PrintMore
attribute [local irreducible] OpGives
attribute [local go_sem] rdl_const rdl_func rdl_global rdl_nil rdl_cons

set_option maxHeartbeats 1000000 in
set_option maxRecDepth 100000 in
theorem guess_five (k0 n0 : Int) (s0 : ByteArray) (xa p sx n t : S42) (A : Option Addr) (c : Nat) (w : World) (hA : Kd.C k42 w A 5 [xa, p, sx, n, t]) (hpl : p.f3.length ≤ 1000000) :
    Calls Tryd.prog 28 #[.agg #[.int .i64 k0, .int .i64 n0, .string s0, .slice A 5 c]] w (GuessPost ⟨2, ⟨#[]⟩, [], [], p.f3.map (·.f2), sx.f1, n.f2, t.f2⟩ w) := by
  obtain ⟨PS, hPS⟩ : ∃ PS : List ByteArray, PS = p.f3.map (·.f2) := ⟨_, rfl⟩
  rw [← hPS]
  obtain ⟨RP, hRP⟩ : ∃ RP : Ending → World → Prop, RP = GuessPost ⟨2, ⟨#[]⟩, [], [], PS, sx.f1, n.f2, t.f2⟩ w := ⟨_, rfl⟩
  rw [← hRP]
  have HRP := Lib.hid hRP
  have HPS := Lib.hid hPS
  clear hRP hPS
  obtain ⟨W0, hW0⟩ : ∃ W0, W0 = w.alloc (.cells #[.int .i64 k0, .int .i64 n0, .string s0, .slice A 5 c] 42) := ⟨_, rfl⟩
  obtain ⟨W1, hW1⟩ : ∃ W1, W1 = W0.alloc (.cells obZ 27) := ⟨_, rfl⟩
  have hn0 : Below w.heap.size w W0 := by rw [hW0]; exact (Below.refl _ _).alloc (Nat.le_refl _) _
  have hn1 : Below W0.heap.size W0 W1 := by rw [hW1]; exact (Below.refl _ _).alloc (Nat.le_refl _) _
  have hg0 : W0.heap[w.heap.size]? = some (.cells #[.int .i64 k0, .int .i64 n0, .string s0, .slice A 5 c] 42 (0, 0)) := by rw [hW0]; exact alloc_lastV _ _
  have hs0 : W0.heap.size = w.heap.size + 1 := by rw [hW0]; simp
  have hg1 : W1.heap[w.heap.size + 1]? = some (.cells obZ 27 (0, 0)) := by rw [← hs0, hW1]; exact alloc_lastV _ _
  have hg01 := (hn1.block _ (Array.getElem?_eq_some_iff.1 hg0).1).trans hg0
  have hs1 : W1.heap.size = w.heap.size + 1 + 1 := by rw [hW1]; simp [hs0]
  have hb1 : Below w.heap.size w W1 := hn0.trans (hn1.mono hn0.size)
  obtain ⟨ad, A1, c1, rfl, -, -, -, -, -, -, -⟩ := elem_at 1 hA rfl (x := p) rfl
  have b3 : W1.cell? ⟨w.heap.size, 3, none⟩ = some (.slice (some ad) 5 c) := (box4 hg01).1.2.2.2
  have HCL := Lib.hid (fun W (hW : Below W1.heap.size W1 W) => show W.cell? ⟨w.heap.size, 3, none⟩ = some (.slice (some ad) 5 c) ∧ W.cell? ⟨ad.block, ad.off + 8 + 1, none⟩ = some (.int .i64 sx.f1) ∧ W.cell? ⟨ad.block, ad.off + 12 + 2, none⟩ = some (.string n.f2) ∧ W.cell? ⟨ad.block, ad.off + 16 + 2, none⟩ = some (.string t.f2) by
    have hw := hb1.trans (hW.mono hb1.size)
    obtain ⟨a1, _, _, x1, _, r1, _, _, _, _, _⟩ := elem_at 2 (Kd.C_below hA hw) rfl (x := sx) rfl
    obtain ⟨a2, _, _, x2, _, _, r2, _, _, _, _⟩ := elem_at 3 (Kd.C_below hA hw) rfl (x := n) rfl
    obtain ⟨a3, _, _, x3, _, _, r3, _, _, _, _⟩ := elem_at 4 (Kd.C_below hA hw) rfl (x := t) rfl
    cases x1; cases x2; cases x3
    exact ⟨(box4 ((hW.block _ (Array.getElem?_eq_some_iff.1 hg01).1).trans hg01)).1.2.2.2, r1, r2, r3⟩)
  have HA := Lib.hid hA
  have HB1 := Lib.hid hb1
  have HG0 := Lib.hid hg01
  have HG1 := Lib.hid hg1
  have HS1 := Lib.hid hs1
  unfold obZ at hW1
  rw [hW1, hW0] at b3
  have HW1 := Lib.hid (hW1.trans (by rw [hW0]))
  clear hA hn0 hn1 hg0 hg1 hg01 hs0 hs1 hb1 hW0 hW1
  go_enter Tryd.func28, Tryd.ntmps28
  go_wp2_with fail
  rw [← HW1.out]
  clear b3
  refine' wp_region_factsM (S := (fun _ W => Below W1.heap.size W1 W)) (fun _ W W' => Below W.heap.size W W') [eqM _, eqM (.slice (some ad) 5 c), eqM (.pointer (some ⟨ad.block, ad.off + 8, none⟩)), eqM (.pointer (some ⟨ad.block, ad.off + 8 + 1, none⟩)), eqM (.int .i64 sx.f1), eqM _, eqM (.slice (some ad) 5 c), eqM (.pointer (some ⟨ad.block, ad.off + 12, none⟩)), eqM (.pointer (some ⟨ad.block, ad.off + 12 + 2, none⟩)), eqM (.string n.f2), eqM _, eqM (.slice (some ad) 5 c), eqM (.pointer (some ⟨ad.block, ad.off + 16, none⟩)), eqM (.pointer (some ⟨ad.block, ad.off + 16 + 2, none⟩)), eqM (.string t.f2), eqM (.agg #[.int .i64 2, .string (⟨#[]⟩ : ByteArray), .slice none 0 0, .slice none 0 0, .slice none 0 0, .int .i64 sx.f1, .string n.f2, .string t.f2]), obLit W1.heap.size] (by kernel_rfl) (by kernel_rfl) ?hst ?h0 (Ord.stepsM_cons ?s0 (Ord.stepsM_cons ?s1 (Ord.stepsM_cons ?s2 (Ord.stepsM_cons ?s3 (Ord.stepsM_cons ?s4 (Ord.stepsM_cons ?s5 (Ord.stepsM_cons ?s6 (Ord.stepsM_cons ?s7 (Ord.stepsM_cons ?s8 (Ord.stepsM_cons ?s9 (Ord.stepsM_cons ?s10 (Ord.stepsM_cons ?s11 (Ord.stepsM_cons ?s12 (Ord.stepsM_cons ?s13 (Ord.stepsM_cons ?s14 (Ord.stepsM_cons ?s15 (Ord.stepsM_cons ?s16 (Ord.stepsM_nil)))))))))))))))))) ?fin
  case s0 =>
    intro g W L hL hSW hd
    try simp only [Nat.zero_add, Nat.reduceAdd] at hd ⊢
    with_reducible refine OpGives.pre_reads [] 114 ?_ ?_ ?_
    · rfl
    · kernel_rfl
    simp only [List.map_cons, List.map_nil]
    refine OpGives.val (w' := W) ?_ ⟨Below.refl _ _, rfl, hSW⟩
    go_simp
    try with_reducible rfl
  case s1 =>
    intro g W L hL hSW hd
    try simp only [Nat.zero_add, Nat.reduceAdd] at hd ⊢
    have h0 : g 0 = _ := hd 0 (by decide) (by kernel_rfl)
    with_reducible refine OpGives.pre_reads [(72, 0)] 114 ?_ ?_ ?_
    · rfl
    · kernel_rfl
    simp only [List.map_cons, List.map_nil]
    obtain ⟨z0, z1, z2, z3⟩ := HCL.out W hSW; refine OpGives.val (v := .slice (some ad) 5 c) (w' := W) ?_ ⟨Below.refl _ _, rfl, hSW⟩; rw [h0]; go_simp
  case s2 =>
    intro g W L hL hSW hd
    try simp only [Nat.zero_add, Nat.reduceAdd] at hd ⊢
    have h1 : g 1 = _ := hd 1 (by decide) (by kernel_rfl)
    with_reducible refine OpGives.pre_reads [(73, 1)] 114 ?_ ?_ ?_
    · rfl
    · kernel_rfl
    simp only [List.map_cons, List.map_nil]
    refine OpGives.val (v := .pointer (some ⟨ad.block, ad.off + 8, none⟩)) (w' := W) ?_ ⟨Below.refl _ _, rfl, hSW⟩; rw [h1]; go_simp
  case s3 =>
    intro g W L hL hSW hd
    try simp only [Nat.zero_add, Nat.reduceAdd] at hd ⊢
    have h2 : g 2 = _ := hd 2 (by decide) (by kernel_rfl)
    with_reducible refine OpGives.pre_reads [(74, 2)] 114 ?_ ?_ ?_
    · rfl
    · kernel_rfl
    simp only [List.map_cons, List.map_nil]
    refine OpGives.val (v := .pointer (some ⟨ad.block, ad.off + 8 + 1, none⟩)) (w' := W) ?_ ⟨Below.refl _ _, rfl, hSW⟩; rw [h2]; go_simp
  case s4 =>
    intro g W L hL hSW hd
    try simp only [Nat.zero_add, Nat.reduceAdd] at hd ⊢
    have h3 : g 3 = _ := hd 3 (by decide) (by kernel_rfl)
    with_reducible refine OpGives.pre_reads [(75, 3)] 114 ?_ ?_ ?_
    · rfl
    · kernel_rfl
    simp only [List.map_cons, List.map_nil]
    obtain ⟨z0, z1, z2, z3⟩ := HCL.out W hSW; refine OpGives.val (v := .int .i64 sx.f1) (w' := W) ?_ ⟨Below.refl _ _, rfl, hSW⟩; rw [h3]; go_simp
  case s5 =>
    intro g W L hL hSW hd
    try simp only [Nat.zero_add, Nat.reduceAdd] at hd ⊢
    with_reducible refine OpGives.pre_reads [] 114 ?_ ?_ ?_
    · rfl
    · kernel_rfl
    simp only [List.map_cons, List.map_nil]
    refine OpGives.val (w' := W) ?_ ⟨Below.refl _ _, rfl, hSW⟩
    go_simp
    try with_reducible rfl
  case s6 =>
    intro g W L hL hSW hd
    try simp only [Nat.zero_add, Nat.reduceAdd] at hd ⊢
    have h5 : g 5 = _ := hd 5 (by decide) (by kernel_rfl)
    with_reducible refine OpGives.pre_reads [(77, 5)] 114 ?_ ?_ ?_
    · rfl
    · kernel_rfl
    simp only [List.map_cons, List.map_nil]
    obtain ⟨z0, z1, z2, z3⟩ := HCL.out W hSW; refine OpGives.val (v := .slice (some ad) 5 c) (w' := W) ?_ ⟨Below.refl _ _, rfl, hSW⟩; rw [h5]; go_simp
  case s7 =>
    intro g W L hL hSW hd
    try simp only [Nat.zero_add, Nat.reduceAdd] at hd ⊢
    have h6 : g 6 = _ := hd 6 (by decide) (by kernel_rfl)
    with_reducible refine OpGives.pre_reads [(78, 6)] 114 ?_ ?_ ?_
    · rfl
    · kernel_rfl
    simp only [List.map_cons, List.map_nil]
    refine OpGives.val (v := .pointer (some ⟨ad.block, ad.off + 12, none⟩)) (w' := W) ?_ ⟨Below.refl _ _, rfl, hSW⟩; rw [h6]; go_simp
  case s8 =>
    intro g W L hL hSW hd
    try simp only [Nat.zero_add, Nat.reduceAdd] at hd ⊢
    have h7 : g 7 = _ := hd 7 (by decide) (by kernel_rfl)
    with_reducible refine OpGives.pre_reads [(79, 7)] 114 ?_ ?_ ?_
    · rfl
    · kernel_rfl
    simp only [List.map_cons, List.map_nil]
    refine OpGives.val (v := .pointer (some ⟨ad.block, ad.off + 12 + 2, none⟩)) (w' := W) ?_ ⟨Below.refl _ _, rfl, hSW⟩; rw [h7]; go_simp
  case s9 =>
    intro g W L hL hSW hd
    try simp only [Nat.zero_add, Nat.reduceAdd] at hd ⊢
    have h8 : g 8 = _ := hd 8 (by decide) (by kernel_rfl)
    with_reducible refine OpGives.pre_reads [(80, 8)] 114 ?_ ?_ ?_
    · rfl
    · kernel_rfl
    simp only [List.map_cons, List.map_nil]
    obtain ⟨z0, z1, z2, z3⟩ := HCL.out W hSW; refine OpGives.val (v := .string n.f2) (w' := W) ?_ ⟨Below.refl _ _, rfl, hSW⟩; rw [h8]; go_simp
  case s10 =>
    intro g W L hL hSW hd
    try simp only [Nat.zero_add, Nat.reduceAdd] at hd ⊢
    with_reducible refine OpGives.pre_reads [] 114 ?_ ?_ ?_
    · rfl
    · kernel_rfl
    simp only [List.map_cons, List.map_nil]
    refine OpGives.val (w' := W) ?_ ⟨Below.refl _ _, rfl, hSW⟩
    go_simp
    try with_reducible rfl
  case s11 =>
    intro g W L hL hSW hd
    try simp only [Nat.zero_add, Nat.reduceAdd] at hd ⊢
    have h10 : g 10 = _ := hd 10 (by decide) (by kernel_rfl)
    with_reducible refine OpGives.pre_reads [(82, 10)] 114 ?_ ?_ ?_
    · rfl
    · kernel_rfl
    simp only [List.map_cons, List.map_nil]
    obtain ⟨z0, z1, z2, z3⟩ := HCL.out W hSW; refine OpGives.val (v := .slice (some ad) 5 c) (w' := W) ?_ ⟨Below.refl _ _, rfl, hSW⟩; rw [h10]; go_simp
  case s12 =>
    intro g W L hL hSW hd
    try simp only [Nat.zero_add, Nat.reduceAdd] at hd ⊢
    have h11 : g 11 = _ := hd 11 (by decide) (by kernel_rfl)
    with_reducible refine OpGives.pre_reads [(83, 11)] 114 ?_ ?_ ?_
    · rfl
    · kernel_rfl
    simp only [List.map_cons, List.map_nil]
    refine OpGives.val (v := .pointer (some ⟨ad.block, ad.off + 16, none⟩)) (w' := W) ?_ ⟨Below.refl _ _, rfl, hSW⟩; rw [h11]; go_simp
  case s13 =>
    intro g W L hL hSW hd
    try simp only [Nat.zero_add, Nat.reduceAdd] at hd ⊢
    have h12 : g 12 = _ := hd 12 (by decide) (by kernel_rfl)
    with_reducible refine OpGives.pre_reads [(84, 12)] 114 ?_ ?_ ?_
    · rfl
    · kernel_rfl
    simp only [List.map_cons, List.map_nil]
    refine OpGives.val (v := .pointer (some ⟨ad.block, ad.off + 16 + 2, none⟩)) (w' := W) ?_ ⟨Below.refl _ _, rfl, hSW⟩; rw [h12]; go_simp
  case s14 =>
    intro g W L hL hSW hd
    try simp only [Nat.zero_add, Nat.reduceAdd] at hd ⊢
    have h13 : g 13 = _ := hd 13 (by decide) (by kernel_rfl)
    with_reducible refine OpGives.pre_reads [(85, 13)] 114 ?_ ?_ ?_
    · rfl
    · kernel_rfl
    simp only [List.map_cons, List.map_nil]
    obtain ⟨z0, z1, z2, z3⟩ := HCL.out W hSW; refine OpGives.val (v := .string t.f2) (w' := W) ?_ ⟨Below.refl _ _, rfl, hSW⟩; rw [h13]; go_simp
  case s15 =>
    intro g W L hL hSW hd
    try simp only [Nat.zero_add, Nat.reduceAdd] at hd ⊢
    have h4 : g 4 = _ := hd 4 (by decide) (by kernel_rfl)
    have h9 : g 9 = _ := hd 9 (by decide) (by kernel_rfl)
    have h14 : g 14 = _ := hd 14 (by decide) (by kernel_rfl)
    with_reducible refine OpGives.pre_reads [(76, 4), (81, 9), (86, 14)] 114 ?_ ?_ ?_
    · rfl
    · kernel_rfl
    simp only [List.map_cons, List.map_nil]
    refine OpGives.val (v := .agg #[.int .i64 2, .string (⟨#[]⟩ : ByteArray), .slice none 0 0, .slice none 0 0, .slice none 0 0, .int .i64 sx.f1, .string n.f2, .string t.f2]) (w' := W) ?_ ⟨Below.refl _ _, rfl, hSW⟩; rw [h4, h9, h14]; go_simp
  case s16 =>
    intro g W L hL hSW hd
    try simp only [Nat.zero_add, Nat.reduceAdd] at hd ⊢
    with_reducible refine OpGives.pre_reads [] 114 ?_ ?_ ?_
    · rfl
    · kernel_rfl
    simp only [List.map_cons, List.map_nil]
    refine OpGives.val (v := .pointer (some ⟨W.heap.size, 0, none⟩)) (w' := W.alloc (.cells obZ 27)) ?_ ⟨(Below.refl _ _).alloc (Nat.le_refl _) _, ⟨_, rfl, hSW.size, alloc_lastV _ _⟩, hSW.alloc hSW.size _⟩; unfold obZ; go_simp
  case hst =>
    refine fun i j v w w' _ h hR => st_of (R := fun W W' => Below W.heap.size W W') ?_ i v w w' h hR
    repeat' first
      | exact trivial
      | with_reducible refine StL.eq ?_
      | refine ⟨fun v w w' h hR => obLit_below h hR, ?_⟩
  case h0 => exact (Below.refl _ _).drew
  case fin =>
    intro v' W L hL hSW hf
    have h16 := hf 16 (Nat.lt_of_lt_of_eq (by decide : 16 < 17) rfl)
    have h15 : v' 15 = _ := hf 15 (Nat.lt_of_lt_of_eq (by decide : 15 < 17) rfl)
    change obLit W1.heap.size (v' 16) W at h16
    clear hf
    generalize hF : Ord.pre _ _ v' _ = F
    rw [Ord.pre_lit [some 72, some 73, some 74, some 75, some 76, some 77, some 78, some 79, some 80, some 81, some 82, some 83, some 84, some 85, some 86, some 87, some 6]
      (by kernel_rfl)] at hF
    simp only [Ord.puts, Nat.zero_add, Nat.reduceAdd] at hF
    subst hF
    rw [h15]
    obtain ⟨g, eg, hlg, hgg⟩ := h16
    rw [eg]
    unfold obZ at hgg
    obtain ⟨⟨z0, z1, z2, z3⟩, z4, z5, z6, z7⟩ := box8 hgg
    obtain ⟨⟨q0, q1, q2, q3⟩, q4, q5, q6, q7⟩ := frozen8 hgg
    refine any_one (i := 17) (by kernel_rfl) (wpOp_skip (w' := put8 W g (.int .i64 2) (.string (⟨#[]⟩ : ByteArray)) (.slice none 0 0) (.slice none 0 0) (.slice none 0 0) (.int .i64 sx.f1) (.string n.f2) (.string t.f2)) rfl rfl (by unfold put8; go_simp) ?_)
    refine wpAny_done (by kernel_rfl) ?_ _
    try simp only [List.getElem_toArray, List.getElem_cons_succ, List.getElem_cons_zero]
    go_frame
    have hni : CommIn W1 g sx.f1 n.f2 t.f2 (.slice none 0 0) [] (put8 W g (.int .i64 2) (.string (⟨#[]⟩ : ByteArray)) (.slice none 0 0) (.slice none 0 0) (.slice none 0 0) (.int .i64 sx.f1) (.string n.f2) (.string t.f2)) :=
      ⟨put8_below hSW hlg _ _ _ _ _ _ _ _, hlg, put8_same hgg _ _ _ _ _ _ _ _, Kd.R_nil _ _ _ _ _⟩
    have HNI := Lib.hid hni
    have HLG := Lib.hid hlg
    clear hni hlg hgg eg h15 z0 z1 z2 z3 z4 z5 z6 z7 q0 q1 q2 q3 q4 q5 q6 q7
    generalize put8 W g (.int .i64 2) (.string (⟨#[]⟩ : ByteArray)) (.slice none 0 0) (.slice none 0 0) (.slice none 0 0) (.int .i64 sx.f1) (.string n.f2) (.string t.f2) = W2 at HNI ⊢
    go_wp2_with fail
    go_loopw [7] (fun i wr => ∃ (j : Nat) (acc : List ByteArray) (v : Value), i = .int .i64 (j : Int) ∧ j ≤ p.f3.length ∧ Hid (acc = (p.f3.take j).map (·.f2)) ∧ CommIn W1 g sx.f1 n.f2 t.f2 v acc wr) (fun i _ => p.f3.length - (intOf i).toNat)
    case atStart => exact ⟨0, [], _, rfl, Nat.zero_le _, Lib.hid rfl, HNI.out⟩
    case round =>
      obtain ⟨i, acc, v, rfl, hi, HAC, hni⟩ := hrel
      obtain ⟨Av, cv, rfl, hvc, hvC⟩ := Kd.R_reads hni.row
      have HNJ := Lib.hid hni
      have HBR := Lib.hid (HB1.out.trans (hni.below.mono HB1.out.size))
      have b3 : wr.cell? ⟨w.heap.size, 3, none⟩ = some (.slice (some ad) 5 c) := (HCL.out wr hni.below).1
      obtain ⟨ad', A5, c5, e', _, _, _, k3, l5, g5, _⟩ := elem_at 1 (Kd.C_below HA.out HBR.out) rfl (x := p) rfl
      cases e'
      simp only [show 1 * 4 = 4 from rfl] at k3
      by_cases hil : i < p.f3.length
      case neg =>
        have hie : i = p.f3.length := by omega
        have hfm : acc = PS := by rw [HAC.out, HPS.out, hie, List.take_length]
        subst hfm
        have hg2r : wr.heap[w.heap.size + 1]? = some (.cells #[.int .i64 0, .string (⟨#[]⟩ : ByteArray), .slice none 0 0, .slice none 0 0, .slice none 0 0, .int .i64 0, .string (⟨#[]⟩ : ByteArray), .string (⟨#[]⟩ : ByteArray)] 27 (0, 0)) :=
          (hni.below.block _ (Array.getElem?_eq_some_iff.1 HG1.out).1).trans HG1.out
        obtain ⟨⟨z0, z1, z2, z3⟩, z4, z5, z6, z7⟩ := box8 hg2r
        obtain ⟨⟨q0, q1, q2, q3⟩, q4, q5, q6, q7⟩ := frozen8 hg2r
        obtain ⟨⟨y0, y1, y2, y3⟩, y4, y5, y6, y7⟩ := box8 hni.blk
        have hp := put8_below (B := w.heap.size) (g := w.heap.size + 1) HBR.out (by omega) (.int .i64 2) (.string (⟨#[]⟩ : ByteArray)) (.slice none 0 0) (.slice none 0 0) (.slice Av acc.length cv) (.int .i64 sx.f1) (.string n.f2) (.string t.f2)
        have hsm := put8_same hg2r (.int .i64 2) (.string (⟨#[]⟩ : ByteArray)) (.slice none 0 0) (.slice none 0 0) (.slice Av acc.length cv) (.int .i64 sx.f1) (.string n.f2) (.string t.f2)
        have hob : ObR (put8 wr (w.heap.size + 1) (.int .i64 2) (.string (⟨#[]⟩ : ByteArray)) (.slice none 0 0) (.slice none 0 0) (.slice Av acc.length cv) (.int .i64 sx.f1) (.string n.f2) (.string t.f2)) w.heap.size ⟨2, ⟨#[]⟩, [], [], acc, sx.f1, n.f2, t.f2⟩ none 0 none 0 Av cv := by
          have hr := hni.row
          have h1 : ObR wr (g + 1) ⟨2, ⟨#[]⟩, [], [], acc, sx.f1, n.f2, t.f2⟩ none 0 none 0 Av cv := ⟨Kd.R_nil _ _ _ _ _, Kd.R_nil _ _ _ _ _, hr⟩
          exact h1.move (fun k hk _ => put8_far (by have := HS1.out; have := HLG.out; omega) _ _ _ _ _ _ _ _) (by have := HS1.out; have := HLG.out; omega)
        have HP := Lib.hid hp
        have HSM := Lib.hid hsm
        have HOB := Lib.hid hob
        clear hie hni hvC hvc hg2r hp hsm hob l5 g5
        go_wp2_with fail
        refine bodyPost_ret (results_ob1 guess_results _ _ (w.heap.size + 1) _ _ _ _ _ _ _ _ rfl HSM.out) rfl ?_
        rw [HRP.out]
        exact ⟨none, 0, none, 0, Av, cv, rfl, HOB.out, HP.out⟩
      obtain ⟨x, hx⟩ : ∃ x, p.f3[i]? = some x := ⟨_, List.getElem?_eq_getElem hil⟩
      obtain ⟨ad5, A6, c6, rfl, -, -, x2, -, -, -, hbx⟩ := cell_at g5 hx
      have hst : acc ++ [x.f2] = (p.f3.take (i + 1)).map (·.f2) := by
        rw [List.take_add_one, hx, Option.toList_some, List.map_append, ← HAC.out]
        rfl
      have HST := Lib.hid hst
      have HC5 := Lib.hid g5
      have HX := Lib.hid hx
      have HCR := Lib.hid (fun W (hW : Below wr.heap.size wr W) => show W.cell? ⟨g, 4, none⟩ = some (.slice Av acc.length cv) ∧ W.cell? ⟨w.heap.size, 3, none⟩ = some (.slice (some ad) 5 c) ∧ W.cell? ⟨ad.block, ad.off + 4 + 3, none⟩ = some (.slice (some ad5) p.f3.length c5) ∧ W.cell? ⟨(ad5.add (i * 4)).block, (ad5.add (i * 4)).off + 2, none⟩ = some (.string x.f2) by
        have hc := HNJ.out.later hW
        obtain ⟨a1, _, _, e1, _, _, r2, _, _, _, _⟩ := cell_at (Kd.C_below HC5.out hW) HX.out
        cases e1
        exact ⟨(box8 hc.blk).2.1, (HCL.out W hc.below).1, (hW.cell (p := ⟨ad.block, ad.off + 4 + 3, none⟩) (block_lt_of_cell k3)).trans k3, r2⟩)
      have hnl : acc.length ≤ 1000000 := by rw [HAC.out, List.length_map, List.length_take]; omega
      have HNL := Lib.hid hnl
      clear hnl hst hx hni hvC hvc l5 g5
      go_wp2_with fail
      clear b3 k3 x2 hbx
      refine' wp_region_factsM (S := (fun _ W => Below wr.heap.size wr W)) (fun _ W W' => Below W.heap.size W W') [eqM _, eqM (.slice Av acc.length cv), eqM _, eqM (.slice (some ad) 5 c), eqM (.pointer (some ⟨ad.block, ad.off + 4, none⟩)), eqM (.pointer (some ⟨ad.block, ad.off + 4 + 3, none⟩)), eqM (.slice (some ad5) p.f3.length c5), eqM _, eqM (.pointer (some (ad5.add (i * 4)))), eqM (.pointer (some ⟨(ad5.add (i * 4)).block, (ad5.add (i * 4)).off + 2, none⟩)), eqM (.string x.f2), strLit wr.heap.size x.f2] (by kernel_rfl) (by kernel_rfl) ?hst ?h0 (Ord.stepsM_cons ?s0 (Ord.stepsM_cons ?s1 (Ord.stepsM_cons ?s2 (Ord.stepsM_cons ?s3 (Ord.stepsM_cons ?s4 (Ord.stepsM_cons ?s5 (Ord.stepsM_cons ?s6 (Ord.stepsM_cons ?s7 (Ord.stepsM_cons ?s8 (Ord.stepsM_cons ?s9 (Ord.stepsM_cons ?s10 (Ord.stepsM_cons ?s11 (Ord.stepsM_nil))))))))))))) ?fin
      case s0 =>
        intro g W L hL hSW hd
        try simp only [Nat.zero_add, Nat.reduceAdd] at hd ⊢
        with_reducible refine OpGives.pre_reads [] 114 ?_ ?_ ?_
        · rfl
        · kernel_rfl
        simp only [List.map_cons, List.map_nil]
        refine OpGives.val (w' := W) ?_ ⟨Below.refl _ _, rfl, hSW⟩
        go_simp
        try with_reducible rfl
      case s1 =>
        intro g W L hL hSW hd
        try simp only [Nat.zero_add, Nat.reduceAdd] at hd ⊢
        have h0 : g 0 = _ := hd 0 (by decide) (by kernel_rfl)
        with_reducible refine OpGives.pre_reads [(98, 0)] 114 ?_ ?_ ?_
        · rfl
        · kernel_rfl
        simp only [List.map_cons, List.map_nil]
        obtain ⟨z0, z1, z2, z3⟩ := HCR.out W hSW; refine OpGives.val (v := .slice Av acc.length cv) (w' := W) ?_ ⟨Below.refl _ _, rfl, hSW⟩; rw [h0]; go_simp
      case s2 =>
        intro g W L hL hSW hd
        try simp only [Nat.zero_add, Nat.reduceAdd] at hd ⊢
        with_reducible refine OpGives.pre_reads [] 114 ?_ ?_ ?_
        · rfl
        · kernel_rfl
        simp only [List.map_cons, List.map_nil]
        refine OpGives.val (w' := W) ?_ ⟨Below.refl _ _, rfl, hSW⟩
        go_simp
        try with_reducible rfl
      case s3 =>
        intro g W L hL hSW hd
        try simp only [Nat.zero_add, Nat.reduceAdd] at hd ⊢
        have h2 : g 2 = _ := hd 2 (by decide) (by kernel_rfl)
        with_reducible refine OpGives.pre_reads [(100, 2)] 114 ?_ ?_ ?_
        · rfl
        · kernel_rfl
        simp only [List.map_cons, List.map_nil]
        obtain ⟨z0, z1, z2, z3⟩ := HCR.out W hSW; refine OpGives.val (v := .slice (some ad) 5 c) (w' := W) ?_ ⟨Below.refl _ _, rfl, hSW⟩; rw [h2]; go_simp
      case s4 =>
        intro g W L hL hSW hd
        try simp only [Nat.zero_add, Nat.reduceAdd] at hd ⊢
        have h3 : g 3 = _ := hd 3 (by decide) (by kernel_rfl)
        with_reducible refine OpGives.pre_reads [(101, 3)] 114 ?_ ?_ ?_
        · rfl
        · kernel_rfl
        simp only [List.map_cons, List.map_nil]
        refine OpGives.val (v := .pointer (some ⟨ad.block, ad.off + 4, none⟩)) (w' := W) ?_ ⟨Below.refl _ _, rfl, hSW⟩; rw [h3]; go_simp
      case s5 =>
        intro g W L hL hSW hd
        try simp only [Nat.zero_add, Nat.reduceAdd] at hd ⊢
        have h4 : g 4 = _ := hd 4 (by decide) (by kernel_rfl)
        with_reducible refine OpGives.pre_reads [(102, 4)] 114 ?_ ?_ ?_
        · rfl
        · kernel_rfl
        simp only [List.map_cons, List.map_nil]
        refine OpGives.val (v := .pointer (some ⟨ad.block, ad.off + 4 + 3, none⟩)) (w' := W) ?_ ⟨Below.refl _ _, rfl, hSW⟩; rw [h4]; go_simp
      case s6 =>
        intro g W L hL hSW hd
        try simp only [Nat.zero_add, Nat.reduceAdd] at hd ⊢
        have h5 : g 5 = _ := hd 5 (by decide) (by kernel_rfl)
        with_reducible refine OpGives.pre_reads [(103, 5)] 114 ?_ ?_ ?_
        · rfl
        · kernel_rfl
        simp only [List.map_cons, List.map_nil]
        obtain ⟨z0, z1, z2, z3⟩ := HCR.out W hSW; refine OpGives.val (v := .slice (some ad5) p.f3.length c5) (w' := W) ?_ ⟨Below.refl _ _, rfl, hSW⟩; rw [h5]; go_simp
      case s7 =>
        intro g W L hL hSW hd
        try simp only [Nat.zero_add, Nat.reduceAdd] at hd ⊢
        with_reducible refine OpGives.pre_reads [] 114 ?_ ?_ ?_
        · rfl
        · kernel_rfl
        simp only [List.map_cons, List.map_nil]
        refine OpGives.val (w' := W) ?_ ⟨Below.refl _ _, rfl, hSW⟩
        go_simp
        try with_reducible rfl
      case s8 =>
        intro g W L hL hSW hd
        try simp only [Nat.zero_add, Nat.reduceAdd] at hd ⊢
        have h6 : g 6 = _ := hd 6 (by decide) (by kernel_rfl)
        have h7 : g 7 = _ := hd 7 (by decide) (by kernel_rfl)
        with_reducible refine OpGives.pre_reads [(104, 6), (105, 7)] 114 ?_ ?_ ?_
        · rfl
        · kernel_rfl
        simp only [List.map_cons, List.map_nil]
        refine OpGives.val (v := .pointer (some (ad5.add (i * 4)))) (w' := W) ?_ ⟨Below.refl _ _, rfl, hSW⟩; rw [h6, h7]; go_simp
      case s9 =>
        intro g W L hL hSW hd
        try simp only [Nat.zero_add, Nat.reduceAdd] at hd ⊢
        have h8 : g 8 = _ := hd 8 (by decide) (by kernel_rfl)
        with_reducible refine OpGives.pre_reads [(106, 8)] 114 ?_ ?_ ?_
        · rfl
        · kernel_rfl
        simp only [List.map_cons, List.map_nil]
        refine OpGives.val (v := .pointer (some ⟨(ad5.add (i * 4)).block, (ad5.add (i * 4)).off + 2, none⟩)) (w' := W) ?_ ⟨Below.refl _ _, rfl, hSW⟩; rw [h8]; go_simp
      case s10 =>
        intro g W L hL hSW hd
        try simp only [Nat.zero_add, Nat.reduceAdd] at hd ⊢
        have h9 : g 9 = _ := hd 9 (by decide) (by kernel_rfl)
        with_reducible refine OpGives.pre_reads [(107, 9)] 114 ?_ ?_ ?_
        · rfl
        · kernel_rfl
        simp only [List.map_cons, List.map_nil]
        obtain ⟨z0, z1, z2, z3⟩ := HCR.out W hSW; refine OpGives.val (v := .string x.f2) (w' := W) ?_ ⟨Below.refl _ _, rfl, hSW⟩; rw [h9]; go_simp
      case s11 =>
        intro g W L hL hSW hd
        try simp only [Nat.zero_add, Nat.reduceAdd] at hd ⊢
        have h10 : g 10 = _ := hd 10 (by decide) (by kernel_rfl)
        with_reducible refine OpGives.pre_reads [(108, 10)] 114 ?_ ?_ ?_
        · rfl
        · kernel_rfl
        simp only [List.map_cons, List.map_nil]
        refine OpGives.val (v := .slice (some ⟨W.heap.size, 0, none⟩) 1 1) (w' := W.alloc (.cells #[.string x.f2] 9)) ?_ ⟨(Below.refl _ _).alloc (Nat.le_refl _) _, ⟨_, rfl, hSW.size, alloc_lastV _ _⟩, hSW.alloc hSW.size _⟩; rw [h10]; go_simp
      case hst =>
        refine fun i j v w w' _ h hR => st_of (R := fun W W' => Below W.heap.size W W') ?_ i v w w' h hR
        repeat' first
          | exact trivial
          | with_reducible refine StL.eq ?_
          | refine ⟨fun v w w' h hR => strLit_below h hR, ?_⟩
      case h0 => exact (Below.refl _ _).drew
      case fin =>
        intro v' W L hL hSW hf
        have h11 := hf 11 (Nat.lt_of_lt_of_eq (by decide : 11 < 12) rfl)
        have h1 : v' 1 = _ := hf 1 (Nat.lt_of_lt_of_eq (by decide : 1 < 12) rfl)
        change strLit wr.heap.size x.f2 (v' 11) W at h11
        clear hf
        generalize hF : Ord.pre _ _ v' _ = F
        rw [Ord.pre_lit [some 98, some 99, some 100, some 101, some 102, some 103, some 104, some 105, some 106, some 107, some 108, some 109]
          (by kernel_rfl)] at hF
        simp only [Ord.puts, Nat.zero_add, Nat.reduceAdd] at hF
        subst hF
        rw [h1]
        obtain ⟨gs, eg, hlg, hgg⟩ := h11
        rw [eg]
        have hniW := HNJ.out.later hSW
        have hgl := (Array.getElem?_eq_some_iff.1 hniW.blk).1
        obtain ⟨v8, W8, hr8, hg8, hR8⟩ := append_str (b0 := g + 1) hniW.row (by omega) hgg HNL.out 25
        obtain ⟨A8, c8, rfl, _, _⟩ := Kd.R_reads hR8
        have hst := hniW.step hg8 hR8
        have hblk8 := (hg8.block g hgl (fun e => by
          obtain ⟨_, inner, hown, _⟩ := hniW.row
          have := own_base hown _ e.symm; omega)).trans hniW.blk
        have y3 : W8.cell? ⟨g, 4, none⟩ = some (.slice Av acc.length cv) := (box8 hblk8).2.1
        have x3 : W8.frozen? ⟨g, 4, none⟩ = false := Lib.frozen_of_heap hblk8 4
        have HST8 := Lib.hid (show CommIn W1 g sx.f1 n.f2 t.f2 (.slice A8 (acc ++ [x.f2]).length c8) (acc ++ [x.f2]) (W8.setCell ⟨g, 4, none⟩ (.slice A8 (acc ++ [x.f2]).length c8)) from hst)
        have hll : (acc ++ [x.f2]).length = acc.length + 1 := by simp only [List.length_append, List.length_singleton]
        rw [hll] at HST8 hr8
        clear hst hR8 hg8 hniW hgl hblk8 eg hgg hlg hSW h1 hll
        refine any_one (i := 12) (by kernel_rfl) ?_
        refine wpOp_value (v := .slice A8 (acc.length + 1) c8) (w' := W8) rfl rfl ?_ ?_
        · refine exec_append (.tmp 99) (.tmp 109) 25 rfl ?_
          have key : ∀ a b ty, a = .slice Av acc.length cv → b = .slice (some ⟨gs, 0, none⟩) 1 1 → ty = 25 → (Builtin.append_ #[25, 25] ty #[a, b]).run Tryd.prog W = .ok (.slice A8 (acc.length + 1) c8) W8 := by rintro _ _ _ rfl rfl rfl; exact hr8
          refine key _ _ _ ?_ ?_ rfl
          · go_simp
          · go_simp
        clear hr8
        refine any_one (i := 13) (by kernel_rfl) (wpOp_value (v := .pointer (some ⟨g, 4, none⟩)) (w' := W8) rfl rfl (by go_simp) ?_)
        refine any_one (i := 14) (by kernel_rfl) (wpOp_skip (w' := W8.setCell ⟨g, 4, none⟩ (.slice A8 (acc.length + 1) c8)) rfl rfl (by go_simp) ?_)
        refine wpAny_done (by kernel_rfl) ?_ _
        try simp only [List.getElem_toArray, List.getElem_cons_succ, List.getElem_cons_zero]
        go_frame
        generalize W8.setCell ⟨g, 4, none⟩ (.slice A8 (acc.length + 1) c8) = W9 at HST8 ⊢
        clear y3 x3
        go_wp2_with fail
        go_roundw
        case rel => exact ⟨i + 1, _, _, by go_num, hil, HST, HST8.out⟩
        case measure => simp [intOf]; omega
set_option maxHeartbeats 1000000 in
set_option maxRecDepth 100000 in
theorem guess_else (x : S42) (A : Option Addr) (c : Nat) (w : World) (h4 : x.f3.length ≠ 4) (h5 : x.f3.length ≠ 5) :
    Calls Tryd.prog 28 #[.agg #[.int .i64 x.f0, .int .i64 x.f1, .string x.f2, .slice A x.f3.length c]] w (GuessPost zOb w) := by
  obtain ⟨RP, hRP⟩ : ∃ RP : Ending → World → Prop, RP = GuessPost zOb w := ⟨_, rfl⟩
  rw [← hRP]
  have HRP := Lib.hid hRP
  clear hRP
  obtain ⟨W0, hW0⟩ : ∃ W0, W0 = w.alloc (.cells #[.int .i64 x.f0, .int .i64 x.f1, .string x.f2, .slice A x.f3.length c] 42) := ⟨_, rfl⟩
  obtain ⟨W1, hW1⟩ : ∃ W1, W1 = W0.alloc (.cells obZ 27) := ⟨_, rfl⟩
  have hn0 : Below w.heap.size w W0 := by rw [hW0]; exact (Below.refl _ _).alloc (Nat.le_refl _) _
  have hn1 : Below W0.heap.size W0 W1 := by rw [hW1]; exact (Below.refl _ _).alloc (Nat.le_refl _) _
  have hg0 : W0.heap[w.heap.size]? = some (.cells #[.int .i64 x.f0, .int .i64 x.f1, .string x.f2, .slice A x.f3.length c] 42 (0, 0)) := by rw [hW0]; exact alloc_lastV _ _
  have hs0 : W0.heap.size = w.heap.size + 1 := by rw [hW0]; simp
  have hg1 : W1.heap[w.heap.size + 1]? = some (.cells obZ 27 (0, 0)) := by rw [← hs0, hW1]; exact alloc_lastV _ _
  have hg01 := (hn1.block _ (Array.getElem?_eq_some_iff.1 hg0).1).trans hg0
  have hb1 : Below w.heap.size w W1 := hn0.trans (hn1.mono hn0.size)
  have b3 : W1.cell? ⟨w.heap.size, 3, none⟩ = some (.slice A x.f3.length c) := (box4 hg01).1.2.2.2
  unfold obZ at hW1 hg1
  obtain ⟨⟨z0, z1, z2, z3⟩, z4, z5, z6, z7⟩ := box8 hg1
  obtain ⟨⟨q0, q1, q2, q3⟩, q4, q5, q6, q7⟩ := frozen8 hg1
  have hsm := put8_same hg1 (.int .i64 0) (.string (⟨#[]⟩ : ByteArray)) (.slice none 0 0) (.slice none 0 0) (.slice none 0 0) (.int .i64 0) (.string (⟨#[]⟩ : ByteArray)) (.string (⟨#[]⟩ : ByteArray))
  have hp := put8_below (B := w.heap.size) (g := w.heap.size + 1) hb1 (by omega) (.int .i64 0) (.string (⟨#[]⟩ : ByteArray)) (.slice none 0 0) (.slice none 0 0) (.slice none 0 0) (.int .i64 0) (.string (⟨#[]⟩ : ByteArray)) (.string (⟨#[]⟩ : ByteArray))
  rw [hW1, hW0] at b3
  have HW1 := Lib.hid (hW1.trans (by rw [hW0]))
  have HSM := Lib.hid hsm
  have HP := Lib.hid hp
  have h4' : ((x.f3.length : Int) == 4) = false := by rw [beq_eq_false_iff_ne]; omega
  have h5' : ((x.f3.length : Int) == 5) = false := by rw [beq_eq_false_iff_ne]; omega
  clear hn0 hn1 hg0 hg1 hg01 hs0 hb1 hW0 hW1 hsm hp h4 h5
  go_enter Tryd.func28, Tryd.ntmps28
  go_upto_if 71 with (fail)
  rw [← HW1.out]
  clear b3
  go_wp2_with fail
  refine bodyPost_ret (results_ob1 guess_results _ _ (w.heap.size + 1) _ _ _ _ _ _ _ _ rfl HSM.out) rfl ?_
  rw [HRP.out]
  exact ⟨none, 0, none, 0, none, 0, rfl, ObR_zero _ _, HP.out⟩
theorem dguess_calls (x : S42) (A : Option Addr) (c : Nat) (w : World) (hA : Kd.C k42 w A x.f3.length x.f3) (hs : ∀ y ∈ x.f3, y.f3.length ≤ 1000000) :
    Calls Tryd.prog 28 #[.agg #[.int .i64 x.f0, .int .i64 x.f1, .string x.f2, .slice A x.f3.length c]] w (GuessPost (guessO x) w) := by
  obtain ⟨k0, n0, s0, l⟩ := x
  unfold guessO
  match l, hA, hs with
  | [xa, b, r, k], hA, hs => exact guess_four k0 n0 s0 xa b r k A c w hA (hs r (by simp)) (hs k (by simp))
  | [xa, p, sx, n, t], hA, hs => exact guess_five k0 n0 s0 xa p sx n t A c w hA (hs p (by simp))
  | [], _, _ => exact guess_else ⟨k0, n0, s0, []⟩ A c w (by simp) (by simp)
  | [a], _, _ => exact guess_else ⟨k0, n0, s0, [a]⟩ A c w (by simp) (by simp)
  | [a, b], _, _ => exact guess_else ⟨k0, n0, s0, [a, b]⟩ A c w (by simp) (by simp)
  | [a, b, d], _, _ => exact guess_else ⟨k0, n0, s0, [a, b, d]⟩ A c w (by simp) (by simp)
  | a :: b :: d :: e :: f :: g :: l, _, _ => exact guess_else ⟨k0, n0, s0, a :: b :: d :: e :: f :: g :: l⟩ A c w (by simp) (by simp)
end Go.Proofs.YtgjlchcfdbmmlaaDoor.PObjectTakes
namespace Go.Proofs.YtgjlchcfdbmmlaaDoor.PObjectTakes
open Go.RowKit Go.Proofs.YtgjlchcfdbmmlaaDoor.Ord Go.Proofs.YtgjlchcfdbmmlaaDoor.Obj Go.Proofs.YtgjlchcfdbmmlaaDoorW.PrintWords Go.Proofs.YtgjlchcfdbmmlaaDoorW.PrintLast Go.Proofs.YtgjlchcfdbmmlaaDoorW.PrintMore
attribute [local irreducible] OpGives
attribute [local go_sem] rdl_const rdl_func rdl_global rdl_nil rdl_cons

set_option maxHeartbeats 16000000 in
set_option maxRecDepth 100000 in
theorem shape_node (o : Ob) (Ar : Option Addr) (cr : Nat) (Ak : Option Addr) (ck : Nat) (Ap : Option Addr) (cp : Nat) (w : World) (hO : ObAt w o Ar cr Ak ck Ap cp) (hrl : o.rows.length ≤ 1000000) (hkl : o.kids.length ≤ 1000000) (hk8 : ∀ x ∈ o.kids, 0 ≤ x.f0 ∧ x.f0 ≤ 255) (hk1 : o.kind = 1) :
    Calls Tryd.prog 31 #[.agg (obV o Ar cr Ak ck Ap cp)] w (CellPostR w.heap.size (nodeC o) w) := by
  obtain ⟨knd, lab, rws, kds, prs, stp, nte, rot⟩ := o
  unfold obV nodeC
  simp only at hO hrl hkl hk8 hk1 ⊢
  subst hk1
  have hOk := hO.k
  have hOr := hO.r
  have hOlr := hO.lr
  simp only at hOk hOr hOlr
  obtain ⟨W1, hW1⟩ : ∃ W1, W1 = w.alloc (.cells #[.int .i64 1, .string lab, .slice Ar rws.length cr, .slice Ak kds.length ck, .slice Ap prs.length cp, .int .i64 stp, .string nte, .string rot] 27) := ⟨_, rfl⟩
  have hn1 : Below w.heap.size w W1 := by rw [hW1]; exact (Below.refl _ _).alloc (Nat.le_refl _) _
  have hg1 : W1.heap[w.heap.size]? = some (.cells #[.int .i64 1, .string lab, .slice Ar rws.length cr, .slice Ak kds.length ck, .slice Ap prs.length cp, .int .i64 stp, .string nte, .string rot] 27 (0, 0)) := by rw [hW1]; exact alloc_lastV _ _
  have hs1 : W1.heap.size = w.heap.size + 1 := by rw [hW1]; simp
  obtain ⟨W2, hW2⟩ : ∃ W2, W2 = W1.alloc (.cells #[.int .i64 0, .int .i64 0, .string (⟨#[]⟩ : ByteArray), .slice none 0 0] 42) := ⟨_, rfl⟩
  have hn2 : Below W1.heap.size W1 W2 := by rw [hW2]; exact (Below.refl _ _).alloc (Nat.le_refl _) _
  have hg2 : W2.heap[w.heap.size + 1]? = some (.cells #[.int .i64 0, .int .i64 0, .string (⟨#[]⟩ : ByteArray), .slice none 0 0] 42 (0, 0)) := by rw [hW2, ← hs1]; exact alloc_lastV _ _
  have hs2 : W2.heap.size = w.heap.size + 2 := by rw [hW2]; simp [hs1]
  have hgn := (hn2.block _ (Array.getElem?_eq_some_iff.1 hg1).1).trans hg1
  have hb2 : Below w.heap.size w W2 := hn1.trans (hn2.mono hn1.size)
  obtain ⟨⟨b0, b1, b2, b3⟩, b4, b5, b6, b7⟩ := box8 hgn
  have HK := Lib.hid (Kd.C_below hOk hb2)
  have HR := Lib.hid (Kd.C_below hOr hb2)
  have HGN := Lib.hid hgn
  have HG2 := Lib.hid hg2
  have HB2 := Lib.hid hb2
  have HS2 := Lib.hid hs2
  have HK8 := Lib.hid hk8
  rw [hW2, hW1] at b0 b1 b2 b3 b4 b5 b6 b7
  rw [hW1] at hW2
  have HW2 := Lib.hid hW2
  clear hW1 hW2 hn1 hg1 hs1 hn2 hg2 hs2 hgn hb2 hO hOk hOr hk8
  go_enter Tryd.func31, Tryd.ntmps31
  go_wp2_with fail
  rw [← HW2.out]
  clear b0 b1 b2 b3 b4 b5 b6 b7
  go_loopw [3, 4] (fun v i wr => ∃ k : Nat, i = .int .i64 (k : Int) ∧ k ≤ kds.length ∧ rC wr W2.heap.size v ((kds.take k).map kidC) ∧ Below W2.heap.size W2 wr) (fun _ i _ => kds.length - (intOf i).toNat)
  case atStart => exact ⟨0, rfl, Nat.zero_le _, Kd.R_nil _ _ _ _ _, Below.refl _ _⟩
  case round =>
    obtain ⟨i, rfl, hi, hrow, hbe⟩ := hrel
    have HROW := Lib.hid hrow
    have HBE := Lib.hid hbe
    have b3 := (box8 ((hbe.block _ (Array.getElem?_eq_some_iff.1 HGN.out).1).trans HGN.out)).1.2.2.2
    by_cases hil : i < kds.length
    · obtain ⟨x, hx⟩ : ∃ x, kds[i]? = some x := ⟨_, List.getElem?_eq_getElem hil⟩
      obtain ⟨ad, rfl, c0, c1, hbk⟩ := kid_at (Kd.C_below HK.out hbe) hx
      have hx8 := HK8.out x (List.mem_of_getElem? hx)
      have HX := Lib.hid hx
      have hlen : ((kds.take i).map kidC).length ≤ 1000000 := by rw [List.length_map, List.length_take]; omega
      have HLEN := Lib.hid hlen
      have hwx : IntKind.i64.wrap x.f0 = x.f0 := by rw [IntKind.wrap_i64]; omega
      clear hx hlen hrow hbe hx8
      have hbx : ∀ W, Below wr.heap.size wr W → W.cell? ⟨w.heap.size, 3, none⟩ = some (.slice (some ad) kds.length ck) := fun W hW => by
        have h2 : Below W2.heap.size W2 W := HBE.out.trans (hW.mono HBE.out.size)
        exact (box8 ((h2.block _ (Array.getElem?_eq_some_iff.1 HGN.out).1).trans HGN.out)).1.2.2.2
      have hcl : ∀ W, Below wr.heap.size wr W → W.cell? (ad.add (i * 2)) = some (.int .u8 x.f0) ∧ W.cell? ⟨(ad.add (i * 2)).block, (ad.add (i * 2)).off + 1, none⟩ = some (.string x.f1) := fun W hW => by
        obtain ⟨ad', e', q0, q1, _⟩ := kid_at (Kd.C_below HK.out (HBE.out.trans (hW.mono HBE.out.size))) HX.out
        cases e'
        exact ⟨q0, q1⟩
      have HCL := Lib.hid hcl
      have HBX := Lib.hid hbx
      have HB7 := Lib.hid (Below.refl wr.heap.size wr)
      have hi0 : (0 : Int) ≤ (i : Int) := by omega
      have hi1 : (i : Int) < (kds.length : Int) := by omega
      clear hcl hbx c0 c1 hbk
      go_wp2_with fail
      clear b3
      refine' wp_region_factsM (S := (fun _ W => Below wr.heap.size wr W)) (fun _ W W' => Below W.heap.size W W') [eqM _, eqM _, eqM (.slice (some ad) kds.length ck), eqM _, eqM (.pointer (some (ad.add (i * 2)))), eqM (.pointer (some (ad.add (i * 2)))), eqM (.int .u8 x.f0), eqM (.int .i64 x.f0), cellF wr.heap.size (numC x.f0), eqM _, eqM (.slice (some ad) kds.length ck), eqM _, eqM (.pointer (some (ad.add (i * 2)))), eqM (.pointer (some ⟨(ad.add (i * 2)).block, (ad.add (i * 2)).off + 1, none⟩)), eqM (.string x.f1), cellF wr.heap.size (textC x.f1), rowF wr.heap.size [numC x.f0, textC x.f1], cellF wr.heap.size (kidC x), litC wr.heap.size [kidC x]] (by kernel_rfl) (by kernel_rfl) ?hst ?h0 (Ord.stepsM_cons ?s0 (Ord.stepsM_cons ?s1 (Ord.stepsM_cons ?s2 (Ord.stepsM_cons ?s3 (Ord.stepsM_cons ?s4 (Ord.stepsM_cons ?s5 (Ord.stepsM_cons ?s6 (Ord.stepsM_cons ?s7 (Ord.stepsM_cons ?s8 (Ord.stepsM_cons ?s9 (Ord.stepsM_cons ?s10 (Ord.stepsM_cons ?s11 (Ord.stepsM_cons ?s12 (Ord.stepsM_cons ?s13 (Ord.stepsM_cons ?s14 (Ord.stepsM_cons ?s15 (Ord.stepsM_cons ?s16 (Ord.stepsM_cons ?s17 (Ord.stepsM_cons ?s18 (Ord.stepsM_nil)))))))))))))))))))) ?fin
      case s0 =>
        intro g W L hL hSW hd
        try simp only [Nat.zero_add, Nat.reduceAdd] at hd ⊢
        with_reducible refine OpGives.pre_reads [] 78 ?_ ?_ ?_
        · rfl
        · kernel_rfl
        simp only [List.map_cons, List.map_nil]
        refine OpGives.val (w' := W) ?_ ⟨Below.refl _ _, rfl, hSW⟩
        go_simp
        try with_reducible rfl
      case s1 =>
        intro g W L hL hSW hd
        try simp only [Nat.zero_add, Nat.reduceAdd] at hd ⊢
        with_reducible refine OpGives.pre_reads [] 78 ?_ ?_ ?_
        · rfl
        · kernel_rfl
        simp only [List.map_cons, List.map_nil]
        refine OpGives.val (w' := W) ?_ ⟨Below.refl _ _, rfl, hSW⟩
        go_simp
        try with_reducible rfl
      case s2 =>
        intro g W L hL hSW hd
        try simp only [Nat.zero_add, Nat.reduceAdd] at hd ⊢
        have h1 : g 1 = _ := hd 1 (by decide) (by kernel_rfl)
        with_reducible refine OpGives.pre_reads [(18, 1)] 78 ?_ ?_ ?_
        · rfl
        · kernel_rfl
        simp only [List.map_cons, List.map_nil]
        have z3 := HBX.out W hSW; refine OpGives.val (v := .slice (some ad) kds.length ck) (w' := W) ?_ ⟨Below.refl _ _, rfl, hSW⟩; rw [h1]; go_simp
      case s3 =>
        intro g W L hL hSW hd
        try simp only [Nat.zero_add, Nat.reduceAdd] at hd ⊢
        with_reducible refine OpGives.pre_reads [] 78 ?_ ?_ ?_
        · rfl
        · kernel_rfl
        simp only [List.map_cons, List.map_nil]
        refine OpGives.val (w' := W) ?_ ⟨Below.refl _ _, rfl, hSW⟩
        go_simp
        try with_reducible rfl
      case s4 =>
        intro g W L hL hSW hd
        try simp only [Nat.zero_add, Nat.reduceAdd] at hd ⊢
        have h2 : g 2 = _ := hd 2 (by decide) (by kernel_rfl)
        have h3 : g 3 = _ := hd 3 (by decide) (by kernel_rfl)
        with_reducible refine OpGives.pre_reads [(19, 2), (20, 3)] 78 ?_ ?_ ?_
        · rfl
        · kernel_rfl
        simp only [List.map_cons, List.map_nil]
        refine OpGives.val (v := .pointer (some (ad.add (i * 2)))) (w' := W) ?_ ⟨Below.refl _ _, rfl, hSW⟩; rw [h2, h3]; go_simp
      case s5 =>
        intro g W L hL hSW hd
        try simp only [Nat.zero_add, Nat.reduceAdd] at hd ⊢
        have h4 : g 4 = _ := hd 4 (by decide) (by kernel_rfl)
        with_reducible refine OpGives.pre_reads [(21, 4)] 78 ?_ ?_ ?_
        · rfl
        · kernel_rfl
        simp only [List.map_cons, List.map_nil]
        rw [h4]; refine OpGives.val (v := .pointer (some (ad.add (i * 2)))) (w' := W) ?_ ⟨Below.refl _ _, rfl, hSW⟩; go_simp
      case s6 =>
        intro g W L hL hSW hd
        try simp only [Nat.zero_add, Nat.reduceAdd] at hd ⊢
        have h5 : g 5 = _ := hd 5 (by decide) (by kernel_rfl)
        with_reducible refine OpGives.pre_reads [(22, 5)] 78 ?_ ?_ ?_
        · rfl
        · kernel_rfl
        simp only [List.map_cons, List.map_nil]
        rw [h5]; obtain ⟨z0, z1⟩ := HCL.out W hSW; refine OpGives.val (v := .int .u8 x.f0) (w' := W) ?_ ⟨Below.refl _ _, rfl, hSW⟩; go_simp
      case s7 =>
        intro g W L hL hSW hd
        try simp only [Nat.zero_add, Nat.reduceAdd] at hd ⊢
        have h6 : g 6 = _ := hd 6 (by decide) (by kernel_rfl)
        with_reducible refine OpGives.pre_reads [(23, 6)] 78 ?_ ?_ ?_
        · rfl
        · kernel_rfl
        simp only [List.map_cons, List.map_nil]
        rw [h6]; refine OpGives.val (v := .int .i64 x.f0) (w' := W) ?_ ⟨Below.refl _ _, rfl, hSW⟩; go_simp
      case s8 =>
        intro g W L hL hSW hd
        try simp only [Nat.zero_add, Nat.reduceAdd] at hd ⊢
        have h7 : g 7 = _ := hd 7 (by decide) (by kernel_rfl)
        with_reducible refine OpGives.pre_reads [(24, 7)] 78 ?_ ?_ ?_
        · rfl
        · kernel_rfl
        simp only [List.map_cons, List.map_nil]
        rw [h7]; refine OpGives.call (f := 52) (args := #[.int .i64 x.f0]) (w' := W) (by go_simp) ((num7_R x.f0 W).mono fun e W' ⟨he, hb⟩ => ⟨_, he, hb, num_F _ _ _, hSW.trans (hb.mono hSW.size)⟩)
      case s9 =>
        intro g W L hL hSW hd
        try simp only [Nat.zero_add, Nat.reduceAdd] at hd ⊢
        with_reducible refine OpGives.pre_reads [] 78 ?_ ?_ ?_
        · rfl
        · kernel_rfl
        simp only [List.map_cons, List.map_nil]
        refine OpGives.val (w' := W) ?_ ⟨Below.refl _ _, rfl, hSW⟩
        go_simp
        try with_reducible rfl
      case s10 =>
        intro g W L hL hSW hd
        try simp only [Nat.zero_add, Nat.reduceAdd] at hd ⊢
        have h9 : g 9 = _ := hd 9 (by decide) (by kernel_rfl)
        with_reducible refine OpGives.pre_reads [(26, 9)] 78 ?_ ?_ ?_
        · rfl
        · kernel_rfl
        simp only [List.map_cons, List.map_nil]
        have z3 := HBX.out W hSW; refine OpGives.val (v := .slice (some ad) kds.length ck) (w' := W) ?_ ⟨Below.refl _ _, rfl, hSW⟩; rw [h9]; go_simp
      case s11 =>
        intro g W L hL hSW hd
        try simp only [Nat.zero_add, Nat.reduceAdd] at hd ⊢
        with_reducible refine OpGives.pre_reads [] 78 ?_ ?_ ?_
        · rfl
        · kernel_rfl
        simp only [List.map_cons, List.map_nil]
        refine OpGives.val (w' := W) ?_ ⟨Below.refl _ _, rfl, hSW⟩
        go_simp
        try with_reducible rfl
      case s12 =>
        intro g W L hL hSW hd
        try simp only [Nat.zero_add, Nat.reduceAdd] at hd ⊢
        have h10 : g 10 = _ := hd 10 (by decide) (by kernel_rfl)
        have h11 : g 11 = _ := hd 11 (by decide) (by kernel_rfl)
        with_reducible refine OpGives.pre_reads [(27, 10), (28, 11)] 78 ?_ ?_ ?_
        · rfl
        · kernel_rfl
        simp only [List.map_cons, List.map_nil]
        refine OpGives.val (v := .pointer (some (ad.add (i * 2)))) (w' := W) ?_ ⟨Below.refl _ _, rfl, hSW⟩; rw [h10, h11]; go_simp
      case s13 =>
        intro g W L hL hSW hd
        try simp only [Nat.zero_add, Nat.reduceAdd] at hd ⊢
        have h12 : g 12 = _ := hd 12 (by decide) (by kernel_rfl)
        with_reducible refine OpGives.pre_reads [(29, 12)] 78 ?_ ?_ ?_
        · rfl
        · kernel_rfl
        simp only [List.map_cons, List.map_nil]
        rw [h12]; refine OpGives.val (v := .pointer (some ⟨(ad.add (i * 2)).block, (ad.add (i * 2)).off + 1, none⟩)) (w' := W) ?_ ⟨Below.refl _ _, rfl, hSW⟩; go_simp
      case s14 =>
        intro g W L hL hSW hd
        try simp only [Nat.zero_add, Nat.reduceAdd] at hd ⊢
        have h13 : g 13 = _ := hd 13 (by decide) (by kernel_rfl)
        with_reducible refine OpGives.pre_reads [(30, 13)] 78 ?_ ?_ ?_
        · rfl
        · kernel_rfl
        simp only [List.map_cons, List.map_nil]
        rw [h13]; obtain ⟨z0, z1⟩ := HCL.out W hSW; refine OpGives.val (v := .string x.f1) (w' := W) ?_ ⟨Below.refl _ _, rfl, hSW⟩; go_simp
      case s15 =>
        intro g W L hL hSW hd
        try simp only [Nat.zero_add, Nat.reduceAdd] at hd ⊢
        have h14 : g 14 = _ := hd 14 (by decide) (by kernel_rfl)
        with_reducible refine OpGives.pre_reads [(31, 14)] 78 ?_ ?_ ?_
        · rfl
        · kernel_rfl
        simp only [List.map_cons, List.map_nil]
        rw [h14]; refine OpGives.call (f := 53) (args := #[.string x.f1]) (w' := W) (by go_simp) ((text7_R x.f1 W).mono fun e W' ⟨he, hb⟩ => ⟨_, he, hb, text_F _ _ _, hSW.trans (hb.mono hSW.size)⟩)
      case s16 =>
        intro g W L hL hSW hd
        try simp only [Nat.zero_add, Nat.reduceAdd] at hd ⊢
        have h8 := hd 8 (by decide) (by kernel_rfl)
        change (cellF wr.heap.size (numC x.f0)) (g 8) W at h8
        have h15 := hd 15 (by decide) (by kernel_rfl)
        change (cellF wr.heap.size (textC x.f1)) (g 15) W at h15
        with_reducible refine OpGives.pre_reads [(25, 8), (32, 15)] 78 ?_ ?_ ?_
        · rfl
        · kernel_rfl
        simp only [List.map_cons, List.map_nil]
        refine OpGives.val (v := .slice (some ⟨W.heap.size, 0, none⟩) 2 2) (w' := W.alloc (.cells ([g 8, g 15].flatMap fun v => v.cells.toList).toArray 42)) (exec_buildSlice 40 2 _ rfl (lit_run2 h8 h15 _ (by simp [rdl_cons]))) ⟨(Below.refl _ _).alloc (Nat.le_refl _) _, rowF_of (repsM_2 h8 h15) hSW.size (by simp), hSW.alloc hSW.size _⟩
      case s17 =>
        intro g W L hL hSW hd
        try simp only [Nat.zero_add, Nat.reduceAdd] at hd ⊢
        have h16 := hd 16 (by decide) (by kernel_rfl)
        change (rowF wr.heap.size [numC x.f0, textC x.f1]) (g 16) W at h16
        with_reducible refine OpGives.pre_reads [(33, 16)] 78 ?_ ?_ ?_
        · rfl
        · kernel_rfl
        simp only [List.map_cons, List.map_nil]
        refine OpGives.call (f := 51) (args := #[g 16]) (w' := W) (by go_simp) ((list7_R h16).mono fun e W' ⟨u, he, hf, hb⟩ => ⟨u, he, hb, hf, hSW.trans (hb.mono hSW.size)⟩)
      case s18 =>
        intro g W L hL hSW hd
        try simp only [Nat.zero_add, Nat.reduceAdd] at hd ⊢
        have h17 := hd 17 (by decide) (by kernel_rfl)
        change (cellF wr.heap.size (kidC x)) (g 17) W at h17
        with_reducible refine OpGives.pre_reads [(34, 17)] 78 ?_ ?_ ?_
        · rfl
        · kernel_rfl
        simp only [List.map_cons, List.map_nil]
        refine OpGives.val (v := .slice (some ⟨W.heap.size, 0, none⟩) 1 1) (w' := W.alloc (.cells ([g 17].flatMap fun v => v.cells.toList).toArray 42)) (exec_buildSlice 40 1 _ rfl (lit_run1 h17 _ (by simp [rdl_cons]))) ⟨(Below.refl _ _).alloc (Nat.le_refl _) _, litC_of (repsM_1 h17) hSW.size, hSW.alloc hSW.size _⟩
      case hst =>
        refine fun i j v w w' _ h hR => st_of (R := fun W W' => Below W.heap.size W W') ?_ i v w w' h hR
        repeat' first
          | exact trivial
          | with_reducible refine StL.eq ?_
          | refine ⟨fun v w w' h hR => cellF_below h hR, ?_⟩
          | refine ⟨fun v w w' h hR => rowF_below h hR, ?_⟩
          | refine ⟨fun v w w' h hR => litC_below h hR, ?_⟩
      case h0 => exact (Below.refl _ _).drew
      case fin =>
        intro v' W L hL hSW hf
        have h10 := hf 18 (Nat.lt_of_lt_of_eq (by decide : 18 < 19) rfl)
        have h0 : v' 0 = _ := hf 0 (Nat.lt_of_lt_of_eq (by decide : 0 < 19) rfl)
        change litC wr.heap.size [kidC x] (v' 18) W at h10
        clear hf
        generalize hF : Ord.pre _ _ v' _ = F
        rw [Ord.pre_lit [some 17, some 18, some 19, some 20, some 21, some 22, some 23, some 24, some 25, some 26, some 27, some 28, some 29, some 30, some 31, some 32, some 33, some 34, some 35]
          (by kernel_rfl)] at hF
        simp only [Ord.puts, Nat.zero_add, Nat.reduceAdd] at hF
        subst hF
        rw [h0]
        have hb7W := HB7.out.trans (hSW.mono HB7.out.size)
        have hrW := Kd.R_below HROW.out (⟨hb7W.os, hb7W.tape, hb7W.output, hb7W.size, hb7W.block⟩)
        obtain ⟨v8, W8, hr8, hg8, hR8⟩ := append_lit (b0 := W2.heap.size) (lo := wr.heap.size) hrW (fun k hk => Nat.lt_of_lt_of_le (rC_own HROW.out k hk) HB7.out.size) (Nat.le_trans HBE.out.size HB7.out.size) h10 HLEN.out 40
        have hB8 := grown_below hrW hg8 (HBE.out.trans (hb7W.mono HBE.out.size)) (Nat.le_trans HBE.out.size hb7W.size)
        have hR8' : rC W8 W2.heap.size v8 ((kds.take (i + 1)).map kidC) := by
          rw [List.take_add_one, HX.out]; simpa using hR8
        have HR8 := Lib.hid hR8'
        have HB8 := Lib.hid hB8
        clear hg8 hR8 hR8' hB8 hrW hb7W hSW h10
        refine any_one (i := 19) (by kernel_rfl) ?_
        refine wpOp_value (v := v8) (w' := W8) rfl rfl ?_ ?_
        · refine exec_append (.tmp 17) (.tmp 35) 40 rfl ?_
          have key : ∀ a b ty, a = u3 → b = v' 18 → ty = 40 → (Builtin.append_ #[40, 40] ty #[a, b]).run Tryd.prog W = .ok v8 W8 := by rintro _ _ _ rfl rfl rfl; exact hr8
          refine key _ _ _ ?_ ?_ rfl
          · go_simp
          · go_simp
        refine any_one (i := 20) (by kernel_rfl) ?_
        refine wpOp_value (v := v8) (w' := W8) rfl rfl (by go_simp) ?_
        refine wpAny_done (by kernel_rfl) ?_ _
        try simp only [List.getElem_toArray, List.getElem_cons_succ, List.getElem_cons_zero]
        go_frame
        clear hr8
        have hwi : IntKind.i64.wrap ((i : Int) + 1) = (i : Int) + 1 := by rw [IntKind.wrap_i64]; omega
        go_wp2_with fail
        go_roundw
        case rel => exact ⟨i + 1, by go_num, hil, HR8.out, HB8.out⟩
        case measure => simp [intOf]; omega
    · have hie : i = kds.length := by omega
      rw [hie, List.take_length] at hrow
      have HROW2 := Lib.hid hrow
      have hcl : ∀ W, Below wr.heap.size wr W → (W.cell? ⟨w.heap.size, 1, none⟩ = some (.string lab) ∧ W.cell? ⟨w.heap.size, 2, none⟩ = some (.slice Ar rws.length cr)) ∧ W.heap[w.heap.size + 1]? = some (.cells #[.int .i64 0, .int .i64 0, .string (⟨#[]⟩ : ByteArray), .slice none 0 0] 42 (0, 0)) ∧ Kd.C k55 W Ar rws.length rws ∧ rC W W2.heap.size u3 (kds.map kidC) ∧ W2.heap.size ≤ W.heap.size := fun W hW => by
        have h2 : Below W2.heap.size W2 W := HBE.out.trans (hW.mono HBE.out.size)
        obtain ⟨⟨_, b1, b2, _⟩, _⟩ := box8 ((h2.block _ (Array.getElem?_eq_some_iff.1 HGN.out).1).trans HGN.out)
        exact ⟨⟨b1, b2⟩, (h2.block _ (Array.getElem?_eq_some_iff.1 HG2.out).1).trans HG2.out, Kd.C_below HR.out h2, Kd.R_below HROW2.out hW, h2.size⟩
      have HCL := Lib.hid hcl
      have hkml : (kds.map kidC).length ≤ 1000000 := by rw [List.length_map]; exact hkl
      clear hrow hie hbe hcl
      go_wp2_with fail
      clear b3
      refine' wp_region_factsM (S := (fun _ W => Below wr.heap.size wr W)) (fun _ W W' => Below W.heap.size W W') [cellF W2.heap.size (numC 1), eqM _, eqM (.string lab), cellF W2.heap.size (textC lab), eqM _, eqM (.slice Ar rws.length cr), cellF W2.heap.size (rowsC rws), eqM _, cellF W2.heap.size (listC (kds.map kidC)), rowF W2.heap.size [numC 1, textC lab, rowsC rws, listC (kds.map kidC)], cellF W2.heap.size (listC [numC 1, textC lab, rowsC rws, listC (kds.map kidC)])] (by kernel_rfl) (by kernel_rfl) ?hst ?h0 (Ord.stepsM_cons ?s0 (Ord.stepsM_cons ?s1 (Ord.stepsM_cons ?s2 (Ord.stepsM_cons ?s3 (Ord.stepsM_cons ?s4 (Ord.stepsM_cons ?s5 (Ord.stepsM_cons ?s6 (Ord.stepsM_cons ?s7 (Ord.stepsM_cons ?s8 (Ord.stepsM_cons ?s9 (Ord.stepsM_cons ?s10 (Ord.stepsM_nil)))))))))))) ?fin
      case s0 =>
        intro g W L hL hSW hd
        try simp only [Nat.zero_add, Nat.reduceAdd] at hd ⊢
        with_reducible refine OpGives.pre_reads [] 78 ?_ ?_ ?_
        · rfl
        · kernel_rfl
        simp only [List.map_cons, List.map_nil]
        refine OpGives.call (f := 52) (args := #[.int .i64 1]) (w' := W) (by go_simp) ((num7_R 1 W).mono fun e W' ⟨he, hb⟩ => ⟨_, he, hb, num_F _ _ _, hSW.trans (hb.mono hSW.size)⟩)
      case s1 =>
        intro g W L hL hSW hd
        try simp only [Nat.zero_add, Nat.reduceAdd] at hd ⊢
        with_reducible refine OpGives.pre_reads [] 78 ?_ ?_ ?_
        · rfl
        · kernel_rfl
        simp only [List.map_cons, List.map_nil]
        refine OpGives.val (w' := W) ?_ ⟨Below.refl _ _, rfl, hSW⟩
        go_simp
        try with_reducible rfl
      case s2 =>
        intro g W L hL hSW hd
        try simp only [Nat.zero_add, Nat.reduceAdd] at hd ⊢
        have h1 : g 1 = _ := hd 1 (by decide) (by kernel_rfl)
        with_reducible refine OpGives.pre_reads [(38, 1)] 78 ?_ ?_ ?_
        · rfl
        · kernel_rfl
        simp only [List.map_cons, List.map_nil]
        obtain ⟨⟨z1, z2⟩, _⟩ := HCL.out W hSW; refine OpGives.val (v := .string lab) (w' := W) ?_ ⟨Below.refl _ _, rfl, hSW⟩; go_simp
      case s3 =>
        intro g W L hL hSW hd
        try simp only [Nat.zero_add, Nat.reduceAdd] at hd ⊢
        have h2 : g 2 = _ := hd 2 (by decide) (by kernel_rfl)
        with_reducible refine OpGives.pre_reads [(39, 2)] 78 ?_ ?_ ?_
        · rfl
        · kernel_rfl
        simp only [List.map_cons, List.map_nil]
        rw [h2]; refine OpGives.call (f := 53) (args := #[.string lab]) (w' := W) (by go_simp) ((text7_R lab W).mono fun e W' ⟨he, hb⟩ => ⟨_, he, hb, text_F _ _ _, hSW.trans (hb.mono hSW.size)⟩)
      case s4 =>
        intro g W L hL hSW hd
        try simp only [Nat.zero_add, Nat.reduceAdd] at hd ⊢
        with_reducible refine OpGives.pre_reads [] 78 ?_ ?_ ?_
        · rfl
        · kernel_rfl
        simp only [List.map_cons, List.map_nil]
        refine OpGives.val (w' := W) ?_ ⟨Below.refl _ _, rfl, hSW⟩
        go_simp
        try with_reducible rfl
      case s5 =>
        intro g W L hL hSW hd
        try simp only [Nat.zero_add, Nat.reduceAdd] at hd ⊢
        have h4 : g 4 = _ := hd 4 (by decide) (by kernel_rfl)
        with_reducible refine OpGives.pre_reads [(41, 4)] 78 ?_ ?_ ?_
        · rfl
        · kernel_rfl
        simp only [List.map_cons, List.map_nil]
        obtain ⟨⟨z1, z2⟩, _⟩ := HCL.out W hSW; refine OpGives.val (v := .slice Ar rws.length cr) (w' := W) ?_ ⟨Below.refl _ _, rfl, hSW⟩; go_simp
      case s6 =>
        intro g W L hL hSW hd
        try simp only [Nat.zero_add, Nat.reduceAdd] at hd ⊢
        have h5 : g 5 = _ := hd 5 (by decide) (by kernel_rfl)
        with_reducible refine OpGives.pre_reads [(42, 5)] 78 ?_ ?_ ?_
        · rfl
        · kernel_rfl
        simp only [List.map_cons, List.map_nil]
        rw [h5]; refine OpGives.call (f := 35) (args := #[.slice Ar rws.length cr]) (w' := W) (by go_simp) ((rows7_calls rws Ar cr W (HCL.out W hSW).2.2.1 hOlr (Nat.le_trans hrl (by decide))).mono fun e W' ⟨u, he, hf, hb⟩ => ⟨u, he, hb, cellF_lower hf (HCL.out W hSW).2.2.2.2, hSW.trans (hb.mono hSW.size)⟩)
      case s7 =>
        intro g W L hL hSW hd
        try simp only [Nat.zero_add, Nat.reduceAdd] at hd ⊢
        with_reducible refine OpGives.pre_reads [] 78 ?_ ?_ ?_
        · rfl
        · kernel_rfl
        simp only [List.map_cons, List.map_nil]
        refine OpGives.val (w' := W) ?_ ⟨Below.refl _ _, rfl, hSW⟩
        go_simp
        try with_reducible rfl
      case s8 =>
        intro g W L hL hSW hd
        try simp only [Nat.zero_add, Nat.reduceAdd] at hd ⊢
        have h7 : g 7 = _ := hd 7 (by decide) (by kernel_rfl)
        with_reducible refine OpGives.pre_reads [(44, 7)] 78 ?_ ?_ ?_
        · rfl
        · kernel_rfl
        simp only [List.map_cons, List.map_nil]
        rw [h7]; refine OpGives.call (f := 51) (args := #[u3]) (w' := W) (by go_simp) ((list7_R (HCL.out W hSW).2.2.2.1).mono fun e W' ⟨u, he, hf, hb⟩ => ⟨u, he, hb, hf, hSW.trans (hb.mono hSW.size)⟩)
      case s9 =>
        intro g W L hL hSW hd
        try simp only [Nat.zero_add, Nat.reduceAdd] at hd ⊢
        have h0 := hd 0 (by decide) (by kernel_rfl)
        change (cellF W2.heap.size (numC 1)) (g 0) W at h0
        have h3 := hd 3 (by decide) (by kernel_rfl)
        change (cellF W2.heap.size (textC lab)) (g 3) W at h3
        have h6 := hd 6 (by decide) (by kernel_rfl)
        change (cellF W2.heap.size (rowsC rws)) (g 6) W at h6
        have h8 := hd 8 (by decide) (by kernel_rfl)
        change (cellF W2.heap.size (listC (kds.map kidC))) (g 8) W at h8
        with_reducible refine OpGives.pre_reads [(37, 0), (40, 3), (43, 6), (45, 8)] 78 ?_ ?_ ?_
        · rfl
        · kernel_rfl
        simp only [List.map_cons, List.map_nil]
        refine OpGives.val (v := .slice (some ⟨W.heap.size, 0, none⟩) 4 4) (w' := W.alloc (.cells ([g 0, g 3, g 6, g 8].flatMap fun v => v.cells.toList).toArray 42)) (exec_buildSlice 40 4 _ rfl (lit_run4 h0 h3 h6 h8 _ (by simp [rdl_cons]))) ⟨(Below.refl _ _).alloc (Nat.le_refl _) _, rowF_of (repsM_4 h0 h3 h6 h8) (HCL.out W hSW).2.2.2.2 (by simp), hSW.alloc hSW.size _⟩
      case s10 =>
        intro g W L hL hSW hd
        try simp only [Nat.zero_add, Nat.reduceAdd] at hd ⊢
        have h9 := hd 9 (by decide) (by kernel_rfl)
        change (rowF W2.heap.size [numC 1, textC lab, rowsC rws, listC (kds.map kidC)]) (g 9) W at h9
        with_reducible refine OpGives.pre_reads [(46, 9)] 78 ?_ ?_ ?_
        · rfl
        · kernel_rfl
        simp only [List.map_cons, List.map_nil]
        refine OpGives.call (f := 51) (args := #[g 9]) (w' := W) (by go_simp) ((list7_R h9).mono fun e W' ⟨u, he, hf, hb⟩ => ⟨u, he, hb, hf, hSW.trans (hb.mono hSW.size)⟩)
      case hst =>
        refine fun i j v w w' _ h hR => st_of (R := fun W W' => Below W.heap.size W W') ?_ i v w w' h hR
        repeat' first
          | exact trivial
          | with_reducible refine StL.eq ?_
          | refine ⟨fun v w w' h hR => cellF_below h hR, ?_⟩
          | refine ⟨fun v w w' h hR => rowF_below h hR, ?_⟩
          | refine ⟨fun v w w' h hR => litC_below h hR, ?_⟩
      case h0 => exact (Below.refl _ _).drew
      case fin =>
        intro v' W L hL hSW hf
        have h10 := hf 10 (Nat.lt_of_lt_of_eq (by decide : 10 < 11) rfl)
        change cellF W2.heap.size (listC [numC 1, textC lab, rowsC rws, listC (kds.map kidC)]) (v' 10) W at h10
        clear hf
        generalize hF : Ord.pre _ _ v' _ = F
        rw [Ord.pre_lit [some 37, some 38, some 39, some 40, some 41, some 42, some 43, some 44, some 45, some 46, some 47]
          (by kernel_rfl)] at hF
        simp only [Ord.puts, Nat.zero_add, Nat.reduceAdd] at hF
        subst hF
        obtain ⟨v3, e10, hR3⟩ := h10
        obtain ⟨A3, c3, rfl⟩ := R_slice hR3
        rw [e10]
        have hgb := (HCL.out W hSW).2.1
        obtain ⟨⟨z0, z1, z2, z3⟩, f0, f1, f2, f3⟩ := box4 hgb
        have hbw : Below w.heap.size w W := HB2.out.trans ((HBE.out.trans (hSW.mono HBE.out.size)).mono HB2.out.size)
        have HGB := Lib.hid hgb
        have HBW := Lib.hid hbw
        have HR3 := Lib.hid hR3
        clear hgb hbw hR3 hSW e10
        refine any_one (i := 11) (by kernel_rfl) ?_
        refine wpOp_skip (w' := put4 W (w.heap.size + 1) (.int .i64 3) (.int .i64 0) (.string (⟨#[]⟩ : ByteArray)) (.slice A3 (listC [numC 1, textC lab, rowsC rws, listC (kds.map kidC)]).f3.length c3)) rfl rfl (by unfold put4 listC; go_simp) ?_
        refine wpAny_done (by kernel_rfl) ?_ _
        try simp only [List.getElem_toArray, List.getElem_cons_succ, List.getElem_cons_zero]
        go_frame
        have hgf := four_put HGB.out (.int .i64 3) (.int .i64 0) (.string (⟨#[]⟩ : ByteArray)) (.slice A3 (listC [numC 1, textC lab, rowsC rws, listC (kds.map kidC)]).f3.length c3)
        have hrf := rC_put HR3.out (g := w.heap.size + 1) (b0 := w.heap.size) (by have := HS2.out; omega) (by have := HS2.out; omega) (.int .i64 3) (.int .i64 0) (.string (⟨#[]⟩ : ByteArray)) (.slice A3 (listC [numC 1, textC lab, rowsC rws, listC (kds.map kidC)]).f3.length c3)
        have hbf := put4_below' HBW.out (g := w.heap.size + 1) (by omega) (.int .i64 3) (.int .i64 0) (.string (⟨#[]⟩ : ByteArray)) (.slice A3 (listC [numC 1, textC lab, rowsC rws, listC (kds.map kidC)]).f3.length c3)
        have HGF := Lib.hid (show (put4 W (w.heap.size + 1) (.int .i64 3) (.int .i64 0) (.string (⟨#[]⟩ : ByteArray)) (.slice A3 (listC [numC 1, textC lab, rowsC rws, listC (kds.map kidC)]).f3.length c3)).heap[w.heap.size + 1]? = _ from hgf)
        have HRF := Lib.hid hrf
        have HBF := Lib.hid hbf
        clear hgf hrf hbf z0 z1 z2 z3 f0 f1 f2 f3 HGB HBW HR3
        generalize put4 W (w.heap.size + 1) (.int .i64 3) (.int .i64 0) (.string (⟨#[]⟩ : ByteArray)) (.slice A3 (listC [numC 1, textC lab, rowsC rws, listC (kds.map kidC)]).f3.length c3) = WF at *
        go_wp2_with fail
        refine bodyPost_ret (results_cell_row rfl _ _ (w.heap.size + 1) 42 #[.int .i64 3, .int .i64 0, .string (⟨#[]⟩ : ByteArray), .slice A3 (listC [numC 1, textC lab, rowsC rws, listC (kds.map kidC)]).f3.length c3] (0, 0) _ rfl HGF.out Tryd.underlying42 rfl (by kernel_rfl)) rfl ?_
        exact ⟨_, rfl, ⟨_, rfl, HRF.out⟩, HBF.out⟩
set_option maxHeartbeats 16000000 in
set_option maxRecDepth 100000 in
theorem shape_commit (o : Ob) (Ar : Option Addr) (cr : Nat) (Ak : Option Addr) (ck : Nat) (Ap : Option Addr) (cp : Nat) (w : World) (hO : ObAt w o Ar cr Ak ck Ap cp) (hpl : o.parents.length ≤ 1000000) (hk1 : ¬ o.kind = 1) :
    Calls Tryd.prog 31 #[.agg (obV o Ar cr Ak ck Ap cp)] w (CellPostR w.heap.size (commitC o) w) := by
  obtain ⟨knd, lab, rws, kds, prs, stp, nte, rot⟩ := o
  unfold obV commitC
  simp only at hO hpl hk1 ⊢
  have hk1b : (knd == 1) = false := by simpa using hk1
  have hOp := hO.p
  simp only at hOp
  obtain ⟨W1, hW1⟩ : ∃ W1, W1 = w.alloc (.cells #[.int .i64 knd, .string lab, .slice Ar rws.length cr, .slice Ak kds.length ck, .slice Ap prs.length cp, .int .i64 stp, .string nte, .string rot] 27) := ⟨_, rfl⟩
  have hn1 : Below w.heap.size w W1 := by rw [hW1]; exact (Below.refl _ _).alloc (Nat.le_refl _) _
  have hg1 : W1.heap[w.heap.size]? = some (.cells #[.int .i64 knd, .string lab, .slice Ar rws.length cr, .slice Ak kds.length ck, .slice Ap prs.length cp, .int .i64 stp, .string nte, .string rot] 27 (0, 0)) := by rw [hW1]; exact alloc_lastV _ _
  have hs1 : W1.heap.size = w.heap.size + 1 := by rw [hW1]; simp
  obtain ⟨W2, hW2⟩ : ∃ W2, W2 = W1.alloc (.cells #[.int .i64 0, .int .i64 0, .string (⟨#[]⟩ : ByteArray), .slice none 0 0] 42) := ⟨_, rfl⟩
  have hn2 : Below W1.heap.size W1 W2 := by rw [hW2]; exact (Below.refl _ _).alloc (Nat.le_refl _) _
  have hg2 : W2.heap[w.heap.size + 1]? = some (.cells #[.int .i64 0, .int .i64 0, .string (⟨#[]⟩ : ByteArray), .slice none 0 0] 42 (0, 0)) := by rw [hW2, ← hs1]; exact alloc_lastV _ _
  have hs2 : W2.heap.size = w.heap.size + 2 := by rw [hW2]; simp [hs1]
  have hgn := (hn2.block _ (Array.getElem?_eq_some_iff.1 hg1).1).trans hg1
  have hb2 : Below w.heap.size w W2 := hn1.trans (hn2.mono hn1.size)
  obtain ⟨⟨b0, b1, b2, b3⟩, b4, b5, b6, b7⟩ := box8 hgn
  have HP := Lib.hid (Kd.C_below hOp hb2)
  have HGN := Lib.hid hgn
  have HG2 := Lib.hid hg2
  have HB2 := Lib.hid hb2
  have HS2 := Lib.hid hs2
  rw [hW2, hW1] at b0 b1 b2 b3 b4 b5 b6 b7
  rw [hW1] at hW2
  have HW2 := Lib.hid hW2
  clear hW1 hW2 hn1 hg1 hs1 hn2 hg2 hs2 hgn hb2 hO hOp
  go_enter Tryd.func31, Tryd.ntmps31
  go_wp2_with fail
  rw [← HW2.out]
  clear b0 b1 b2 b3 b4 b5 b6 b7
  go_loopw [5, 6] (fun v i wr => ∃ k : Nat, i = .int .i64 (k : Int) ∧ k ≤ prs.length ∧ rC wr W2.heap.size v ((prs.take k).map textC) ∧ Below W2.heap.size W2 wr) (fun _ i _ => prs.length - (intOf i).toNat)
  case atStart => exact ⟨0, rfl, Nat.zero_le _, Kd.R_nil _ _ _ _ _, Below.refl _ _⟩
  case round =>
    obtain ⟨i, rfl, hi, hrow, hbe⟩ := hrel
    have HROW := Lib.hid hrow
    have HBE := Lib.hid hbe
    have b4 := (box8 ((hbe.block _ (Array.getElem?_eq_some_iff.1 HGN.out).1).trans HGN.out)).2.1
    by_cases hil : i < prs.length
    · obtain ⟨x, hx⟩ : ∃ x, prs[i]? = some x := ⟨_, List.getElem?_eq_getElem hil⟩
      obtain ⟨ad, rfl, c0, hbk⟩ := str_at (Kd.C_below HP.out hbe) hx
      have HX := Lib.hid hx
      have hlen : ((prs.take i).map textC).length ≤ 1000000 := by rw [List.length_map, List.length_take]; omega
      have HLEN := Lib.hid hlen
      clear hx hlen hrow hbe
      go_wp2_with fail
      clear c0 hbk b4
      refine (text7_R x wr).mono ?_
      rintro e W4 ⟨rfl, hb4⟩
      obtain ⟨W5, hW5⟩ : ∃ W5, W5 = W4.alloc (.cells #[.int .i64 2, .int .i64 0, .string x, .slice none 0 0] 42) := ⟨_, rfl⟩
      have hl5 : litC W4.heap.size [textC x] (.slice (some ⟨W4.heap.size, 0, none⟩) 1 1) W5 := by rw [hW5]; exact litC_of (repsM_1 (text_F x _ _)) (Nat.le_refl _)
      have hb5 : Below W4.heap.size W4 W5 := by rw [hW5]; exact (Below.refl _ _).alloc (Nat.le_refl _) _
      have hbw : Below wr.heap.size wr W5 := hb4.trans (hb5.mono hb4.size)
      have hrW := Kd.R_below HROW.out hbw
      obtain ⟨v8, W8, hr8, hg8, hR8⟩ := append_lit (b0 := W2.heap.size) (lo := W4.heap.size) hrW (fun k hk => Nat.lt_of_lt_of_le (rC_own HROW.out k hk) hb4.size) (Nat.le_trans HBE.out.size hb4.size) hl5 HLEN.out 40
      have hB8 := grown_below hrW hg8 (HBE.out.trans (hbw.mono HBE.out.size)) (Nat.le_trans HBE.out.size hbw.size)
      have hR8' : rC W8 W2.heap.size v8 ((prs.take (i + 1)).map textC) := by
        rw [List.take_add_one, HX.out]; simpa using hR8
      have HR8 := Lib.hid hR8'
      have HB8 := Lib.hid hB8
      rw [hW5] at hr8
      have HAPP := Lib.hid hr8
      clear hg8 hR8 hR8' hB8 hrW hbw hl5 hb5 hW5 hb4 hr8
      have hwi : IntKind.i64.wrap ((i : Int) + 1) = (i : Int) + 1 := by rw [IntKind.wrap_i64]; omega
      go_wp2_with (refine wpList_value rfl (exec_append _ _ 40 rfl HAPP.out) ?_)
      go_roundw
      case rel => exact ⟨i + 1, by go_num, hil, HR8.out, HB8.out⟩
      case measure => simp [intOf]; omega
    · have hie : i = prs.length := by omega
      rw [hie, List.take_length] at hrow
      have HROW2 := Lib.hid hrow
      have hcl : ∀ W, Below wr.heap.size wr W → (W.cell? ⟨w.heap.size, 5, none⟩ = some (.int .i64 stp) ∧ W.cell? ⟨w.heap.size, 6, none⟩ = some (.string nte) ∧ W.cell? ⟨w.heap.size, 7, none⟩ = some (.string rot)) ∧ W.heap[w.heap.size + 1]? = some (.cells #[.int .i64 0, .int .i64 0, .string (⟨#[]⟩ : ByteArray), .slice none 0 0] 42 (0, 0)) ∧ rC W W2.heap.size u5 (prs.map textC) ∧ W2.heap.size ≤ W.heap.size := fun W hW => by
        have h2 : Below W2.heap.size W2 W := HBE.out.trans (hW.mono HBE.out.size)
        obtain ⟨_, _, b5, b6, b7⟩ := box8 ((h2.block _ (Array.getElem?_eq_some_iff.1 HGN.out).1).trans HGN.out)
        exact ⟨⟨b5, b6, b7⟩, (h2.block _ (Array.getElem?_eq_some_iff.1 HG2.out).1).trans HG2.out, Kd.R_below HROW2.out hW, h2.size⟩
      have HCL := Lib.hid hcl
      have hkml : (prs.map textC).length ≤ 1000000 := by rw [List.length_map]; exact hpl
      clear hrow hie hbe hcl
      go_wp2_with fail
      clear b4
      refine' wp_region_factsM (S := (fun _ W => Below wr.heap.size wr W)) (fun _ W W' => Below W.heap.size W W') [cellF W2.heap.size (numC 2), eqM _, cellF W2.heap.size (listC (prs.map textC)), eqM _, eqM (.int .i64 stp), cellF W2.heap.size (numC stp), eqM _, eqM (.string nte), cellF W2.heap.size (textC nte), eqM _, eqM (.string rot), cellF W2.heap.size (textC rot), rowF W2.heap.size [numC 2, listC (prs.map textC), numC stp, textC nte, textC rot], cellF W2.heap.size (listC [numC 2, listC (prs.map textC), numC stp, textC nte, textC rot])] (by kernel_rfl) (by kernel_rfl) ?hst ?h0 (Ord.stepsM_cons ?s0 (Ord.stepsM_cons ?s1 (Ord.stepsM_cons ?s2 (Ord.stepsM_cons ?s3 (Ord.stepsM_cons ?s4 (Ord.stepsM_cons ?s5 (Ord.stepsM_cons ?s6 (Ord.stepsM_cons ?s7 (Ord.stepsM_cons ?s8 (Ord.stepsM_cons ?s9 (Ord.stepsM_cons ?s10 (Ord.stepsM_cons ?s11 (Ord.stepsM_cons ?s12 (Ord.stepsM_cons ?s13 (Ord.stepsM_nil))))))))))))))) ?fin
      case s0 =>
        intro g W L hL hSW hd
        try simp only [Nat.zero_add, Nat.reduceAdd] at hd ⊢
        with_reducible refine OpGives.pre_reads [] 78 ?_ ?_ ?_
        · rfl
        · kernel_rfl
        simp only [List.map_cons, List.map_nil]
        refine OpGives.call (f := 52) (args := #[.int .i64 2]) (w' := W) (by go_simp) ((num7_R 2 W).mono fun e W' ⟨he, hb⟩ => ⟨_, he, hb, num_F _ _ _, hSW.trans (hb.mono hSW.size)⟩)
      case s1 =>
        intro g W L hL hSW hd
        try simp only [Nat.zero_add, Nat.reduceAdd] at hd ⊢
        with_reducible refine OpGives.pre_reads [] 78 ?_ ?_ ?_
        · rfl
        · kernel_rfl
        simp only [List.map_cons, List.map_nil]
        refine OpGives.val (w' := W) ?_ ⟨Below.refl _ _, rfl, hSW⟩
        go_simp
        try with_reducible rfl
      case s2 =>
        intro g W L hL hSW hd
        try simp only [Nat.zero_add, Nat.reduceAdd] at hd ⊢
        have h1 : g 1 = _ := hd 1 (by decide) (by kernel_rfl)
        with_reducible refine OpGives.pre_reads [(65, 1)] 78 ?_ ?_ ?_
        · rfl
        · kernel_rfl
        simp only [List.map_cons, List.map_nil]
        rw [h1]; refine OpGives.call (f := 51) (args := #[u5]) (w' := W) (by go_simp) ((list7_R (HCL.out W hSW).2.2.1).mono fun e W' ⟨u, he, hf, hb⟩ => ⟨u, he, hb, hf, hSW.trans (hb.mono hSW.size)⟩)
      case s3 =>
        intro g W L hL hSW hd
        try simp only [Nat.zero_add, Nat.reduceAdd] at hd ⊢
        with_reducible refine OpGives.pre_reads [] 78 ?_ ?_ ?_
        · rfl
        · kernel_rfl
        simp only [List.map_cons, List.map_nil]
        refine OpGives.val (w' := W) ?_ ⟨Below.refl _ _, rfl, hSW⟩
        go_simp
        try with_reducible rfl
      case s4 =>
        intro g W L hL hSW hd
        try simp only [Nat.zero_add, Nat.reduceAdd] at hd ⊢
        have h3 : g 3 = _ := hd 3 (by decide) (by kernel_rfl)
        with_reducible refine OpGives.pre_reads [(67, 3)] 78 ?_ ?_ ?_
        · rfl
        · kernel_rfl
        simp only [List.map_cons, List.map_nil]
        obtain ⟨⟨z1, z2, z3⟩, _⟩ := HCL.out W hSW; refine OpGives.val (v := .int .i64 stp) (w' := W) ?_ ⟨Below.refl _ _, rfl, hSW⟩; go_simp
      case s5 =>
        intro g W L hL hSW hd
        try simp only [Nat.zero_add, Nat.reduceAdd] at hd ⊢
        have h4 : g 4 = _ := hd 4 (by decide) (by kernel_rfl)
        with_reducible refine OpGives.pre_reads [(68, 4)] 78 ?_ ?_ ?_
        · rfl
        · kernel_rfl
        simp only [List.map_cons, List.map_nil]
        rw [h4]; refine OpGives.call (f := 52) (args := #[.int .i64 stp]) (w' := W) (by go_simp) ((num7_R stp W).mono fun e W' ⟨he, hb⟩ => ⟨_, he, hb, num_F _ _ _, hSW.trans (hb.mono hSW.size)⟩)
      case s6 =>
        intro g W L hL hSW hd
        try simp only [Nat.zero_add, Nat.reduceAdd] at hd ⊢
        with_reducible refine OpGives.pre_reads [] 78 ?_ ?_ ?_
        · rfl
        · kernel_rfl
        simp only [List.map_cons, List.map_nil]
        refine OpGives.val (w' := W) ?_ ⟨Below.refl _ _, rfl, hSW⟩
        go_simp
        try with_reducible rfl
      case s7 =>
        intro g W L hL hSW hd
        try simp only [Nat.zero_add, Nat.reduceAdd] at hd ⊢
        have h6 : g 6 = _ := hd 6 (by decide) (by kernel_rfl)
        with_reducible refine OpGives.pre_reads [(70, 6)] 78 ?_ ?_ ?_
        · rfl
        · kernel_rfl
        simp only [List.map_cons, List.map_nil]
        obtain ⟨⟨z1, z2, z3⟩, _⟩ := HCL.out W hSW; refine OpGives.val (v := .string nte) (w' := W) ?_ ⟨Below.refl _ _, rfl, hSW⟩; go_simp
      case s8 =>
        intro g W L hL hSW hd
        try simp only [Nat.zero_add, Nat.reduceAdd] at hd ⊢
        have h7 : g 7 = _ := hd 7 (by decide) (by kernel_rfl)
        with_reducible refine OpGives.pre_reads [(71, 7)] 78 ?_ ?_ ?_
        · rfl
        · kernel_rfl
        simp only [List.map_cons, List.map_nil]
        rw [h7]; refine OpGives.call (f := 53) (args := #[.string nte]) (w' := W) (by go_simp) ((text7_R nte W).mono fun e W' ⟨he, hb⟩ => ⟨_, he, hb, text_F _ _ _, hSW.trans (hb.mono hSW.size)⟩)
      case s9 =>
        intro g W L hL hSW hd
        try simp only [Nat.zero_add, Nat.reduceAdd] at hd ⊢
        with_reducible refine OpGives.pre_reads [] 78 ?_ ?_ ?_
        · rfl
        · kernel_rfl
        simp only [List.map_cons, List.map_nil]
        refine OpGives.val (w' := W) ?_ ⟨Below.refl _ _, rfl, hSW⟩
        go_simp
        try with_reducible rfl
      case s10 =>
        intro g W L hL hSW hd
        try simp only [Nat.zero_add, Nat.reduceAdd] at hd ⊢
        have h9 : g 9 = _ := hd 9 (by decide) (by kernel_rfl)
        with_reducible refine OpGives.pre_reads [(73, 9)] 78 ?_ ?_ ?_
        · rfl
        · kernel_rfl
        simp only [List.map_cons, List.map_nil]
        obtain ⟨⟨z1, z2, z3⟩, _⟩ := HCL.out W hSW; refine OpGives.val (v := .string rot) (w' := W) ?_ ⟨Below.refl _ _, rfl, hSW⟩; go_simp
      case s11 =>
        intro g W L hL hSW hd
        try simp only [Nat.zero_add, Nat.reduceAdd] at hd ⊢
        have h10 : g 10 = _ := hd 10 (by decide) (by kernel_rfl)
        with_reducible refine OpGives.pre_reads [(74, 10)] 78 ?_ ?_ ?_
        · rfl
        · kernel_rfl
        simp only [List.map_cons, List.map_nil]
        rw [h10]; refine OpGives.call (f := 53) (args := #[.string rot]) (w' := W) (by go_simp) ((text7_R rot W).mono fun e W' ⟨he, hb⟩ => ⟨_, he, hb, text_F _ _ _, hSW.trans (hb.mono hSW.size)⟩)
      case s12 =>
        intro g W L hL hSW hd
        try simp only [Nat.zero_add, Nat.reduceAdd] at hd ⊢
        have h0 := hd 0 (by decide) (by kernel_rfl)
        change (cellF W2.heap.size (numC 2)) (g 0) W at h0
        have h2 := hd 2 (by decide) (by kernel_rfl)
        change (cellF W2.heap.size (listC (prs.map textC))) (g 2) W at h2
        have h5 := hd 5 (by decide) (by kernel_rfl)
        change (cellF W2.heap.size (numC stp)) (g 5) W at h5
        have h8 := hd 8 (by decide) (by kernel_rfl)
        change (cellF W2.heap.size (textC nte)) (g 8) W at h8
        have h11 := hd 11 (by decide) (by kernel_rfl)
        change (cellF W2.heap.size (textC rot)) (g 11) W at h11
        with_reducible refine OpGives.pre_reads [(64, 0), (66, 2), (69, 5), (72, 8), (75, 11)] 78 ?_ ?_ ?_
        · rfl
        · kernel_rfl
        simp only [List.map_cons, List.map_nil]
        refine OpGives.val (v := .slice (some ⟨W.heap.size, 0, none⟩) 5 5) (w' := W.alloc (.cells ([g 0, g 2, g 5, g 8, g 11].flatMap fun v => v.cells.toList).toArray 42)) (exec_buildSlice 40 5 _ rfl (lit_run5 h0 h2 h5 h8 h11 _ (by simp [rdl_cons]))) ⟨(Below.refl _ _).alloc (Nat.le_refl _) _, rowF_of (repsM_5 h0 h2 h5 h8 h11) (HCL.out W hSW).2.2.2 (by simp), hSW.alloc hSW.size _⟩
      case s13 =>
        intro g W L hL hSW hd
        try simp only [Nat.zero_add, Nat.reduceAdd] at hd ⊢
        have h12 := hd 12 (by decide) (by kernel_rfl)
        change (rowF W2.heap.size [numC 2, listC (prs.map textC), numC stp, textC nte, textC rot]) (g 12) W at h12
        with_reducible refine OpGives.pre_reads [(76, 12)] 78 ?_ ?_ ?_
        · rfl
        · kernel_rfl
        simp only [List.map_cons, List.map_nil]
        refine OpGives.call (f := 51) (args := #[g 12]) (w' := W) (by go_simp) ((list7_R h12).mono fun e W' ⟨u, he, hf, hb⟩ => ⟨u, he, hb, hf, hSW.trans (hb.mono hSW.size)⟩)
      case hst =>
        refine fun i j v w w' _ h hR => st_of (R := fun W W' => Below W.heap.size W W') ?_ i v w w' h hR
        repeat' first
          | exact trivial
          | with_reducible refine StL.eq ?_
          | refine ⟨fun v w w' h hR => cellF_below h hR, ?_⟩
          | refine ⟨fun v w w' h hR => rowF_below h hR, ?_⟩
          | refine ⟨fun v w w' h hR => litC_below h hR, ?_⟩
      case h0 => exact (Below.refl _ _).drew
      case fin =>
        intro v' W L hL hSW hf
        have h10 := hf 13 (Nat.lt_of_lt_of_eq (by decide : 13 < 14) rfl)
        change cellF W2.heap.size (listC [numC 2, listC (prs.map textC), numC stp, textC nte, textC rot]) (v' 13) W at h10
        clear hf
        generalize hF : Ord.pre _ _ v' _ = F
        rw [Ord.pre_lit [some 64, some 65, some 66, some 67, some 68, some 69, some 70, some 71, some 72, some 73, some 74, some 75, some 76, some 77]
          (by kernel_rfl)] at hF
        simp only [Ord.puts, Nat.zero_add, Nat.reduceAdd] at hF
        subst hF
        obtain ⟨v3, e10, hR3⟩ := h10
        obtain ⟨A3, c3, rfl⟩ := R_slice hR3
        rw [e10]
        have hgb := (HCL.out W hSW).2.1
        obtain ⟨⟨z0, z1, z2, z3⟩, f0, f1, f2, f3⟩ := box4 hgb
        have hbw : Below w.heap.size w W := HB2.out.trans ((HBE.out.trans (hSW.mono HBE.out.size)).mono HB2.out.size)
        have HGB := Lib.hid hgb
        have HBW := Lib.hid hbw
        have HR3 := Lib.hid hR3
        clear hgb hbw hR3 hSW e10
        refine any_one (i := 14) (by kernel_rfl) ?_
        refine wpOp_skip (w' := put4 W (w.heap.size + 1) (.int .i64 3) (.int .i64 0) (.string (⟨#[]⟩ : ByteArray)) (.slice A3 (listC [numC 2, listC (prs.map textC), numC stp, textC nte, textC rot]).f3.length c3)) rfl rfl (by unfold put4 listC; go_simp) ?_
        refine wpAny_done (by kernel_rfl) ?_ _
        try simp only [List.getElem_toArray, List.getElem_cons_succ, List.getElem_cons_zero]
        go_frame
        have hgf := four_put HGB.out (.int .i64 3) (.int .i64 0) (.string (⟨#[]⟩ : ByteArray)) (.slice A3 (listC [numC 2, listC (prs.map textC), numC stp, textC nte, textC rot]).f3.length c3)
        have hrf := rC_put HR3.out (g := w.heap.size + 1) (b0 := w.heap.size) (by have := HS2.out; omega) (by have := HS2.out; omega) (.int .i64 3) (.int .i64 0) (.string (⟨#[]⟩ : ByteArray)) (.slice A3 (listC [numC 2, listC (prs.map textC), numC stp, textC nte, textC rot]).f3.length c3)
        have hbf := put4_below' HBW.out (g := w.heap.size + 1) (by omega) (.int .i64 3) (.int .i64 0) (.string (⟨#[]⟩ : ByteArray)) (.slice A3 (listC [numC 2, listC (prs.map textC), numC stp, textC nte, textC rot]).f3.length c3)
        have HGF := Lib.hid (show (put4 W (w.heap.size + 1) (.int .i64 3) (.int .i64 0) (.string (⟨#[]⟩ : ByteArray)) (.slice A3 (listC [numC 2, listC (prs.map textC), numC stp, textC nte, textC rot]).f3.length c3)).heap[w.heap.size + 1]? = _ from hgf)
        have HRF := Lib.hid hrf
        have HBF := Lib.hid hbf
        clear hgf hrf hbf z0 z1 z2 z3 f0 f1 f2 f3 HGB HBW HR3
        generalize put4 W (w.heap.size + 1) (.int .i64 3) (.int .i64 0) (.string (⟨#[]⟩ : ByteArray)) (.slice A3 (listC [numC 2, listC (prs.map textC), numC stp, textC nte, textC rot]).f3.length c3) = WF at *
        go_wp2_with fail
        refine bodyPost_ret (results_cell_row rfl _ _ (w.heap.size + 1) 42 #[.int .i64 3, .int .i64 0, .string (⟨#[]⟩ : ByteArray), .slice A3 (listC [numC 2, listC (prs.map textC), numC stp, textC nte, textC rot]).f3.length c3] (0, 0) _ rfl HGF.out Tryd.underlying42 rfl (by kernel_rfl)) rfl ?_
        exact ⟨_, rfl, ⟨_, rfl, HRF.out⟩, HBF.out⟩
theorem shape_calls (o : Ob) (Ar : Option Addr) (cr : Nat) (Ak : Option Addr) (ck : Nat) (Ap : Option Addr) (cp : Nat) (w : World) (hO : ObAt w o Ar cr Ak ck Ap cp) (hrl : o.rows.length ≤ 1000000) (hkl : o.kids.length ≤ 1000000) (hpl : o.parents.length ≤ 1000000) (hk8 : ∀ x ∈ o.kids, 0 ≤ x.f0 ∧ x.f0 ≤ 255) :
    Calls Tryd.prog 31 #[.agg (obV o Ar cr Ak ck Ap cp)] w (CellPostR w.heap.size (cellOf o) w) := by
  unfold cellOf
  by_cases h : o.kind = 1
  · rw [if_pos h]; exact shape_node o Ar cr Ak ck Ap cp w hO hrl hkl hk8 h
  · rw [if_neg h]; exact shape_commit o Ar cr Ak ck Ap cp w hO hpl h
end Go.Proofs.YtgjlchcfdbmmlaaDoor.PObjectTakes
