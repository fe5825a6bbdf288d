/- Texts of one proof, joined: TL, TM, TOE, TOF, TOG, TOH, TOI, TUC, TUD, TOL. -/
import Derived.Test.YtgjlchcfdbmmlaaDoorYe
import Derived.Maps.AppendAt
import Derived.Test.YtgjlchcfdbmmlaaDoorYd
import Derived.Test.YtgjlchcfdbmmlaaDoorYb
import Derived.Laws.MakeOwn
import Derived.Handy
import Derived.Laws.OwnMore
set_option linter.unusedSimpArgs false
set_option linter.unusedVariables false
namespace Go.Proofs.YtgjlchcfdbmmlaaDoor.PObjectTakes
open Go.RowKit Go.Proofs.YtgjlchcfdbmmlaaDoor.Ord Go.Proofs.YtgjlchcfdbmmlaaDoorW.PrintWords Go.Proofs.YtgjlchcfdbmmlaaDoorW.PrintLast Go.Proofs.YtgjlchcfdbmmlaaDoorW.PrintMore

/-- What Take answers. -/
def takeR (s : ByteArray) : S42 × Nat := if (nextR s 0).2.2 ≠ 0 then (z42, (nextR s 0).2.2) else if (nextR s 0).2.1 < s.size then (z42, 4) else ((nextR s 0).1, 0)
def TakePost (r : S42 × Nat) (w : World) (e : Ending) (w' : World) : Prop :=
  ∃ v3, e = .returned (.tuple #[.agg #[.int .i64 r.1.f0, .int .i64 r.1.f1, .string r.1.f2, v3], .int .i64 (r.2 : Int)]) ∧ Kd.R k42 42 w' w.heap.size (fun _ => True) v3 r.1.f3 ∧ Below w.heap.size w w'
theorem results_take (tmps : Array Value) (w : World) (c : Nat) (a0 a1 a2 a3 : Value) (h2 : tmps.getD 2 undef = .pointer (some ⟨c, 0, none⟩))
    (hc : w.heap[c]? = some (.cells #[a0, a1, a2, a3] 42 (0, 0))) :
    (results Tryd.f21 tmps).run Tryd.prog w = .ok (.tuple #[.agg #[a0, a1, a2, a3], tmps.getD 3 undef]) w := by
  have h2' : tmps[2]?.getD undef = .pointer (some ⟨c, 0, none⟩) := by simpa using h2
  have k0 : w.cell? ⟨c, 0, none⟩ = some a0 := by rw [Lib.cell_of_heap hc]; rfl
  have k1 : w.cell? ⟨c, 1, none⟩ = some a1 := by rw [Lib.cell_of_heap hc]; rfl
  have k2 : w.cell? ⟨c, 2, none⟩ = some a2 := by rw [Lib.cell_of_heap hc]; rfl
  have k3 : w.cell? ⟨c, 3, none⟩ = some a3 := by rw [Lib.cell_of_heap hc]; rfl
  simp [results, Tryd.results21, h2', asAddr, k0, k1, k2, k3, go_sem]
theorem fin_take {w W3 : World} {base : Nat} {v : Value} {xs : List S42} (hb3 : Below w.heap.size w W3) (hbase : w.heap.size ≤ base) (hR : Kd.R k42 42 W3 base (fun k => k ≠ w.heap.size) v xs) (u0 u1 u2 u3 : Value) :
    Kd.R k42 42 (put4 W3 w.heap.size u0 u1 u2 u3) w.heap.size (fun _ => True) v xs ∧ Below w.heap.size w (put4 W3 w.heap.size u0 u1 u2 u3) := by
  refine ⟨Kd.R_mono (Kd.R_lower (Kd.R_step (w1 := put4 W3 w.heap.size u0 u1 u2 u3) hR (fun k hk _ => put4_far hk _ _ _ _)) hbase) (fun _ _ => trivial), ?_⟩
  exact ⟨hb3.os, hb3.tape, hb3.output, by rw [put4_size]; exact hb3.size, fun k hk => (put4_far (by omega) _ _ _ _).trans (hb3.block k hk)⟩

set_option maxHeartbeats 8000000 in
set_option maxRecDepth 100000 in
theorem Take_calls (s : ByteArray) (w : World) (hs : s.size ≤ 140737488355328) :
    Calls Tryd.prog 21 #[.string s] w (TakePost (takeR s) w) := by
  obtain ⟨W1, hW1⟩ : ∃ W1, W1 = w.alloc (.cells #[.int .i64 0, .int .i64 0, .string (⟨#[]⟩ : ByteArray), .slice none 0 0] 42) := ⟨_, rfl⟩
  have hn1 : Below w.heap.size w W1 := by rw [hW1]; exact (Below.refl _ _).alloc (Nat.le_refl _) _
  have hg1 : W1.heap[w.heap.size]? = some (.cells #[.int .i64 0, .int .i64 0, .string (⟨#[]⟩ : ByteArray), .slice none 0 0] 42 (0, 0)) := by rw [hW1]; exact heap_alloc_last _ _
  obtain ⟨rr, hrr⟩ : ∃ rr, rr = takeR s := ⟨_, rfl⟩
  rw [← hrr]
  unfold takeR at hrr
  obtain ⟨⟨x, tq, f⟩, hnx⟩ : ∃ nx, nx = nextR s 0 := ⟨_, rfl⟩
  rw [← hnx] at hrr
  simp only at hrr
  have hcall := Next_calls s 0 W1 hs (by decide) (by decide)
  rw [← hnx] at hcall
  have HC := Lib.hid hcall
  have HRR := Lib.hid hrr
  have HW1 := Lib.hid hW1
  have HN1 := Lib.hid hn1
  have HG1 := Lib.hid hg1
  clear hcall hrr hW1 hn1 hg1 hnx
  go_enter Tryd.func21, Tryd.ntmps21
  go_wp2_with fail
  rw [← HW1.out]
  refine HC.out.mono ?_
  rintro e W2 ⟨v3, rfl, hR, hb2⟩
  simp only at hR ⊢
  obtain ⟨A3, c3, rfl⟩ := R_slice hR
  have hs1 := (Array.getElem?_eq_some_iff.1 HG1.out).1
  obtain ⟨W3, hW3⟩ : ∃ W3, W3 = W2.alloc (.cells #[.int .i64 x.f0, .int .i64 x.f1, .string x.f2, .slice A3 x.f3.length c3] 42) := ⟨_, rfl⟩
  have hn3 : Below W2.heap.size W2 W3 := by rw [hW3]; exact (Below.refl _ _).alloc (Nat.le_refl _) _
  have hg3 : W3.heap[W2.heap.size]? = some (.cells #[.int .i64 x.f0, .int .i64 x.f1, .string x.f2, .slice A3 x.f3.length c3] 42 (0, 0)) := by rw [hW3]; exact heap_alloc_last _ _
  have hg2 := (hb2.block _ hs1).trans HG1.out
  have hs2 := hb2.size
  have hc3 := (hn3.block _ (Array.getElem?_eq_some_iff.1 hg2).1).trans hg2
  have hb3 : Below w.heap.size w W3 := (HN1.out.trans (hb2.mono HN1.out.size)).trans (hn3.mono (Nat.le_trans HN1.out.size hs2))
  have hR3 := Kd.R_mono (ok' := fun k => k ≠ w.heap.size) (Kd.R_bound (Kd.R_below hR hn3)) (fun k hk => by have := hk.2.1; omega)
  have HC33 := Lib.hid hc3
  have hbs := HN1.out.size
  rw [hW3] at hc3 hg3
  have z0 : (W2.alloc (.cells #[.int .i64 x.f0, .int .i64 x.f1, .string x.f2, .slice A3 x.f3.length c3] 42)).cell? ⟨w.heap.size, 0, none⟩ = some (.int .i64 0) := by rw [Lib.cell_of_heap hc3]; rfl
  have z1 : (W2.alloc (.cells #[.int .i64 x.f0, .int .i64 x.f1, .string x.f2, .slice A3 x.f3.length c3] 42)).cell? ⟨w.heap.size, 1, none⟩ = some (.int .i64 0) := by rw [Lib.cell_of_heap hc3]; rfl
  have z2 : (W2.alloc (.cells #[.int .i64 x.f0, .int .i64 x.f1, .string x.f2, .slice A3 x.f3.length c3] 42)).cell? ⟨w.heap.size, 2, none⟩ = some (.string (⟨#[]⟩ : ByteArray)) := by rw [Lib.cell_of_heap hc3]; rfl
  have z3 : (W2.alloc (.cells #[.int .i64 x.f0, .int .i64 x.f1, .string x.f2, .slice A3 x.f3.length c3] 42)).cell? ⟨w.heap.size, 3, none⟩ = some (.slice none 0 0) := by rw [Lib.cell_of_heap hc3]; rfl
  have f0 := Lib.frozen_of_heap hc3 0
  have f1 := Lib.frozen_of_heap hc3 1
  have f2 := Lib.frozen_of_heap hc3 2
  have f3 := Lib.frozen_of_heap hc3 3
  have HR3 := Lib.hid hR3
  have HB3 := Lib.hid hb3
  have HC3 := Lib.hid hc3
  have HW3 := Lib.hid hW3
  clear hR3 hb3 hc3 hg3 hn3 hR hW3 hg2 hb2
  by_cases he : f ≠ 0
  · have he' : ((f : Int) != 0) = true := by simp; omega
    go_wp2_with fail
    rw [← HW3.out]
    obtain ⟨e1, e2⟩ := fin_take HB3.out (Nat.le_refl _) (Kd.R_nil k42 42 W3 w.heap.size (fun k => k ≠ w.heap.size)) (.int .i64 0) (.int .i64 0) (.string (⟨#[]⟩ : ByteArray)) (.slice none 0 0)
    refine bodyPost_ret (results_take _ _ w.heap.size (.int .i64 0) (.int .i64 0) (.string (⟨#[]⟩ : ByteArray)) (.slice none 0 0) rfl (four_put HC33.out _ _ _ _)) rfl ?_
    rw [HRR.out, if_pos he]
    exact ⟨_, rfl, e1, e2⟩
  · have he' : ((f : Int) != 0) = false := by simp; omega
    by_cases hto : tq < s.size
    · go_wp2_with fail
      rw [← HW3.out]
      obtain ⟨e1, e2⟩ := fin_take HB3.out (Nat.le_refl _) (Kd.R_nil k42 42 W3 w.heap.size (fun k => k ≠ w.heap.size)) (.int .i64 0) (.int .i64 0) (.string (⟨#[]⟩ : ByteArray)) (.slice none 0 0)
      refine bodyPost_ret (results_take _ _ w.heap.size (.int .i64 0) (.int .i64 0) (.string (⟨#[]⟩ : ByteArray)) (.slice none 0 0) rfl (four_put HC33.out _ _ _ _)) rfl ?_
      rw [HRR.out, if_neg he, if_pos hto]
      exact ⟨_, rfl, e1, e2⟩
    · go_wp2_with fail
      rw [← HW3.out]
      obtain ⟨e1, e2⟩ := fin_take HB3.out hbs HR3.out (.int .i64 x.f0) (.int .i64 x.f1) (.string x.f2) (.slice A3 x.f3.length c3)
      refine bodyPost_ret (results_take _ _ w.heap.size (.int .i64 x.f0) (.int .i64 x.f1) (.string x.f2) (.slice A3 x.f3.length c3) rfl (four_put HC33.out _ _ _ _)) rfl ?_
      rw [HRR.out, if_neg he, if_neg hto]
      exact ⟨_, rfl, e1, e2⟩
end Go.Proofs.YtgjlchcfdbmmlaaDoor.PObjectTakes
namespace Go.Proofs.YtgjlchcfdbmmlaaDoor.PObjectTakes
open Go.RowKit Go.Proofs.YtgjlchcfdbmmlaaDoor.Ord Go.Proofs.YtgjlchcfdbmmlaaDoorW.PrintWords Go.Proofs.YtgjlchcfdbmmlaaDoorW.PrintLast Go.Proofs.YtgjlchcfdbmmlaaDoorW.PrintMore

theorem wpList_value {P : Program} {ops : Array Oper} {Q : Exit → Act → World → Prop} {a : Act} {w w' : World} {rest : List Oper} {o : Oper} {v : Value} (hg : o.guard = none) (hr : (execOp a.eval o).run P w = .ok (.value v) w') (h : wpList P ops Q rest (a.put o.dst v) w') : wpList P ops Q (o :: rest) a w :=
  wpList_plain hg fun K hK => by unfold Oper.wp; rw [hr]; exact hK _ _ h
theorem reps_cells {W : World} {ps : List S42} {cs : List Value} (h : Reps (k42.K W) 4 ps cs) : ∀ u ∈ cs, u.oneCell' = true := by
  intro u hu
  obtain ⟨j, hj⟩ := List.getElem?_of_mem hu
  have hjl : j < cs.length := (List.getElem?_eq_some_iff.1 hj).1
  have hlen := h.1
  have he : j / 4 < ps.length := by omega
  have hp := h.2 (j / 4) _ (List.getElem?_eq_getElem he)
  refine k42.K_one hp u (List.mem_of_getElem? (i := j - j / 4 * 4) ?_)
  rw [List.getElem?_take, if_pos (by omega), List.getElem?_drop, show j / 4 * 4 + (j - j / 4 * 4) = j by omega]
  exact hj
end Go.Proofs.YtgjlchcfdbmmlaaDoor.PObjectTakes
namespace Go.Proofs.YtgjlchcfdbmmlaaDoor.PObjectTakes
open Go.RowKit Go.Proofs.YtgjlchcfdbmmlaaDoor.Ord Go.Proofs.YtgjlchcfdbmmlaaDoorW.PrintWords Go.Proofs.YtgjlchcfdbmmlaaDoorW.PrintLast Go.Proofs.YtgjlchcfdbmmlaaDoorW.PrintMore
attribute [local irreducible] OpGives

abbrev rC (W : World) (base : Nat) (v : Value) (l : List S42) : Prop := Kd.R k42 42 W base (fun _ => True) v l
/-- A cell of the call's own. -/
def cellF (base : Nat) (x : S42) : Value → World → Prop := fun u W => ∃ v3, u = .agg #[.int .i64 x.f0, .int .i64 x.f1, .string x.f2, v3] ∧ rC W base v3 x.f3
theorem cellF_below {base : Nat} {x : S42} {u : Value} {W W' : World} (h : cellF base x u W) (hb : Below W.heap.size W W') : cellF base x u W' := by
  obtain ⟨v3, e, hr⟩ := h
  exact ⟨v3, e, Kd.R_below hr hb⟩
def CellPostR (base : Nat) (x : S42) (w : World) (e : Ending) (w' : World) : Prop := ∃ u, e = .returned u ∧ cellF base x u w' ∧ Below w.heap.size w w'
/-- The cells of an own cell, for a literal. -/
theorem cellF_M {base : Nat} {x : S42} {u : Value} {W : World} (h : cellF base x u W) : Kd.M k42 W base (fun _ => True) x u.cells.toList := by
  obtain ⟨v3, rfl, hr⟩ := h
  exact k42_mkM W base _ x hr
theorem R_one {W : World} {base : Nat} {ok : Nat → Prop} {v : Value} {l : List S42} (h : Kd.R k42 42 W base ok v l) : v.oneCell' = true := by
  obtain ⟨A, c, rfl, _⟩ := Kd.R_reads h
  rfl
/-- Cells laid side by side. -/
def repsM (W : World) (base : Nat) (l : List S42) (inner : List Value) : Prop := Reps (Kd.M k42 W base (fun _ => True)) 4 l inner
theorem repsM_below {W W' : World} {base : Nat} {l : List S42} {inner : List Value} (h : repsM W base l inner) (hb : Below W.heap.size W W') : repsM W' base l inner := ⟨h.1, fun j p hj => Kd.M_below (h.2 j p hj) hb⟩
theorem repsM_nil (W : World) (base : Nat) : repsM W base [] [] := Reps.none _ _
theorem cellF_len {base : Nat} {x : S42} {u : Value} {W : World} (h : cellF base x u W) : u.cells.toList.length = 4 := by
  obtain ⟨v3, rfl, hr⟩ := h; rfl
theorem repsM_snoc {W : World} {base : Nat} {l : List S42} {inner : List Value} {x : S42} {u : Value} (h : repsM W base l inner) (hx : cellF base x u W) : repsM W base (l ++ [x]) (inner ++ u.cells.toList) :=
  Reps.snoc h (cellF_M hx) (cellF_len hx)
theorem repsM_K {W : World} {base : Nat} {l : List S42} {inner : List Value} (h : repsM W base l inner) : Reps (k42.K W) 4 l inner := ⟨h.1, fun j p hj => (k42).K_of_M (h.2 j p hj)⟩
/-- Of nil, and of a row: a row of the call's own, the same cells in it. -/
theorem append_copyM {W : World} {base : Nat} {l : List S42} {ad : Addr} {c : Nat} {inner : List Value} (hr : repsM W base l inner) (hc : ∀ j u, inner[j]? = some u → W.cell? (ad.add j) = some u) (hl : l.length ≤ 1000000) (ty : TypeId) :
    ∃ A' c' W', (Builtin.append_ #[40, 40] ty #[.slice none 0 0, .slice (some ad) l.length c]).run Tryd.prog W = .ok (.slice A' l.length c') W' ∧ W'.ownsRow W.heap.size 42 4 (.slice A' l.length c') l.length inner ∧ Below W.heap.size W W' := by
  obtain ⟨i0, hi0, hz0, hz1, hz2⟩ := info_parts infoCell
  have hbn : (0 + l.length) * 56 ≤ 1000000 * 56 := Nat.mul_le_mul (by omega) (Nat.le_refl _)
  obtain ⟨v', W', hrun, hown, hg, _, hat⟩ := run_append_own_at (P := Tryd.prog) W W.heap.size 40 ty 42 i0 _ 4 56 Tryd.underlying40 hi0 hz0 hz1 hz2 (by rfl) (by decide) (.slice none 0 0) 0 [] (World.ownsRow_nil _ _ _ _) ad l.length c inner hr.1 hc (reps_cells (repsM_K hr))
    (by unfold maxLen; omega) (by omega) (Nat.le_refl _)
  rw [Nat.zero_add, List.nil_append] at hown
  have hb : Below W.heap.size W W' := ⟨hg.os, hg.tape, hg.output, hg.size, fun k hk => hg.block k hk (by simp [Value.ownBlock])⟩
  obtain ⟨A', c', rfl, _⟩ := own_reads_row hown (repsM_K hr) rfl
  exact ⟨A', c', W', hrun, hown, hb⟩
def listC (l : List S42) : S42 := ⟨3, 0, ⟨#[]⟩, l⟩
set_option maxHeartbeats 4000000 in
set_option maxRecDepth 100000 in
theorem List_R (l : List S42) (A : Option Addr) (c : Nat) (w : World) (base : Nat) (inner : List Value) (hA : A = none → l = []) (hat : ∀ ad, A = some ad → ∀ j u, inner[j]? = some u → w.cell? (ad.add j) = some u)
    (hr : repsM w base l inner) (hl : l.length ≤ 1000000) (hbase : base ≤ w.heap.size) :
    Calls Tryd.prog 62 #[.slice A l.length c] w (CellPostR base (listC l) w) := by
  obtain ⟨W1, hW1⟩ : ∃ W1, W1 = w.alloc (.cells #[.int .i64 0, .int .i64 0, .string (⟨#[]⟩ : ByteArray), .slice none 0 0] 42) := ⟨_, rfl⟩
  have hn1 : Below w.heap.size w W1 := by rw [hW1]; exact (Below.refl _ _).alloc (Nat.le_refl _) _
  have hg1 : W1.heap[w.heap.size]? = some (.cells #[.int .i64 0, .int .i64 0, .string (⟨#[]⟩ : ByteArray), .slice none 0 0] 42 (0, 0)) := by rw [hW1]; exact heap_alloc_last _ _
  cases A with
  | none =>
    have hl0 : l = [] := hA rfl
    subst hl0
    have HW1 := Lib.hid hW1
    have HN1 := Lib.hid hn1
    have HG1 := Lib.hid hg1
    clear hW1 hn1 hg1 hat hr
    go_enter Tryd.func62, Tryd.ntmps62
    go_wp2
    refine bodyPost_ret (results_cell_row rfl _ _ w.heap.size 42 #[.int .i64 3, .int .i64 0, .string (⟨#[]⟩ : ByteArray), .slice none 0 0] (0, 0) _ rfl (heap_alloc_last _ _) Tryd.underlying42 rfl (by kernel_rfl)) rfl ?_
    exact ⟨_, rfl, ⟨_, rfl, Kd.R_nil _ _ _ _ _⟩, (Below.refl _ _).alloc (Nat.le_refl _) _⟩
  | some ad =>
    obtain ⟨A', c', W', hrun, hown, hb'⟩ := append_copyM (c := c) (repsM_below hr hn1) (fun j u hu => pw_cell_below hn1 (hat ad rfl j u hu)) hl 40
    have hs1 := (Array.getElem?_eq_some_iff.1 hg1).1
    have hg2 := (hb'.block _ hs1).trans hg1
    have z0 : W'.cell? ⟨w.heap.size, 0, none⟩ = some (.int .i64 0) := by rw [Lib.cell_of_heap hg2]; rfl
    have z1 : W'.cell? ⟨w.heap.size, 1, none⟩ = some (.int .i64 0) := by rw [Lib.cell_of_heap hg2]; rfl
    have z2 : W'.cell? ⟨w.heap.size, 2, none⟩ = some (.string (⟨#[]⟩ : ByteArray)) := by rw [Lib.cell_of_heap hg2]; rfl
    have z3 : W'.cell? ⟨w.heap.size, 3, none⟩ = some (.slice none 0 0) := by rw [Lib.cell_of_heap hg2]; rfl
    have f0 := Lib.frozen_of_heap hg2 0
    have f1 := Lib.frozen_of_heap hg2 1
    have f2 := Lib.frozen_of_heap hg2 2
    have f3 := Lib.frozen_of_heap hg2 3
    rw [hW1] at hrun
    have HG2 := Lib.hid hg2
    have HN := Lib.hid (hn1.trans (hb'.mono hn1.size))
    have HR := Lib.hid hr
    have HOWN := Lib.hid hown
    have HS := Lib.hid hb'.size
    have HS1 := Lib.hid hs1
    clear hg2 hb' hn1 hg1 hA hs1 hW1 hr hown hat
    go_enter Tryd.func62, Tryd.ntmps62
    go_wp2_with (refine wpList_value rfl (exec_append _ _ 40 rfl hrun) ?_)
    refine bodyPost_ret (results_cell_row rfl _ _ w.heap.size 42 #[.int .i64 3, .int .i64 0, .string (⟨#[]⟩ : ByteArray), .slice A' l.length c'] (0, 0) _ rfl (four_put HG2.out _ _ _ _) Tryd.underlying42 rfl (by kernel_rfl)) rfl ?_
    obtain ⟨WF, hWF⟩ : ∃ WF, WF = put4 W' w.heap.size (.int .i64 3) (.int .i64 0) (.string (⟨#[]⟩ : ByteArray)) (.slice A' l.length c') := ⟨_, rfl⟩
    have hfar : ∀ k, k ≠ w.heap.size → WF.heap[k]? = W'.heap[k]? := fun k hk => by rw [hWF]; exact put4_far hk _ _ _ _
    have hbF : Below w.heap.size w WF := ⟨by rw [hWF]; exact HN.out.os, by rw [hWF]; exact HN.out.tape, by rw [hWF]; exact HN.out.output, by rw [hWF, put4_size]; exact HN.out.size, fun k hk => (hfar k (by omega)).trans (HN.out.block k hk)⟩
    have hown : WF.ownsRow W1.heap.size 42 4 (.slice A' l.length c') l.length inner := own_move HOWN.out (fun k hk => hfar k (by have := own_base HOWN.out k hk; have := HS1.out; omega))
    have hne : ∀ k, k < w.heap.size → some k ≠ (Value.slice A' l.length c').ownBlock := fun k hk e => by
      have := own_base HOWN.out k e.symm; have := HS1.out; omega
    have hR : rC WF base (.slice A' l.length c') l := by
      refine ⟨fun _ _ => trivial, inner, own_weaken hown (by have := HS1.out; omega), HR.out.1, fun j p hj => ?_⟩
      have h1 := (k42).M_mono (ok' := fun k => True ∧ some k ≠ (Value.slice A' l.length c').ownBlock) (fun k hk => ⟨trivial, hne k hk.2.2.1⟩) ((k42).M_bound (HR.out.2 j p hj))
      exact Kd.M_step h1 (fun k _ hk => hbF.block k hk)
    unfold put4 at hWF
    rw [← hWF]
    exact ⟨_, rfl, ⟨_, rfl, hR⟩, hbF⟩
/-- The append of one more. -/
theorem append_item {W : World} {b0 lo : Nat} {v : Value} {acc : List S42} {x : S42} {g : Nat} {v3 : Value} (hR : rC W b0 v acc) (hv : ∀ k, v.ownBlock = some k → k < lo) (hb0 : b0 ≤ lo) (hgl : lo ≤ g)
    (hg : W.heap[g]? = some (.cells #[.int .i64 x.f0, .int .i64 x.f1, .string x.f2, v3] 42 (0, 0))) (hr3 : rC W lo v3 x.f3) (hn : acc.length ≤ 1000000) (ty : TypeId) :
    ∃ v' W', (Builtin.append_ #[40, 40] ty #[v, .slice (some ⟨g, 0, none⟩) 1 1]).run Tryd.prog W = .ok v' W' ∧ W.grownBy W' v.ownBlock ∧ rC W' b0 v' (acc ++ [x]) := by
  obtain ⟨i0, hi0, hz0, hz1, hz2⟩ := info_parts infoCell
  have h1 := R_one hr3
  have hgs := (Array.getElem?_eq_some_iff.1 hg).1
  obtain ⟨h0, inner, hown, hreps⟩ := hR
  have hbn : (acc.length + 1) * 56 ≤ 1000001 * 56 := Nat.mul_le_mul (by omega) (Nat.le_refl _)
  obtain ⟨h, cap, W', hr, hown', hgr, hat, _⟩ := run_append_lies (P := Tryd.prog) W 40 ty b0 42 i0 _ 4 56 Tryd.underlying40 hi0 hz0 hz1 hz2 (by rfl) (by decide) v acc.length _ hown ⟨g, 0, none⟩ 1 1 [.int .i64 x.f0, .int .i64 x.f1, .string x.f2, v3]
    (by rfl) (World.news_of_block (cs := #[.int .i64 x.f0, .int .i64 x.f1, .string x.f2, v3]) hg) (by
      intro u hu
      simp only [List.mem_cons, List.not_mem_nil, or_false] at hu
      rcases hu with rfl | rfl | rfl | rfl
      · rfl
      · rfl
      · rfl
      · exact h1) (by decide) (by unfold maxLen; omega) (by omega) (by omega) W.heap.size rfl
  have hm3 : Kd.M k42 W b0 (fun k => lo ≤ k) x [.int .i64 x.f0, .int .i64 x.f1, .string x.f2, v3] :=
    k42_mkM W b0 _ x (Kd.R_lower (Kd.R_mono (Kd.R_bound hr3) (fun k hk => hk.2.1)) hb0)
  have hres := Kd.R_appended (d := k42) (e := 42) (base := b0) (ok := fun _ => True) (W := W) (w1 := W') (v := v) (v1 := .slice (some ⟨h, 0, none⟩) (acc.length + 1) cap) h0 hreps hm3 (fun k hk => ⟨trivial, fun e => by have := hv k e.symm; omega⟩) (fun k hk => trivial) hown' hgr
    (hat.elim (fun e => .inl (by rw [e]; rfl)) (fun e => .inr ⟨h, rfl, by omega⟩))
  exact ⟨_, W', hr, hgr, hres⟩
theorem grown_below {W W' : World} {b0 : Nat} {v : Value} {w : World} {acc : List S42} (hR : rC W b0 v acc) (h : W.grownBy W' v.ownBlock) (hb : Below b0 w W) (hs : b0 ≤ W.heap.size) : Below b0 w W' := by
  have : Below b0 W W' := ⟨h.os, h.tape, h.output, h.size, fun k hk => by
    by_cases e : some k = v.ownBlock
    · obtain ⟨_, inner, hown, _⟩ := hR
      have := own_base hown k e.symm; omega
    · exact h.block k (by omega) e⟩
  exact hb.trans this
/-- A literal of cells. -/
def litC (lo : Nat) (xs : List S42) : Value → World → Prop := fun u W =>
  ∃ g cs, u = .slice (some ⟨g, 0, none⟩) xs.length xs.length ∧ lo ≤ g ∧ W.heap[g]? = some (.cells cs.toArray 42 (0, 0)) ∧ repsM W lo xs cs
theorem litC_below {lo : Nat} {xs : List S42} {u : Value} {W W' : World} (h : litC lo xs u W) (hb : Below W.heap.size W W') : litC lo xs u W' := by
  obtain ⟨g, cs, e, hl, hg, hr⟩ := h
  exact ⟨g, cs, e, hl, (hb.block g (Array.getElem?_eq_some_iff.1 hg).1).trans hg, repsM_below hr hb⟩
theorem litC_of {lo : Nat} {xs : List S42} {us : List Value} {W : World} (hr : repsM W lo xs (us.flatMap fun v => v.cells.toList)) (hlo : lo ≤ W.heap.size) :
    litC lo xs (.slice (some ⟨W.heap.size, 0, none⟩) xs.length xs.length) (W.alloc (.cells (us.flatMap fun v => v.cells.toList).toArray 42)) :=
  ⟨_, _, rfl, hlo, heap_alloc_last _ _, repsM_below hr ((Below.refl _ _).alloc (Nat.le_refl _) _)⟩
theorem lit_run (W : World) (us : List Value) (n : Nat) (parts : Array (Nat × Value)) (hp : parts.toList = (us.zipIdx 0).map fun x => (x.2, x.1)) (hn : 0 < n) (hl : us.length = n) (hsm : n ≤ 1000) (h1 : ∀ v ∈ us, v.cells.size = 4) :
    (Instr.buildSlice 40 n parts).run Tryd.prog W = .ok (.slice (some ⟨W.heap.size, 0, none⟩) n n) (W.alloc (.cells (us.flatMap fun v => v.cells.toList).toArray 42)) :=
  run_lit W 40 42 4 n us parts _ 56 Tryd.underlying40 infoCell hp (by decide) hn hl (by omega) h1
theorem repsM_1 {W : World} {lo : Nat} {x1 : S42} {u1 : Value} (h1 : cellF lo x1 u1 W) : repsM W lo [x1] ([u1].flatMap fun v => v.cells.toList) := by
  simpa using repsM_snoc (repsM_nil W lo) h1
theorem repsM_2 {W : World} {lo : Nat} {x1 x2 : S42} {u1 u2 : Value} (h1 : cellF lo x1 u1 W) (h2 : cellF lo x2 u2 W) : repsM W lo [x1, x2] ([u1, u2].flatMap fun v => v.cells.toList) := by
  simpa using repsM_snoc (repsM_snoc (repsM_nil W lo) h1) h2
theorem repsM_3 {W : World} {lo : Nat} {x1 x2 x3 : S42} {u1 u2 u3 : Value} (h1 : cellF lo x1 u1 W) (h2 : cellF lo x2 u2 W) (h3 : cellF lo x3 u3 W) : repsM W lo [x1, x2, x3] ([u1, u2, u3].flatMap fun v => v.cells.toList) := by
  simpa using repsM_snoc (repsM_snoc (repsM_snoc (repsM_nil W lo) h1) h2) h3
theorem repsM_4 {W : World} {lo : Nat} {x1 x2 x3 x4 : S42} {u1 u2 u3 u4 : Value} (h1 : cellF lo x1 u1 W) (h2 : cellF lo x2 u2 W) (h3 : cellF lo x3 u3 W) (h4 : cellF lo x4 u4 W) : repsM W lo [x1, x2, x3, x4] ([u1, u2, u3, u4].flatMap fun v => v.cells.toList) := by
  simpa using repsM_snoc (repsM_snoc (repsM_snoc (repsM_snoc (repsM_nil W lo) h1) h2) h3) h4
theorem repsM_5 {W : World} {lo : Nat} {x1 x2 x3 x4 x5 : S42} {u1 u2 u3 u4 u5 : Value} (h1 : cellF lo x1 u1 W) (h2 : cellF lo x2 u2 W) (h3 : cellF lo x3 u3 W) (h4 : cellF lo x4 u4 W) (h5 : cellF lo x5 u5 W) : repsM W lo [x1, x2, x3, x4, x5] ([u1, u2, u3, u4, u5].flatMap fun v => v.cells.toList) := by
  simpa using repsM_snoc (repsM_snoc (repsM_snoc (repsM_snoc (repsM_snoc (repsM_nil W lo) h1) h2) h3) h4) h5
theorem cellF_size {base : Nat} {x : S42} {u : Value} {W : World} (h : cellF base x u W) : u.cells.size = 4 := by
  obtain ⟨v3, rfl, hr⟩ := h; rfl
theorem lit_run1 {W : World} {lo : Nat} {x1 : S42} {u1 : Value} (h1 : cellF lo x1 u1 W) (parts : Array (Nat × Value)) (hp : parts.toList = [(0, u1)]) :
    (Instr.buildSlice 40 1 parts).run Tryd.prog W = .ok (.slice (some ⟨W.heap.size, 0, none⟩) 1 1) (W.alloc (.cells ([u1].flatMap fun v => v.cells.toList).toArray 42)) :=
  lit_run W [u1] 1 parts (by rw [hp]; rfl) (by decide) rfl (by decide) (fun v hv => by
    simp only [List.mem_cons, List.not_mem_nil, or_false] at hv
    rcases hv with rfl
    exact cellF_size h1)
theorem lit_run2 {W : World} {lo : Nat} {x1 x2 : S42} {u1 u2 : Value} (h1 : cellF lo x1 u1 W) (h2 : cellF lo x2 u2 W) (parts : Array (Nat × Value)) (hp : parts.toList = [(0, u1), (1, u2)]) :
    (Instr.buildSlice 40 2 parts).run Tryd.prog W = .ok (.slice (some ⟨W.heap.size, 0, none⟩) 2 2) (W.alloc (.cells ([u1, u2].flatMap fun v => v.cells.toList).toArray 42)) :=
  lit_run W [u1, u2] 2 parts (by rw [hp]; rfl) (by decide) rfl (by decide) (fun v hv => by
    simp only [List.mem_cons, List.not_mem_nil, or_false] at hv
    rcases hv with rfl | rfl
    all_goals first | exact cellF_size h1 | exact cellF_size h2)
theorem lit_run3 {W : World} {lo : Nat} {x1 x2 x3 : S42} {u1 u2 u3 : Value} (h1 : cellF lo x1 u1 W) (h2 : cellF lo x2 u2 W) (h3 : cellF lo x3 u3 W) (parts : Array (Nat × Value)) (hp : parts.toList = [(0, u1), (1, u2), (2, u3)]) :
    (Instr.buildSlice 40 3 parts).run Tryd.prog W = .ok (.slice (some ⟨W.heap.size, 0, none⟩) 3 3) (W.alloc (.cells ([u1, u2, u3].flatMap fun v => v.cells.toList).toArray 42)) :=
  lit_run W [u1, u2, u3] 3 parts (by rw [hp]; rfl) (by decide) rfl (by decide) (fun v hv => by
    simp only [List.mem_cons, List.not_mem_nil, or_false] at hv
    rcases hv with rfl | rfl | rfl
    all_goals first | exact cellF_size h1 | exact cellF_size h2 | exact cellF_size h3)
theorem lit_run4 {W : World} {lo : Nat} {x1 x2 x3 x4 : S42} {u1 u2 u3 u4 : Value} (h1 : cellF lo x1 u1 W) (h2 : cellF lo x2 u2 W) (h3 : cellF lo x3 u3 W) (h4 : cellF lo x4 u4 W) (parts : Array (Nat × Value)) (hp : parts.toList = [(0, u1), (1, u2), (2, u3), (3, u4)]) :
    (Instr.buildSlice 40 4 parts).run Tryd.prog W = .ok (.slice (some ⟨W.heap.size, 0, none⟩) 4 4) (W.alloc (.cells ([u1, u2, u3, u4].flatMap fun v => v.cells.toList).toArray 42)) :=
  lit_run W [u1, u2, u3, u4] 4 parts (by rw [hp]; rfl) (by decide) rfl (by decide) (fun v hv => by
    simp only [List.mem_cons, List.not_mem_nil, or_false] at hv
    rcases hv with rfl | rfl | rfl | rfl
    all_goals first | exact cellF_size h1 | exact cellF_size h2 | exact cellF_size h3 | exact cellF_size h4)
theorem lit_run5 {W : World} {lo : Nat} {x1 x2 x3 x4 x5 : S42} {u1 u2 u3 u4 u5 : Value} (h1 : cellF lo x1 u1 W) (h2 : cellF lo x2 u2 W) (h3 : cellF lo x3 u3 W) (h4 : cellF lo x4 u4 W) (h5 : cellF lo x5 u5 W) (parts : Array (Nat × Value)) (hp : parts.toList = [(0, u1), (1, u2), (2, u3), (3, u4), (4, u5)]) :
    (Instr.buildSlice 40 5 parts).run Tryd.prog W = .ok (.slice (some ⟨W.heap.size, 0, none⟩) 5 5) (W.alloc (.cells ([u1, u2, u3, u4, u5].flatMap fun v => v.cells.toList).toArray 42)) :=
  lit_run W [u1, u2, u3, u4, u5] 5 parts (by rw [hp]; rfl) (by decide) rfl (by decide) (fun v hv => by
    simp only [List.mem_cons, List.not_mem_nil, or_false] at hv
    rcases hv with rfl | rfl | rfl | rfl | rfl
    all_goals first | exact cellF_size h1 | exact cellF_size h2 | exact cellF_size h3 | exact cellF_size h4 | exact cellF_size h5)
/-- List over a literal. -/
theorem List_lit {lo : Nat} {xs : List S42} {u : Value} {W : World} (h : litC lo xs u W) (hl : xs.length ≤ 1000000) (hlo : lo ≤ W.heap.size) : Calls Tryd.prog 62 #[u] W (CellPostR lo (listC xs) W) := by
  obtain ⟨g, cs, rfl, _, hg, hr⟩ := h
  refine List_R xs (some ⟨g, 0, none⟩) xs.length W lo cs (fun e => by cases e) (fun ad e j u hu => ?_) hr hl hlo
  cases e
  have hc := Lib.cell_of_heap hg j
  have e1 : (⟨g, 0, none⟩ : Addr).add j = ⟨g, j, none⟩ := by simp [Addr.add, eq_comm]
  rw [e1, hc]
  simpa using hu
/-- List over a row of the call's own. -/
theorem List_own {base : Nat} {xs : List S42} {v : Value} {W : World} (h : rC W base v xs) (hl : xs.length ≤ 1000000) (hlo : base ≤ W.heap.size) : Calls Tryd.prog 62 #[v] W (CellPostR base (listC xs) W) := by
  obtain ⟨_, inner, hown, hreps⟩ := h
  have hr : repsM W base xs inner := ⟨hreps.1, fun j p hj => (k42).M_mono (fun _ _ => trivial) (hreps.2 j p hj)⟩
  have hR : rC W base v xs := ⟨fun _ _ => trivial, inner, hown, hreps⟩
  obtain ⟨A, c, rfl, hlc, hC⟩ := Kd.R_reads hR
  refine List_R xs A c W base inner (fun e => ?_) (fun ad e j u hu => ?_) hr hl hlo
  · subst e
    rcases Nat.eq_zero_or_pos xs.length with h0 | h0
    · exact List.eq_nil_of_length_eq_zero h0
    · obtain ⟨ad, e, _⟩ := hC.2.2 h0; cases e
  · subst e
    rcases hown.2 with ⟨e1, _⟩ | ⟨g, cap, cur, e1, _⟩
    · cases e1
    · injection e1 with e2 _ _
      cases e2
      exact hown.cells (g := g) rfl j u hu
/-- The append of a literal of one. -/
theorem append_lit {W : World} {b0 lo : Nat} {v : Value} {acc : List S42} {x : S42} {u : Value} (hR : rC W b0 v acc) (hv : ∀ k, v.ownBlock = some k → k < lo) (hb0 : b0 ≤ lo)
    (h : litC lo [x] u W) (hn : acc.length ≤ 1000000) (ty : TypeId) :
    ∃ v' W', (Builtin.append_ #[40, 40] ty #[v, u]).run Tryd.prog W = .ok v' W' ∧ W.grownBy W' v.ownBlock ∧ rC W' b0 v' (acc ++ [x]) := by
  obtain ⟨g, cs, rfl, hlg, hg, hr⟩ := h
  have h4 : cs.length = 4 := by have := hr.1; simpa using this
  have hM : Kd.M k42 W lo (fun _ => True) x cs := by
    have := hr.2 0 x rfl
    rwa [Nat.zero_mul, List.drop_zero, ← h4, List.take_length] at this
  obtain ⟨v3, rfl, hr3⟩ := k42_openM hM
  exact append_item hR hv hb0 hlg hg hr3 hn ty
end Go.Proofs.YtgjlchcfdbmmlaaDoor.PObjectTakes
namespace Go.Proofs.YtgjlchcfdbmmlaaDoor.PObjectTakes
open Go.RowKit Go.Proofs.YtgjlchcfdbmmlaaDoor.Ord Go.Proofs.YtgjlchcfdbmmlaaDoor.Obj Go.Proofs.YtgjlchcfdbmmlaaDoorW.PrintWords Go.Proofs.YtgjlchcfdbmmlaaDoorW.PrintLast Go.Proofs.YtgjlchcfdbmmlaaDoorW.PrintMore
attribute [local irreducible] OpGives
attribute [local go_sem] rdl_const rdl_func rdl_global rdl_nil rdl_cons

def numC (n : Int) : S42 := ⟨1, n, ⟨#[]⟩, []⟩
def textC (s : ByteArray) : S42 := ⟨2, 0, s, []⟩
def valC (v : S53) : S42 := if v.f0 = 2 then textC v.f2 else numC v.f1
def rowC (x : S55) : S42 := listC [numC x.f0, numC x.f1, valC x.f2]
def rowsC (l : List S55) : S42 := listC (l.map rowC)
set_option maxRecDepth 100000 in
theorem num_R (n : Int) (base : Nat) (w : World) : Calls Tryd.prog 60 #[.int .i64 n] w (fun e w' => e = .returned (.agg #[.int .i64 1, .int .i64 n, .string (⟨#[]⟩ : ByteArray), .slice none 0 0]) ∧ Below w.heap.size w w') := by
  go_enter Tryd.func60, Tryd.ntmps60
  go_wp2
  refine bodyPost_ret (results_cell_row rfl _ _ w.heap.size 42 #[.int .i64 1, .int .i64 n, .string (⟨#[]⟩ : ByteArray), .slice none 0 0] (0, 0) _ rfl (heap_alloc_last _ _) Tryd.underlying42 rfl (by kernel_rfl)) rfl ?_
  exact ⟨rfl, (Below.refl _ _).alloc (Nat.le_refl _) _⟩
set_option maxRecDepth 100000 in
theorem text_R (s : ByteArray) (base : Nat) (w : World) : Calls Tryd.prog 61 #[.string s] w (fun e w' => e = .returned (.agg #[.int .i64 2, .int .i64 0, .string s, .slice none 0 0]) ∧ Below w.heap.size w w') := by
  go_enter Tryd.func61, Tryd.ntmps61
  go_wp2
  refine bodyPost_ret (results_cell_row rfl _ _ w.heap.size 42 #[.int .i64 2, .int .i64 0, .string s, .slice none 0 0] (0, 0) _ rfl (heap_alloc_last _ _) Tryd.underlying42 rfl (by kernel_rfl)) rfl ?_
  exact ⟨rfl, (Below.refl _ _).alloc (Nat.le_refl _) _⟩
theorem num_F (n : Int) (base : Nat) (W : World) : cellF base (numC n) (.agg #[.int .i64 1, .int .i64 n, .string (⟨#[]⟩ : ByteArray), .slice none 0 0]) W := ⟨_, rfl, Kd.R_nil _ _ _ _ _⟩
theorem text_F (s : ByteArray) (base : Nat) (W : World) : cellF base (textC s) (.agg #[.int .i64 2, .int .i64 0, .string s, .slice none 0 0]) W := ⟨_, rfl, Kd.R_nil _ _ _ _ _⟩
/-- The value of a row's cell. -/
def valV (v : S53) : Value := .agg #[.int .i64 (valC v).f0, .int .i64 (valC v).f1, .string (valC v).f2, .slice none 0 0]
theorem val_F (v : S53) (base : Nat) (W : World) : cellF base (valC v) (valV v) W := by
  unfold valV valC
  split <;> exact ⟨_, rfl, Kd.R_nil _ _ _ _ _⟩
theorem rC_put {W : World} {b b0 g : Nat} {v : Value} {l : List S42} (h : rC W b v l) (hg : g < b) (hb : b0 ≤ b) (a0 a1 a2 a3 : Value) : rC (put4 W g a0 a1 a2 a3) b0 v l :=
  Kd.R_mono (Kd.R_lower (Kd.R_step (Kd.R_bound h) (fun k hk _ => put4_far (by have := hk.2.1; omega) _ _ _ _)) hb) (fun _ _ => trivial)
theorem put4_below {w W : World} (h : Below w.heap.size w W) (a0 a1 a2 a3 : Value) : Below w.heap.size w (put4 W w.heap.size a0 a1 a2 a3) :=
  ⟨h.os, h.tape, h.output, by rw [put4_size]; exact h.size, fun k hk => (put4_far (by omega) _ _ _ _).trans (h.block k hk)⟩
set_option maxHeartbeats 16000000 in
set_option maxRecDepth 100000 in
theorem rows_calls (l : List S55) (A : Option Addr) (c : Nat) (w : World) (hA : Kd.C k55 w A l.length l) (hc : l.length ≤ c) (hl : l.length ≤ 1000000) :
    Calls Tryd.prog 37 #[.slice A l.length c] w (CellPostR w.heap.size (rowsC l) w) := by
  obtain ⟨W1, hW1⟩ : ∃ W1, W1 = w.alloc (.cells #[.int .i64 0, .int .i64 0, .string (⟨#[]⟩ : ByteArray), .slice none 0 0] 42) := ⟨_, rfl⟩
  have hn1 : Below w.heap.size w W1 := by rw [hW1]; exact (Below.refl _ _).alloc (Nat.le_refl _) _
  have hg1 : W1.heap[w.heap.size]? = some (.cells #[.int .i64 0, .int .i64 0, .string (⟨#[]⟩ : ByteArray), .slice none 0 0] 42 (0, 0)) := by rw [hW1]; exact heap_alloc_last _ _
  have hs1 : W1.heap.size = w.heap.size + 1 := by rw [hW1]; simp
  obtain ⟨i0, hi0, hz0, hz1, hz2⟩ := info_parts infoCell
  obtain ⟨W2, hmk, hown2, hgr2⟩ := run_make_own (P := Tryd.prog) W1 W1.heap.size 40 42 i0 _ 4 Tryd.underlying40 hi0 hz0 hz1 .i64 .i64 l.length (by rw [hz2]; omega) (by unfold maxLen; omega) (Nat.le_refl _)
  have hb2 : Below W1.heap.size W1 W2 := ⟨hgr2.os, hgr2.tape, hgr2.output, hgr2.size, fun k hk => hgr2.block k hk (by simp)⟩
  have hr2 : rC W2 W1.heap.size (.slice (some ⟨W1.heap.size, 0, none⟩) 0 l.length) [] := ⟨fun _ _ => trivial, [], hown2, Reps.none _ _⟩
  have HR2 := Lib.hid hr2
  have HB2 := Lib.hid hb2
  have HN1 := Lib.hid hn1
  have HG1 := Lib.hid hg1
  have HS1 := Lib.hid hs1
  have HA := Lib.hid hA
  rw [hW1] at hmk
  have HW1 := Lib.hid hW1
  clear hW1 hn1 hg1 hs1 hi0 hz0 hz1 hz2 hown2 hgr2 hb2 hr2 hA
  go_enter Tryd.func37, Tryd.ntmps37
  go_wp2_with fail
  clear hmk
  go_loopw [3, 12] (fun v i wr => ∃ k : Nat, i = .int .i64 (k : Int) ∧ k ≤ l.length ∧ rC wr W1.heap.size v ((l.take k).map rowC) ∧ Below W1.heap.size W1 wr) (fun _ i _ => l.length - (intOf i).toNat)
  case atStart => exact ⟨0, rfl, Nat.zero_le _, by rw [← HS1.out]; exact HR2.out, HB2.out⟩
  case round =>
    obtain ⟨i, rfl, hi, hrow, hbe⟩ := hrel
    have HROW := Lib.hid hrow
    have HBE := Lib.hid hbe
    have hb1 := HN1.out.trans (hbe.mono HN1.out.size)
    have HB1 := Lib.hid hb1
    clear hrow hbe hb1
    by_cases hil : i < l.length
    · obtain ⟨x, hx⟩ : ∃ x, l[i]? = some x := ⟨_, List.getElem?_eq_getElem hil⟩
      obtain ⟨ad, rfl, c0, c1, c2, c3, c4, hbk⟩ := row_at (Kd.C_below HA.out HB1.out) hx
      have HX := Lib.hid hx
      clear hx
      have hlen : ((l.take i).map rowC).length ≤ 1000000 := by rw [List.length_map, List.length_take]; omega
      have hown : ∀ k, u3.ownBlock = some k → k < wr.heap.size := fun k hk => by
        obtain ⟨_, inner, ho, _⟩ := HROW.out
        exact own_lt ho k hk
      have HLEN := Lib.hid hlen
      have HOWN := Lib.hid hown
      clear hlen hown
      go_wp2_with fail
      obtain ⟨W3, hW3⟩ : ∃ W3, W3 = wr.alloc (.cells #[.int .i64 x.f0, .int .i64 x.f1, .int .i64 x.f2.f0, .int .i64 x.f2.f1, .string x.f2.f2] 55) := ⟨_, rfl⟩
      rw [← hW3]
      have hn3 : Below wr.heap.size wr W3 := by rw [hW3]; exact (Below.refl _ _).alloc (Nat.le_refl _) _
      have hg3 : W3.heap[wr.heap.size]? = some (.cells #[.int .i64 x.f0, .int .i64 x.f1, .int .i64 x.f2.f0, .int .i64 x.f2.f1, .string x.f2.f2] 55 (0, 0)) := by rw [hW3]; exact alloc_lastV _ _
      clear hW3 c0 c1 c2 c3 c4 hbk
      refine (num_R x.f2.f1 0 W3).mono ?_
      rintro e W4 ⟨rfl, hb4⟩
      have hg4 := (hb4.block _ (Array.getElem?_eq_some_iff.1 hg3).1).trans hg3
      have hb34 : Below wr.heap.size wr W4 := hn3.trans (hb4.mono hn3.size)
      obtain ⟨W5, hW5⟩ : ∃ W5, W5 = W4.alloc (.cells #[.int .i64 1, .int .i64 x.f2.f1, .string (⟨#[]⟩ : ByteArray), .slice none 0 0] 42) := ⟨_, rfl⟩
      have hn5 : Below W4.heap.size W4 W5 := by rw [hW5]; exact (Below.refl _ _).alloc (Nat.le_refl _) _
      have hc5 : W5.heap[W4.heap.size]? = some (.cells #[.int .i64 1, .int .i64 x.f2.f1, .string (⟨#[]⟩ : ByteArray), .slice none 0 0] 42 (0, 0)) := by rw [hW5]; exact alloc_lastV _ _
      have hx5 := (hn5.block _ (Array.getElem?_eq_some_iff.1 hg4).1).trans hg4
      have hb5 : Below wr.heap.size wr W5 := hb34.trans (hn5.mono hb34.size)
      obtain ⟨d0, d1, d2, d3, d4⟩ := box5 hx5
      have hs34 := (Array.getElem?_eq_some_iff.1 hg4).1
      rw [hW5] at d0 d1 d2 d3 d4
      have HX5 := Lib.hid hx5
      have HC5 := Lib.hid hc5
      have HB5 := Lib.hid hb5
      have HW5 := Lib.hid hW5
      clear hn3 hg3 hb4 hg4 hb34 hn5 hx5 hc5 hb5 hW5
      by_cases hk2 : x.f2.f0 = 2
      · have hk2' : (x.f2.f0 == 2) = true := by simpa using hk2
        have hval : valC x.f2 = textC x.f2.f2 := by unfold valC; rw [if_pos hk2]
        have HVAL := Lib.hid hval
        clear hk2 hval
        go_wp2_with fail
        rw [← HW5.out]
        clear d0 d1 d2 d3 d4
        refine (text_R x.f2.f2 0 W5).mono ?_
        rintro e W6 ⟨rfl, hb6⟩
        have hx6 := (hb6.block _ (Array.getElem?_eq_some_iff.1 HX5.out).1).trans HX5.out
        have hc6 := (hb6.block _ (Array.getElem?_eq_some_iff.1 HC5.out).1).trans HC5.out
        have z0 : W6.cell? ⟨W4.heap.size, 0, none⟩ = some (.int .i64 1) := by rw [Lib.cell_of_heap hc6]; rfl
        have z1 : W6.cell? ⟨W4.heap.size, 1, none⟩ = some (.int .i64 x.f2.f1) := by rw [Lib.cell_of_heap hc6]; rfl
        have z2 : W6.cell? ⟨W4.heap.size, 2, none⟩ = some (.string (⟨#[]⟩ : ByteArray)) := by rw [Lib.cell_of_heap hc6]; rfl
        have z3 : W6.cell? ⟨W4.heap.size, 3, none⟩ = some (.slice none 0 0) := by rw [Lib.cell_of_heap hc6]; rfl
        have f0 := Lib.frozen_of_heap hc6 0
        have f1 := Lib.frozen_of_heap hc6 1
        have f2 := Lib.frozen_of_heap hc6 2
        have f3 := Lib.frozen_of_heap hc6 3
        have d0 := (box5 hx6).1
        obtain ⟨W7, hW7⟩ : ∃ W7, W7 = put4 W6 W4.heap.size (.int .i64 2) (.int .i64 0) (.string x.f2.f2) (.slice none 0 0) := ⟨_, rfl⟩
        have hc7 : W7.heap[W4.heap.size]? = some (.cells #[.int .i64 (valC x.f2).f0, .int .i64 (valC x.f2).f1, .string (valC x.f2).f2, .slice none 0 0] 42 (0, 0)) := by
          rw [HVAL.out, hW7]; exact four_put hc6 _ _ _ _
        have hfar : ∀ k, k ≠ W4.heap.size → W7.heap[k]? = W6.heap[k]? := fun k hk => by rw [hW7]; exact put4_far hk _ _ _ _
        have hx7 := (hfar wr.heap.size (by have := (Array.getElem?_eq_some_iff.1 HX5.out).1; have := HB5.out.size; have := hs34; omega)).trans hx6
        have hb7 : Below wr.heap.size wr W7 := by
          have h1 : Below wr.heap.size wr W6 := HB5.out.trans (hb6.mono HB5.out.size)
          exact ⟨by rw [hW7]; exact h1.os, by rw [hW7]; exact h1.tape, by rw [hW7]; exact h1.output, by rw [hW7, put4_size]; exact h1.size, fun k hk => (hfar k (by omega)).trans (h1.block k hk)⟩
        have HX7 := Lib.hid hx7
        have HC7 := Lib.hid hc7
        have HB7 := Lib.hid hb7
        unfold put4 at hW7
        have HW7 := Lib.hid hW7
        clear hx6 hc6 hc7 hfar hx7 hb7 hW7 hb6
        have d1 : True := trivial
        have d2 : True := trivial
        have d3 : True := trivial
        have d4 : True := trivial
        go_wp2_with fail
        rw [← HW7.out]
        clear z0 z1 z2 z3 f0 f1 f2 f3 d0 d1 d2 d3 d4
        have hcl : ∀ W, Below W7.heap.size W7 W → W.cell? ⟨wr.heap.size, 0, none⟩ = some (.int .i64 x.f0) ∧ W.cell? ⟨wr.heap.size, 1, none⟩ = some (.int .i64 x.f1) ∧ W.cell? ⟨W4.heap.size, 0, none⟩ = some (.int .i64 (valC x.f2).f0) ∧ W.cell? ⟨W4.heap.size, 1, none⟩ = some (.int .i64 (valC x.f2).f1) ∧ W.cell? ⟨W4.heap.size, 2, none⟩ = some (.string (valC x.f2).f2) ∧ W.cell? ⟨W4.heap.size, 3, none⟩ = some (.slice none 0 0) := fun W hW => by
          have hx := (hW.block _ (Array.getElem?_eq_some_iff.1 HX7.out).1).trans HX7.out
          have hc := (hW.block _ (Array.getElem?_eq_some_iff.1 HC7.out).1).trans HC7.out
          refine ⟨?_, ?_, ?_, ?_, ?_, ?_⟩ <;> first | (rw [Lib.cell_of_heap hx]; rfl) | (rw [Lib.cell_of_heap hc]; rfl)
        have HCL := Lib.hid hcl
        have hlo : W7.heap.size ≤ W7.heap.size := Nat.le_refl _
        clear hcl
        refine' wp_region_factsM (S := (fun _ W => Below W7.heap.size W7 W)) (fun _ W W' => Below W.heap.size W W') [eqM _, eqM _, eqM (.int .i64 x.f0), cellF W7.heap.size (numC x.f0), eqM _, eqM (.int .i64 x.f1), cellF W7.heap.size (numC x.f1), cellF W7.heap.size (valC x.f2), litC W7.heap.size [numC x.f0, numC x.f1, valC x.f2], cellF W7.heap.size (rowC x), litC W7.heap.size [rowC x]] (by kernel_rfl) (by kernel_rfl) ?hst ?h0 (Ord.stepsM_cons ?s0 (Ord.stepsM_cons ?s1 (Ord.stepsM_cons ?s2 (Ord.stepsM_cons ?s3 (Ord.stepsM_cons ?s4 (Ord.stepsM_cons ?s5 (Ord.stepsM_cons ?s6 (Ord.stepsM_cons ?s7 (Ord.stepsM_cons ?s8 (Ord.stepsM_cons ?s9 (Ord.stepsM_cons ?s10 (Ord.stepsM_nil)))))))))))) ?fin
        case s0 =>
          intro g W L hL hSW hd
          try simp only [Nat.zero_add, Nat.reduceAdd] at hd ⊢
          with_reducible refine OpGives.pre_reads [] 43 ?_ ?_ ?_
          · rfl
          · kernel_rfl
          simp only [List.map_cons, List.map_nil]
          refine OpGives.val (w' := W) ?_ ⟨Below.refl _ _, rfl, hSW⟩
          go_simp
          try with_reducible rfl
        case s1 =>
          intro g W L hL hSW hd
          try simp only [Nat.zero_add, Nat.reduceAdd] at hd ⊢
          with_reducible refine OpGives.pre_reads [] 43 ?_ ?_ ?_
          · rfl
          · kernel_rfl
          simp only [List.map_cons, List.map_nil]
          refine OpGives.val (w' := W) ?_ ⟨Below.refl _ _, rfl, hSW⟩
          go_simp
          try with_reducible rfl
        case s2 =>
          intro g W L hL hSW hd
          try simp only [Nat.zero_add, Nat.reduceAdd] at hd ⊢
          have h1 : g 1 = _ := hd 1 (by decide) (by kernel_rfl)
          with_reducible refine OpGives.pre_reads [(29, 1)] 43 ?_ ?_ ?_
          · rfl
          · kernel_rfl
          simp only [List.map_cons, List.map_nil]
          obtain ⟨z0, z1, z2, z3, z4, z5⟩ := HCL.out W hSW; refine OpGives.val (v := .int .i64 x.f0) (w' := W) ?_ ⟨Below.refl _ _, rfl, hSW⟩; go_simp
        case s3 =>
          intro g W L hL hSW hd
          try simp only [Nat.zero_add, Nat.reduceAdd] at hd ⊢
          have h2 : g 2 = _ := hd 2 (by decide) (by kernel_rfl)
          with_reducible refine OpGives.pre_reads [(30, 2)] 43 ?_ ?_ ?_
          · rfl
          · kernel_rfl
          simp only [List.map_cons, List.map_nil]
          rw [h2]; refine OpGives.call (f := 60) (args := #[.int .i64 x.f0]) (w' := W) (by go_simp) ((num_R x.f0 0 W).mono fun e W' ⟨he, hb⟩ => ⟨_, he, hb, num_F _ _ _, hSW.trans (hb.mono hSW.size)⟩)
        case s4 =>
          intro g W L hL hSW hd
          try simp only [Nat.zero_add, Nat.reduceAdd] at hd ⊢
          with_reducible refine OpGives.pre_reads [] 43 ?_ ?_ ?_
          · rfl
          · kernel_rfl
          simp only [List.map_cons, List.map_nil]
          refine OpGives.val (w' := W) ?_ ⟨Below.refl _ _, rfl, hSW⟩
          go_simp
          try with_reducible rfl
        case s5 =>
          intro g W L hL hSW hd
          try simp only [Nat.zero_add, Nat.reduceAdd] at hd ⊢
          have h4 : g 4 = _ := hd 4 (by decide) (by kernel_rfl)
          with_reducible refine OpGives.pre_reads [(32, 4)] 43 ?_ ?_ ?_
          · rfl
          · kernel_rfl
          simp only [List.map_cons, List.map_nil]
          obtain ⟨z0, z1, z2, z3, z4, z5⟩ := HCL.out W hSW; refine OpGives.val (v := .int .i64 x.f1) (w' := W) ?_ ⟨Below.refl _ _, rfl, hSW⟩; go_simp
        case s6 =>
          intro g W L hL hSW hd
          try simp only [Nat.zero_add, Nat.reduceAdd] at hd ⊢
          have h5 : g 5 = _ := hd 5 (by decide) (by kernel_rfl)
          with_reducible refine OpGives.pre_reads [(33, 5)] 43 ?_ ?_ ?_
          · rfl
          · kernel_rfl
          simp only [List.map_cons, List.map_nil]
          rw [h5]; refine OpGives.call (f := 60) (args := #[.int .i64 x.f1]) (w' := W) (by go_simp) ((num_R x.f1 0 W).mono fun e W' ⟨he, hb⟩ => ⟨_, he, hb, num_F _ _ _, hSW.trans (hb.mono hSW.size)⟩)
        case s7 =>
          intro g W L hL hSW hd
          try simp only [Nat.zero_add, Nat.reduceAdd] at hd ⊢
          with_reducible refine OpGives.pre_reads [] 43 ?_ ?_ ?_
          · rfl
          · kernel_rfl
          simp only [List.map_cons, List.map_nil]
          obtain ⟨z0, z1, z2, z3, z4, z5⟩ := HCL.out W hSW; refine OpGives.val (v := valV x.f2) (w' := W) ?_ ⟨Below.refl _ _, val_F _ _ _, hSW⟩; unfold valV; go_simp
        case s8 =>
          intro g W L hL hSW hd
          try simp only [Nat.zero_add, Nat.reduceAdd] at hd ⊢
          have h3 := hd 3 (by decide) (by kernel_rfl)
          change (cellF W7.heap.size (numC x.f0)) (g 3) W at h3
          have h6 := hd 6 (by decide) (by kernel_rfl)
          change (cellF W7.heap.size (numC x.f1)) (g 6) W at h6
          have h7 := hd 7 (by decide) (by kernel_rfl)
          change (cellF W7.heap.size (valC x.f2)) (g 7) W at h7
          with_reducible refine OpGives.pre_reads [(31, 3), (34, 6), (35, 7)] 43 ?_ ?_ ?_
          · rfl
          · kernel_rfl
          simp only [List.map_cons, List.map_nil]
          refine OpGives.val (v := .slice (some ⟨W.heap.size, 0, none⟩) 3 3) (w' := W.alloc (.cells ([g 3, g 6, g 7].flatMap fun v => v.cells.toList).toArray 42)) (exec_buildSlice 40 3 _ rfl (lit_run3 h3 h6 h7 _ (by simp [rdl_cons]))) ⟨(Below.refl _ _).alloc (Nat.le_refl _) _, litC_of (repsM_3 h3 h6 h7) hSW.size, hSW.alloc hSW.size _⟩
        case s9 =>
          intro g W L hL hSW hd
          try simp only [Nat.zero_add, Nat.reduceAdd] at hd ⊢
          have h8 := hd 8 (by decide) (by kernel_rfl)
          change (litC W7.heap.size [numC x.f0, numC x.f1, valC x.f2]) (g 8) W at h8
          with_reducible refine OpGives.pre_reads [(36, 8)] 43 ?_ ?_ ?_
          · rfl
          · kernel_rfl
          simp only [List.map_cons, List.map_nil]
          refine OpGives.call (f := 62) (args := #[g 8]) (w' := W) (by go_simp) ((List_lit h8 (by simp) hSW.size).mono fun e W' ⟨u, he, hf, hb⟩ => ⟨u, he, hb, hf, hSW.trans (hb.mono hSW.size)⟩)
        case s10 =>
          intro g W L hL hSW hd
          try simp only [Nat.zero_add, Nat.reduceAdd] at hd ⊢
          have h9 := hd 9 (by decide) (by kernel_rfl)
          change (cellF W7.heap.size (rowC x)) (g 9) W at h9
          with_reducible refine OpGives.pre_reads [(37, 9)] 43 ?_ ?_ ?_
          · rfl
          · kernel_rfl
          simp only [List.map_cons, List.map_nil]
          refine OpGives.val (v := .slice (some ⟨W.heap.size, 0, none⟩) 1 1) (w' := W.alloc (.cells ([g 9].flatMap fun v => v.cells.toList).toArray 42)) (exec_buildSlice 40 1 _ rfl (lit_run1 h9 _ (by simp [rdl_cons]))) ⟨(Below.refl _ _).alloc (Nat.le_refl _) _, litC_of (repsM_1 h9) hSW.size, hSW.alloc hSW.size _⟩
        case hst =>
          refine fun i j v w w' _ h hR => st_of (R := fun W W' => Below W.heap.size W W') ?_ i v w w' h hR
          repeat' first
            | exact trivial
            | with_reducible refine StL.eq ?_
            | refine ⟨fun v w w' h hR => cellF_below h hR, ?_⟩
            | refine ⟨fun v w w' h hR => litC_below h hR, ?_⟩
        case h0 => exact (Below.refl _ _).drew
        case fin =>
          intro v' W L hL hSW hf
          have h10 := hf 10 (Nat.lt_of_lt_of_eq (by decide : 10 < 11) rfl)
          have h0 : v' 0 = _ := hf 0 (Nat.lt_of_lt_of_eq (by decide : 0 < 11) rfl)
          change litC W7.heap.size [rowC x] (v' 10) W at h10
          clear hf
          generalize hF : Ord.pre _ _ v' _ = F
          rw [Ord.pre_lit [some 28, some 29, some 30, some 31, some 32, some 33, some 34, some 35, some 36, some 37, some 38]
            (by kernel_rfl)] at hF
          simp only [Ord.puts, Nat.zero_add, Nat.reduceAdd] at hF
          subst hF
          rw [h0]
          have hb7W := HB7.out.trans (hSW.mono HB7.out.size)
          have hrW := Kd.R_below HROW.out (⟨hb7W.os, hb7W.tape, hb7W.output, hb7W.size, hb7W.block⟩)
          obtain ⟨v8, W8, hr8, hg8, hR8⟩ := append_lit (b0 := W1.heap.size) (lo := W7.heap.size) hrW (fun k hk => Nat.lt_of_lt_of_le (HOWN.out k hk) HB7.out.size) (Nat.le_trans HBE.out.size HB7.out.size) h10 HLEN.out 40
          have hB8 := grown_below hrW hg8 (HBE.out.trans (hb7W.mono HBE.out.size)) (Nat.le_trans HBE.out.size hb7W.size)
          have hR8' : rC W8 W1.heap.size v8 ((l.take (i + 1)).map rowC) := by
            rw [List.take_add_one, HX.out]; simpa using hR8
          have HR8 := Lib.hid hR8'
          have HB8 := Lib.hid hB8
          clear hg8 hR8 hR8' hB8 hrW hb7W hSW h10
          refine any_one (i := 11) (by kernel_rfl) ?_
          refine wpOp_value (v := v8) (w' := W8) rfl rfl ?_ ?_
          · refine exec_append (.tmp 28) (.tmp 38) 40 rfl ?_
            have key : ∀ a b ty, a = u3 → b = v' 10 → ty = 40 → (Builtin.append_ #[40, 40] ty #[a, b]).run Tryd.prog W = .ok v8 W8 := by rintro _ _ _ rfl rfl rfl; exact hr8
            refine key _ _ _ ?_ ?_ rfl
            · go_simp
            · go_simp
          refine any_one (i := 12) (by kernel_rfl) ?_
          refine wpOp_value (v := v8) (w' := W8) rfl rfl (by go_simp) ?_
          refine wpAny_done (by kernel_rfl) ?_ _
          try simp only [List.getElem_toArray, List.getElem_cons_succ, List.getElem_cons_zero]
          go_frame
          clear hr8
          go_wp2_with fail
          go_roundw
          case rel => exact ⟨i + 1, by go_num, hil, HR8.out, HB8.out⟩
          case measure => simp [intOf]; omega
      · have hk2' : (x.f2.f0 == 2) = false := by simpa using hk2
        have hval : valC x.f2 = numC x.f2.f1 := by unfold valC; rw [if_neg hk2]
        have HVAL := Lib.hid hval
        have HC7 := Lib.hid (show W5.heap[W4.heap.size]? = some (.cells #[.int .i64 (valC x.f2).f0, .int .i64 (valC x.f2).f1, .string (valC x.f2).f2, .slice none 0 0] 42 (0, 0)) by rw [hval]; exact HC5.out)
        clear hk2 hval
        go_wp2_with fail
        rw [← HW5.out]
        clear d0 d1 d2 d3 d4
        have hcl : ∀ W, Below W5.heap.size W5 W → W.cell? ⟨wr.heap.size, 0, none⟩ = some (.int .i64 x.f0) ∧ W.cell? ⟨wr.heap.size, 1, none⟩ = some (.int .i64 x.f1) ∧ W.cell? ⟨W4.heap.size, 0, none⟩ = some (.int .i64 (valC x.f2).f0) ∧ W.cell? ⟨W4.heap.size, 1, none⟩ = some (.int .i64 (valC x.f2).f1) ∧ W.cell? ⟨W4.heap.size, 2, none⟩ = some (.string (valC x.f2).f2) ∧ W.cell? ⟨W4.heap.size, 3, none⟩ = some (.slice none 0 0) := fun W hW => by
          have hx := (hW.block _ (Array.getElem?_eq_some_iff.1 HX5.out).1).trans HX5.out
          have hc := (hW.block _ (Array.getElem?_eq_some_iff.1 HC7.out).1).trans HC7.out
          refine ⟨?_, ?_, ?_, ?_, ?_, ?_⟩ <;> first | (rw [Lib.cell_of_heap hx]; rfl) | (rw [Lib.cell_of_heap hc]; rfl)
        have HCL := Lib.hid hcl
        have hlo : W5.heap.size ≤ W5.heap.size := Nat.le_refl _
        clear hcl
        refine' wp_region_factsM (S := (fun _ W => Below W5.heap.size W5 W)) (fun _ W W' => Below W.heap.size W W') [eqM _, eqM _, eqM (.int .i64 x.f0), cellF W5.heap.size (numC x.f0), eqM _, eqM (.int .i64 x.f1), cellF W5.heap.size (numC x.f1), cellF W5.heap.size (valC x.f2), litC W5.heap.size [numC x.f0, numC x.f1, valC x.f2], cellF W5.heap.size (rowC x), litC W5.heap.size [rowC x]] (by kernel_rfl) (by kernel_rfl) ?hst ?h0 (Ord.stepsM_cons ?s0 (Ord.stepsM_cons ?s1 (Ord.stepsM_cons ?s2 (Ord.stepsM_cons ?s3 (Ord.stepsM_cons ?s4 (Ord.stepsM_cons ?s5 (Ord.stepsM_cons ?s6 (Ord.stepsM_cons ?s7 (Ord.stepsM_cons ?s8 (Ord.stepsM_cons ?s9 (Ord.stepsM_cons ?s10 (Ord.stepsM_nil)))))))))))) ?fin
        case s0 =>
          intro g W L hL hSW hd
          try simp only [Nat.zero_add, Nat.reduceAdd] at hd ⊢
          with_reducible refine OpGives.pre_reads [] 43 ?_ ?_ ?_
          · rfl
          · kernel_rfl
          simp only [List.map_cons, List.map_nil]
          refine OpGives.val (w' := W) ?_ ⟨Below.refl _ _, rfl, hSW⟩
          go_simp
          try with_reducible rfl
        case s1 =>
          intro g W L hL hSW hd
          try simp only [Nat.zero_add, Nat.reduceAdd] at hd ⊢
          with_reducible refine OpGives.pre_reads [] 43 ?_ ?_ ?_
          · rfl
          · kernel_rfl
          simp only [List.map_cons, List.map_nil]
          refine OpGives.val (w' := W) ?_ ⟨Below.refl _ _, rfl, hSW⟩
          go_simp
          try with_reducible rfl
        case s2 =>
          intro g W L hL hSW hd
          try simp only [Nat.zero_add, Nat.reduceAdd] at hd ⊢
          have h1 : g 1 = _ := hd 1 (by decide) (by kernel_rfl)
          with_reducible refine OpGives.pre_reads [(29, 1)] 43 ?_ ?_ ?_
          · rfl
          · kernel_rfl
          simp only [List.map_cons, List.map_nil]
          obtain ⟨z0, z1, z2, z3, z4, z5⟩ := HCL.out W hSW; refine OpGives.val (v := .int .i64 x.f0) (w' := W) ?_ ⟨Below.refl _ _, rfl, hSW⟩; go_simp
        case s3 =>
          intro g W L hL hSW hd
          try simp only [Nat.zero_add, Nat.reduceAdd] at hd ⊢
          have h2 : g 2 = _ := hd 2 (by decide) (by kernel_rfl)
          with_reducible refine OpGives.pre_reads [(30, 2)] 43 ?_ ?_ ?_
          · rfl
          · kernel_rfl
          simp only [List.map_cons, List.map_nil]
          rw [h2]; refine OpGives.call (f := 60) (args := #[.int .i64 x.f0]) (w' := W) (by go_simp) ((num_R x.f0 0 W).mono fun e W' ⟨he, hb⟩ => ⟨_, he, hb, num_F _ _ _, hSW.trans (hb.mono hSW.size)⟩)
        case s4 =>
          intro g W L hL hSW hd
          try simp only [Nat.zero_add, Nat.reduceAdd] at hd ⊢
          with_reducible refine OpGives.pre_reads [] 43 ?_ ?_ ?_
          · rfl
          · kernel_rfl
          simp only [List.map_cons, List.map_nil]
          refine OpGives.val (w' := W) ?_ ⟨Below.refl _ _, rfl, hSW⟩
          go_simp
          try with_reducible rfl
        case s5 =>
          intro g W L hL hSW hd
          try simp only [Nat.zero_add, Nat.reduceAdd] at hd ⊢
          have h4 : g 4 = _ := hd 4 (by decide) (by kernel_rfl)
          with_reducible refine OpGives.pre_reads [(32, 4)] 43 ?_ ?_ ?_
          · rfl
          · kernel_rfl
          simp only [List.map_cons, List.map_nil]
          obtain ⟨z0, z1, z2, z3, z4, z5⟩ := HCL.out W hSW; refine OpGives.val (v := .int .i64 x.f1) (w' := W) ?_ ⟨Below.refl _ _, rfl, hSW⟩; go_simp
        case s6 =>
          intro g W L hL hSW hd
          try simp only [Nat.zero_add, Nat.reduceAdd] at hd ⊢
          have h5 : g 5 = _ := hd 5 (by decide) (by kernel_rfl)
          with_reducible refine OpGives.pre_reads [(33, 5)] 43 ?_ ?_ ?_
          · rfl
          · kernel_rfl
          simp only [List.map_cons, List.map_nil]
          rw [h5]; refine OpGives.call (f := 60) (args := #[.int .i64 x.f1]) (w' := W) (by go_simp) ((num_R x.f1 0 W).mono fun e W' ⟨he, hb⟩ => ⟨_, he, hb, num_F _ _ _, hSW.trans (hb.mono hSW.size)⟩)
        case s7 =>
          intro g W L hL hSW hd
          try simp only [Nat.zero_add, Nat.reduceAdd] at hd ⊢
          with_reducible refine OpGives.pre_reads [] 43 ?_ ?_ ?_
          · rfl
          · kernel_rfl
          simp only [List.map_cons, List.map_nil]
          obtain ⟨z0, z1, z2, z3, z4, z5⟩ := HCL.out W hSW; refine OpGives.val (v := valV x.f2) (w' := W) ?_ ⟨Below.refl _ _, val_F _ _ _, hSW⟩; unfold valV; go_simp
        case s8 =>
          intro g W L hL hSW hd
          try simp only [Nat.zero_add, Nat.reduceAdd] at hd ⊢
          have h3 := hd 3 (by decide) (by kernel_rfl)
          change (cellF W5.heap.size (numC x.f0)) (g 3) W at h3
          have h6 := hd 6 (by decide) (by kernel_rfl)
          change (cellF W5.heap.size (numC x.f1)) (g 6) W at h6
          have h7 := hd 7 (by decide) (by kernel_rfl)
          change (cellF W5.heap.size (valC x.f2)) (g 7) W at h7
          with_reducible refine OpGives.pre_reads [(31, 3), (34, 6), (35, 7)] 43 ?_ ?_ ?_
          · rfl
          · kernel_rfl
          simp only [List.map_cons, List.map_nil]
          refine OpGives.val (v := .slice (some ⟨W.heap.size, 0, none⟩) 3 3) (w' := W.alloc (.cells ([g 3, g 6, g 7].flatMap fun v => v.cells.toList).toArray 42)) (exec_buildSlice 40 3 _ rfl (lit_run3 h3 h6 h7 _ (by simp [rdl_cons]))) ⟨(Below.refl _ _).alloc (Nat.le_refl _) _, litC_of (repsM_3 h3 h6 h7) hSW.size, hSW.alloc hSW.size _⟩
        case s9 =>
          intro g W L hL hSW hd
          try simp only [Nat.zero_add, Nat.reduceAdd] at hd ⊢
          have h8 := hd 8 (by decide) (by kernel_rfl)
          change (litC W5.heap.size [numC x.f0, numC x.f1, valC x.f2]) (g 8) W at h8
          with_reducible refine OpGives.pre_reads [(36, 8)] 43 ?_ ?_ ?_
          · rfl
          · kernel_rfl
          simp only [List.map_cons, List.map_nil]
          refine OpGives.call (f := 62) (args := #[g 8]) (w' := W) (by go_simp) ((List_lit h8 (by simp) hSW.size).mono fun e W' ⟨u, he, hf, hb⟩ => ⟨u, he, hb, hf, hSW.trans (hb.mono hSW.size)⟩)
        case s10 =>
          intro g W L hL hSW hd
          try simp only [Nat.zero_add, Nat.reduceAdd] at hd ⊢
          have h9 := hd 9 (by decide) (by kernel_rfl)
          change (cellF W5.heap.size (rowC x)) (g 9) W at h9
          with_reducible refine OpGives.pre_reads [(37, 9)] 43 ?_ ?_ ?_
          · rfl
          · kernel_rfl
          simp only [List.map_cons, List.map_nil]
          refine OpGives.val (v := .slice (some ⟨W.heap.size, 0, none⟩) 1 1) (w' := W.alloc (.cells ([g 9].flatMap fun v => v.cells.toList).toArray 42)) (exec_buildSlice 40 1 _ rfl (lit_run1 h9 _ (by simp [rdl_cons]))) ⟨(Below.refl _ _).alloc (Nat.le_refl _) _, litC_of (repsM_1 h9) hSW.size, hSW.alloc hSW.size _⟩
        case hst =>
          refine fun i j v w w' _ h hR => st_of (R := fun W W' => Below W.heap.size W W') ?_ i v w w' h hR
          repeat' first
            | exact trivial
            | with_reducible refine StL.eq ?_
            | refine ⟨fun v w w' h hR => cellF_below h hR, ?_⟩
            | refine ⟨fun v w w' h hR => litC_below h hR, ?_⟩
        case h0 => exact (Below.refl _ _).drew
        case fin =>
          intro v' W L hL hSW hf
          have h10 := hf 10 (Nat.lt_of_lt_of_eq (by decide : 10 < 11) rfl)
          have h0 : v' 0 = _ := hf 0 (Nat.lt_of_lt_of_eq (by decide : 0 < 11) rfl)
          change litC W5.heap.size [rowC x] (v' 10) W at h10
          clear hf
          generalize hF : Ord.pre _ _ v' _ = F
          rw [Ord.pre_lit [some 28, some 29, some 30, some 31, some 32, some 33, some 34, some 35, some 36, some 37, some 38]
            (by kernel_rfl)] at hF
          simp only [Ord.puts, Nat.zero_add, Nat.reduceAdd] at hF
          subst hF
          rw [h0]
          have hb7W := HB5.out.trans (hSW.mono HB5.out.size)
          have hrW := Kd.R_below HROW.out (⟨hb7W.os, hb7W.tape, hb7W.output, hb7W.size, hb7W.block⟩)
          obtain ⟨v8, W8, hr8, hg8, hR8⟩ := append_lit (b0 := W1.heap.size) (lo := W5.heap.size) hrW (fun k hk => Nat.lt_of_lt_of_le (HOWN.out k hk) HB5.out.size) (Nat.le_trans HBE.out.size HB5.out.size) h10 HLEN.out 40
          have hB8 := grown_below hrW hg8 (HBE.out.trans (hb7W.mono HBE.out.size)) (Nat.le_trans HBE.out.size hb7W.size)
          have hR8' : rC W8 W1.heap.size v8 ((l.take (i + 1)).map rowC) := by
            rw [List.take_add_one, HX.out]; simpa using hR8
          have HR8 := Lib.hid hR8'
          have HB8 := Lib.hid hB8
          clear hg8 hR8 hR8' hB8 hrW hb7W hSW h10
          refine any_one (i := 11) (by kernel_rfl) ?_
          refine wpOp_value (v := v8) (w' := W8) rfl rfl ?_ ?_
          · refine exec_append (.tmp 28) (.tmp 38) 40 rfl ?_
            have key : ∀ a b ty, a = u3 → b = v' 10 → ty = 40 → (Builtin.append_ #[40, 40] ty #[a, b]).run Tryd.prog W = .ok v8 W8 := by rintro _ _ _ rfl rfl rfl; exact hr8
            refine key _ _ _ ?_ ?_ rfl
            · go_simp
            · go_simp
          refine any_one (i := 12) (by kernel_rfl) ?_
          refine wpOp_value (v := v8) (w' := W8) rfl rfl (by go_simp) ?_
          refine wpAny_done (by kernel_rfl) ?_ _
          try simp only [List.getElem_toArray, List.getElem_cons_succ, List.getElem_cons_zero]
          go_frame
          clear hr8
          go_wp2_with fail
          go_roundw
          case rel => exact ⟨i + 1, by go_num, hil, HR8.out, HB8.out⟩
          case measure => simp [intOf]; omega
    · have hie : i = l.length := by omega
      have hrow := HROW.out
      rw [hie, List.take_length] at hrow
      have hL := List_own hrow (by rw [List.length_map]; exact hl) HBE.out.size
      have HL := Lib.hid hL
      clear hrow hie hL
      go_wp2_with fail
      refine HL.out.mono ?_
      rintro e W2' ⟨u, rfl, ⟨v3, rfl, hR3⟩, hb3⟩
      obtain ⟨A3, c3, rfl⟩ := R_slice hR3
      have hb1' : Below W1.heap.size W1 W2' := HBE.out.trans (hb3.mono HBE.out.size)
      have hgb := (hb1'.block w.heap.size (by have := HS1.out; omega)).trans HG1.out
      have hbw : Below w.heap.size w W2' := HN1.out.trans (hb1'.mono HN1.out.size)
      have z0 : W2'.cell? ⟨w.heap.size, 0, none⟩ = some (.int .i64 0) := by rw [Lib.cell_of_heap hgb]; rfl
      have z1 : W2'.cell? ⟨w.heap.size, 1, none⟩ = some (.int .i64 0) := by rw [Lib.cell_of_heap hgb]; rfl
      have z2 : W2'.cell? ⟨w.heap.size, 2, none⟩ = some (.string (⟨#[]⟩ : ByteArray)) := by rw [Lib.cell_of_heap hgb]; rfl
      have z3 : W2'.cell? ⟨w.heap.size, 3, none⟩ = some (.slice none 0 0) := by rw [Lib.cell_of_heap hgb]; rfl
      have f0 := Lib.frozen_of_heap hgb 0
      have f1 := Lib.frozen_of_heap hgb 1
      have f2 := Lib.frozen_of_heap hgb 2
      have f3 := Lib.frozen_of_heap hgb 3
      have HGB := Lib.hid hgb
      have HBW := Lib.hid hbw
      have HR3 := Lib.hid hR3
      clear hb1' hgb hbw hR3 hb3
      go_wp2_with fail
      refine bodyPost_ret (results_cell_row rfl _ _ w.heap.size 42 #[.int .i64 3, .int .i64 0, .string (⟨#[]⟩ : ByteArray), .slice A3 (listC (l.map rowC)).f3.length c3] (0, 0) _ rfl (four_put HGB.out _ _ _ _) Tryd.underlying42 rfl (by kernel_rfl)) rfl ?_
      exact ⟨_, rfl, ⟨_, rfl, rC_put HR3.out (by have := HS1.out; omega) (by have := HS1.out; omega) _ _ _ _⟩, put4_below HBW.out _ _ _ _⟩
end Go.Proofs.YtgjlchcfdbmmlaaDoor.PObjectTakes
namespace Go.Proofs.YtgjlchcfdbmmlaaDoor.PObjectTakes
open Go.RowKit Go.Proofs.YtgjlchcfdbmmlaaDoor.Ord Go.Proofs.YtgjlchcfdbmmlaaDoor.Obj Go.Proofs.YtgjlchcfdbmmlaaDoorW.PrintWords Go.Proofs.YtgjlchcfdbmmlaaDoorW.PrintLast Go.Proofs.YtgjlchcfdbmmlaaDoorW.PrintMore
attribute [local irreducible] OpGives
attribute [local go_sem] rdl_const rdl_func rdl_global rdl_nil rdl_cons

def kidC (x : S60) : S42 := listC [numC x.f0, textC x.f1]
def nodeC (o : Ob) : S42 := listC [numC 1, textC o.label, rowsC o.rows, listC (o.kids.map kidC)]
theorem cellF_lower {b b' : Nat} {x : S42} {u : Value} {W : World} (h : cellF b x u W) (hb : b' ≤ b) : cellF b' x u W := by
  obtain ⟨v3, e, hr⟩ := h
  exact ⟨v3, e, Kd.R_lower hr hb⟩
theorem rC_below {b : Nat} {v : Value} {l : List S42} {W W' : World} (h : rC W b v l) (hb : Below W.heap.size W W') : rC W' b v l := Kd.R_below h hb
theorem rC_own {b : Nat} {v : Value} {l : List S42} {W : World} (h : rC W b v l) : ∀ k, v.ownBlock = some k → k < W.heap.size := fun k hk => by
  obtain ⟨_, inner, ho, _⟩ := h
  exact own_lt ho k hk
theorem put4_below' {w W : World} {g : Nat} (h : Below w.heap.size w W) (hg : w.heap.size ≤ g) (a0 a1 a2 a3 : Value) : Below w.heap.size w (put4 W g a0 a1 a2 a3) :=
  ⟨h.os, h.tape, h.output, by rw [put4_size]; exact h.size, fun k hk => (put4_far (by omega) _ _ _ _).trans (h.block k hk)⟩
set_option maxHeartbeats 16000000 in
set_option maxRecDepth 100000 in
theorem ncell_calls (o : Ob) (Ar : Option Addr) (cr : Nat) (Ak : Option Addr) (ck : Nat) (Ap : Option Addr) (cp : Nat) (w : World) (hO : ObAt w o Ar cr Ak ck Ap cp) (hrl : o.rows.length ≤ 1000000) (hkl : o.kids.length ≤ 1000000) (hk8 : ∀ x ∈ o.kids, 0 ≤ x.f0 ∧ x.f0 ≤ 255) :
    Calls Tryd.prog 107 #[.agg (obV o Ar cr Ak ck Ap cp)] w (CellPostR w.heap.size (nodeC o) w) := by
  obtain ⟨knd, lab, rws, kds, prs, stp, nte, rot⟩ := o
  unfold obV nodeC
  simp only at hO hrl hkl hk8 ⊢
  have hOk := hO.k
  have hOr := hO.r
  have hOlr := hO.lr
  simp only at hOk hOr hOlr
  obtain ⟨W1, hW1⟩ : ∃ W1, W1 = w.alloc (.cells #[.int .i64 knd, .string lab, .slice Ar rws.length cr, .slice Ak kds.length ck, .slice Ap prs.length cp, .int .i64 stp, .string nte, .string rot] 86) := ⟨_, rfl⟩
  have hn1 : Below w.heap.size w W1 := by rw [hW1]; exact (Below.refl _ _).alloc (Nat.le_refl _) _
  have hg1 : W1.heap[w.heap.size]? = some (.cells #[.int .i64 knd, .string lab, .slice Ar rws.length cr, .slice Ak kds.length ck, .slice Ap prs.length cp, .int .i64 stp, .string nte, .string rot] 86 (0, 0)) := by rw [hW1]; exact alloc_lastV _ _
  have hs1 : W1.heap.size = w.heap.size + 1 := by rw [hW1]; simp
  obtain ⟨W2, hW2⟩ : ∃ W2, W2 = W1.alloc (.cells #[.int .i64 0, .int .i64 0, .string (⟨#[]⟩ : ByteArray), .slice none 0 0] 42) := ⟨_, rfl⟩
  have hn2 : Below W1.heap.size W1 W2 := by rw [hW2]; exact (Below.refl _ _).alloc (Nat.le_refl _) _
  have hg2 : W2.heap[w.heap.size + 1]? = some (.cells #[.int .i64 0, .int .i64 0, .string (⟨#[]⟩ : ByteArray), .slice none 0 0] 42 (0, 0)) := by rw [hW2, ← hs1]; exact alloc_lastV _ _
  have hs2 : W2.heap.size = w.heap.size + 2 := by rw [hW2]; simp [hs1]
  have hgn := (hn2.block _ (Array.getElem?_eq_some_iff.1 hg1).1).trans hg1
  have hb2 : Below w.heap.size w W2 := hn1.trans (hn2.mono hn1.size)
  obtain ⟨⟨b0, b1, b2, b3⟩, b4, b5, b6, b7⟩ := box8 hgn
  have HK := Lib.hid (Kd.C_below hOk hb2)
  have HR := Lib.hid (Kd.C_below hOr hb2)
  have HGN := Lib.hid hgn
  have HG2 := Lib.hid hg2
  have HB2 := Lib.hid hb2
  have HS2 := Lib.hid hs2
  have HK8 := Lib.hid hk8
  rw [hW2, hW1] at b0 b1 b2 b3 b4 b5 b6 b7
  rw [hW1] at hW2
  have HW2 := Lib.hid hW2
  clear hW1 hW2 hn1 hg1 hs1 hn2 hg2 hs2 hgn hb2 hO hOk hOr hk8
  go_enter Tryd.func107, Tryd.ntmps107
  go_wp2_with fail
  rw [← HW2.out]
  clear b0 b1 b2 b3 b4 b5 b6 b7
  go_loopw [3, 9] (fun v i wr => ∃ k : Nat, i = .int .i64 (k : Int) ∧ k ≤ kds.length ∧ rC wr W2.heap.size v ((kds.take k).map kidC) ∧ Below W2.heap.size W2 wr) (fun _ i _ => kds.length - (intOf i).toNat)
  case atStart => exact ⟨0, rfl, Nat.zero_le _, Kd.R_nil _ _ _ _ _, Below.refl _ _⟩
  case round =>
    obtain ⟨i, rfl, hi, hrow, hbe⟩ := hrel
    have HROW := Lib.hid hrow
    have HBE := Lib.hid hbe
    by_cases hil : i < kds.length
    · obtain ⟨x, hx⟩ : ∃ x, kds[i]? = some x := ⟨_, List.getElem?_eq_getElem hil⟩
      obtain ⟨ad, rfl, c0, c1, hbk⟩ := kid_at (Kd.C_below HK.out hbe) hx
      have hx8 := HK8.out x (List.mem_of_getElem? hx)
      have HX := Lib.hid hx
      have hlen : ((kds.take i).map kidC).length ≤ 1000000 := by rw [List.length_map, List.length_take]; omega
      have HLEN := Lib.hid hlen
      have hwx : IntKind.i64.wrap x.f0 = x.f0 := by rw [IntKind.wrap_i64]; omega
      clear hx hlen hrow hbe hx8
      go_wp2_with fail
      obtain ⟨W7, hW7⟩ : ∃ W7, W7 = wr.alloc (.cells #[.int .u8 x.f0, .string x.f1] 60) := ⟨_, rfl⟩
      rw [← hW7]
      have hb7 : Below wr.heap.size wr W7 := by rw [hW7]; exact (Below.refl _ _).alloc (Nat.le_refl _) _
      have hx7 : W7.heap[wr.heap.size]? = some (.cells #[.int .u8 x.f0, .string x.f1] 60 (0, 0)) := by rw [hW7]; exact alloc_lastV _ _
      have HB7 := Lib.hid hb7
      have hcl : ∀ W, Below W7.heap.size W7 W → W.cell? ⟨wr.heap.size, 0, none⟩ = some (.int .u8 x.f0) ∧ W.cell? ⟨wr.heap.size, 1, none⟩ = some (.string x.f1) := fun W hW => by
        exact box2 ((hW.block _ (Array.getElem?_eq_some_iff.1 hx7).1).trans hx7)
      have HCL := Lib.hid hcl
      clear hcl hb7 hx7 hW7 c0 c1 hbk
      refine' wp_region_factsM (S := (fun _ W => Below W7.heap.size W7 W)) (fun _ W W' => Below W.heap.size W W') [eqM _, eqM _, eqM (.int .u8 x.f0), eqM (.int .i64 x.f0), cellF W7.heap.size (numC x.f0), eqM _, eqM (.string x.f1), cellF W7.heap.size (textC x.f1), litC W7.heap.size [numC x.f0, textC x.f1], cellF W7.heap.size (kidC x), litC W7.heap.size [kidC x]] (by kernel_rfl) (by kernel_rfl) ?hst ?h0 (Ord.stepsM_cons ?s0 (Ord.stepsM_cons ?s1 (Ord.stepsM_cons ?s2 (Ord.stepsM_cons ?s3 (Ord.stepsM_cons ?s4 (Ord.stepsM_cons ?s5 (Ord.stepsM_cons ?s6 (Ord.stepsM_cons ?s7 (Ord.stepsM_cons ?s8 (Ord.stepsM_cons ?s9 (Ord.stepsM_cons ?s10 (Ord.stepsM_nil)))))))))))) ?fin
      case s0 =>
        intro g W L hL hSW hd
        try simp only [Nat.zero_add, Nat.reduceAdd] at hd ⊢
        with_reducible refine OpGives.pre_reads [] 37 ?_ ?_ ?_
        · rfl
        · kernel_rfl
        simp only [List.map_cons, List.map_nil]
        refine OpGives.val (w' := W) ?_ ⟨Below.refl _ _, rfl, hSW⟩
        go_simp
        try with_reducible rfl
      case s1 =>
        intro g W L hL hSW hd
        try simp only [Nat.zero_add, Nat.reduceAdd] at hd ⊢
        with_reducible refine OpGives.pre_reads [] 37 ?_ ?_ ?_
        · rfl
        · kernel_rfl
        simp only [List.map_cons, List.map_nil]
        refine OpGives.val (w' := W) ?_ ⟨Below.refl _ _, rfl, hSW⟩
        go_simp
        try with_reducible rfl
      case s2 =>
        intro g W L hL hSW hd
        try simp only [Nat.zero_add, Nat.reduceAdd] at hd ⊢
        have h1 : g 1 = _ := hd 1 (by decide) (by kernel_rfl)
        with_reducible refine OpGives.pre_reads [(14, 1)] 37 ?_ ?_ ?_
        · rfl
        · kernel_rfl
        simp only [List.map_cons, List.map_nil]
        obtain ⟨z0, z1⟩ := HCL.out W hSW; refine OpGives.val (v := .int .u8 x.f0) (w' := W) ?_ ⟨Below.refl _ _, rfl, hSW⟩; go_simp
      case s3 =>
        intro g W L hL hSW hd
        try simp only [Nat.zero_add, Nat.reduceAdd] at hd ⊢
        have h2 : g 2 = _ := hd 2 (by decide) (by kernel_rfl)
        with_reducible refine OpGives.pre_reads [(15, 2)] 37 ?_ ?_ ?_
        · rfl
        · kernel_rfl
        simp only [List.map_cons, List.map_nil]
        refine OpGives.val (v := .int .i64 x.f0) (w' := W) ?_ ⟨Below.refl _ _, rfl, hSW⟩; go_simp
      case s4 =>
        intro g W L hL hSW hd
        try simp only [Nat.zero_add, Nat.reduceAdd] at hd ⊢
        have h3 : g 3 = _ := hd 3 (by decide) (by kernel_rfl)
        with_reducible refine OpGives.pre_reads [(16, 3)] 37 ?_ ?_ ?_
        · rfl
        · kernel_rfl
        simp only [List.map_cons, List.map_nil]
        rw [h3]; refine OpGives.call (f := 60) (args := #[.int .i64 x.f0]) (w' := W) (by go_simp) ((num_R x.f0 0 W).mono fun e W' ⟨he, hb⟩ => ⟨_, he, hb, num_F _ _ _, hSW.trans (hb.mono hSW.size)⟩)
      case s5 =>
        intro g W L hL hSW hd
        try simp only [Nat.zero_add, Nat.reduceAdd] at hd ⊢
        with_reducible refine OpGives.pre_reads [] 37 ?_ ?_ ?_
        · rfl
        · kernel_rfl
        simp only [List.map_cons, List.map_nil]
        refine OpGives.val (w' := W) ?_ ⟨Below.refl _ _, rfl, hSW⟩
        go_simp
        try with_reducible rfl
      case s6 =>
        intro g W L hL hSW hd
        try simp only [Nat.zero_add, Nat.reduceAdd] at hd ⊢
        have h5 : g 5 = _ := hd 5 (by decide) (by kernel_rfl)
        with_reducible refine OpGives.pre_reads [(18, 5)] 37 ?_ ?_ ?_
        · rfl
        · kernel_rfl
        simp only [List.map_cons, List.map_nil]
        obtain ⟨z0, z1⟩ := HCL.out W hSW; refine OpGives.val (v := .string x.f1) (w' := W) ?_ ⟨Below.refl _ _, rfl, hSW⟩; go_simp
      case s7 =>
        intro g W L hL hSW hd
        try simp only [Nat.zero_add, Nat.reduceAdd] at hd ⊢
        have h6 : g 6 = _ := hd 6 (by decide) (by kernel_rfl)
        with_reducible refine OpGives.pre_reads [(19, 6)] 37 ?_ ?_ ?_
        · rfl
        · kernel_rfl
        simp only [List.map_cons, List.map_nil]
        rw [h6]; refine OpGives.call (f := 61) (args := #[.string x.f1]) (w' := W) (by go_simp) ((text_R x.f1 0 W).mono fun e W' ⟨he, hb⟩ => ⟨_, he, hb, text_F _ _ _, hSW.trans (hb.mono hSW.size)⟩)
      case s8 =>
        intro g W L hL hSW hd
        try simp only [Nat.zero_add, Nat.reduceAdd] at hd ⊢
        have h4 := hd 4 (by decide) (by kernel_rfl)
        change (cellF W7.heap.size (numC x.f0)) (g 4) W at h4
        have h7 := hd 7 (by decide) (by kernel_rfl)
        change (cellF W7.heap.size (textC x.f1)) (g 7) W at h7
        with_reducible refine OpGives.pre_reads [(17, 4), (20, 7)] 37 ?_ ?_ ?_
        · rfl
        · kernel_rfl
        simp only [List.map_cons, List.map_nil]
        refine OpGives.val (v := .slice (some ⟨W.heap.size, 0, none⟩) 2 2) (w' := W.alloc (.cells ([g 4, g 7].flatMap fun v => v.cells.toList).toArray 42)) (exec_buildSlice 40 2 _ rfl (lit_run2 h4 h7 _ (by simp [rdl_cons]))) ⟨(Below.refl _ _).alloc (Nat.le_refl _) _, litC_of (repsM_2 h4 h7) hSW.size, hSW.alloc hSW.size _⟩
      case s9 =>
        intro g W L hL hSW hd
        try simp only [Nat.zero_add, Nat.reduceAdd] at hd ⊢
        have h8 := hd 8 (by decide) (by kernel_rfl)
        change (litC W7.heap.size [numC x.f0, textC x.f1]) (g 8) W at h8
        with_reducible refine OpGives.pre_reads [(21, 8)] 37 ?_ ?_ ?_
        · rfl
        · kernel_rfl
        simp only [List.map_cons, List.map_nil]
        refine OpGives.call (f := 62) (args := #[g 8]) (w' := W) (by go_simp) ((List_lit h8 (by simp) hSW.size).mono fun e W' ⟨u, he, hf, hb⟩ => ⟨u, he, hb, hf, hSW.trans (hb.mono hSW.size)⟩)
      case s10 =>
        intro g W L hL hSW hd
        try simp only [Nat.zero_add, Nat.reduceAdd] at hd ⊢
        have h9 := hd 9 (by decide) (by kernel_rfl)
        change (cellF W7.heap.size (kidC x)) (g 9) W at h9
        with_reducible refine OpGives.pre_reads [(22, 9)] 37 ?_ ?_ ?_
        · rfl
        · kernel_rfl
        simp only [List.map_cons, List.map_nil]
        refine OpGives.val (v := .slice (some ⟨W.heap.size, 0, none⟩) 1 1) (w' := W.alloc (.cells ([g 9].flatMap fun v => v.cells.toList).toArray 42)) (exec_buildSlice 40 1 _ rfl (lit_run1 h9 _ (by simp [rdl_cons]))) ⟨(Below.refl _ _).alloc (Nat.le_refl _) _, litC_of (repsM_1 h9) hSW.size, hSW.alloc hSW.size _⟩
      case hst =>
        refine fun i j v w w' _ h hR => st_of (R := fun W W' => Below W.heap.size W W') ?_ i v w w' h hR
        repeat' first
          | exact trivial
          | with_reducible refine StL.eq ?_
          | refine ⟨fun v w w' h hR => cellF_below h hR, ?_⟩
          | refine ⟨fun v w w' h hR => litC_below h hR, ?_⟩
      case h0 => exact (Below.refl _ _).drew
      case fin =>
        intro v' W L hL hSW hf
        have h10 := hf 10 (Nat.lt_of_lt_of_eq (by decide : 10 < 11) rfl)
        have h0 : v' 0 = _ := hf 0 (Nat.lt_of_lt_of_eq (by decide : 0 < 11) rfl)
        change litC W7.heap.size [kidC x] (v' 10) W at h10
        clear hf
        generalize hF : Ord.pre _ _ v' _ = F
        rw [Ord.pre_lit [some 13, some 14, some 15, some 16, some 17, some 18, some 19, some 20, some 21, some 22, some 23]
          (by kernel_rfl)] at hF
        simp only [Ord.puts, Nat.zero_add, Nat.reduceAdd] at hF
        subst hF
        rw [h0]
        have hb7W := HB7.out.trans (hSW.mono HB7.out.size)
        have hrW := Kd.R_below HROW.out (⟨hb7W.os, hb7W.tape, hb7W.output, hb7W.size, hb7W.block⟩)
        obtain ⟨v8, W8, hr8, hg8, hR8⟩ := append_lit (b0 := W2.heap.size) (lo := W7.heap.size) hrW (fun k hk => Nat.lt_of_lt_of_le (rC_own HROW.out k hk) HB7.out.size) (Nat.le_trans HBE.out.size HB7.out.size) h10 HLEN.out 40
        have hB8 := grown_below hrW hg8 (HBE.out.trans (hb7W.mono HBE.out.size)) (Nat.le_trans HBE.out.size hb7W.size)
        have hR8' : rC W8 W2.heap.size v8 ((kds.take (i + 1)).map kidC) := by
          rw [List.take_add_one, HX.out]; simpa using hR8
        have HR8 := Lib.hid hR8'
        have HB8 := Lib.hid hB8
        clear hg8 hR8 hR8' hB8 hrW hb7W hSW h10
        refine any_one (i := 11) (by kernel_rfl) ?_
        refine wpOp_value (v := v8) (w' := W8) rfl rfl ?_ ?_
        · refine exec_append (.tmp 13) (.tmp 23) 40 rfl ?_
          have key : ∀ a b ty, a = u3 → b = v' 10 → ty = 40 → (Builtin.append_ #[40, 40] ty #[a, b]).run Tryd.prog W = .ok v8 W8 := by rintro _ _ _ rfl rfl rfl; exact hr8
          refine key _ _ _ ?_ ?_ rfl
          · go_simp
          · go_simp
        refine any_one (i := 12) (by kernel_rfl) ?_
        refine wpOp_value (v := v8) (w' := W8) rfl rfl (by go_simp) ?_
        refine wpAny_done (by kernel_rfl) ?_ _
        try simp only [List.getElem_toArray, List.getElem_cons_succ, List.getElem_cons_zero]
        go_frame
        clear hr8
        go_wp2_with fail
        go_roundw
        case rel => exact ⟨i + 1, by go_num, hil, HR8.out, HB8.out⟩
        case measure => simp [intOf]; omega
    · have hie : i = kds.length := by omega
      rw [hie, List.take_length] at hrow
      have HROW2 := Lib.hid hrow
      have hcl : ∀ W, Below wr.heap.size wr W → (W.cell? ⟨w.heap.size, 1, none⟩ = some (.string lab) ∧ W.cell? ⟨w.heap.size, 2, none⟩ = some (.slice Ar rws.length cr)) ∧ W.heap[w.heap.size + 1]? = some (.cells #[.int .i64 0, .int .i64 0, .string (⟨#[]⟩ : ByteArray), .slice none 0 0] 42 (0, 0)) ∧ Kd.C k55 W Ar rws.length rws ∧ rC W W2.heap.size u3 (kds.map kidC) ∧ W2.heap.size ≤ W.heap.size := fun W hW => by
        have h2 : Below W2.heap.size W2 W := HBE.out.trans (hW.mono HBE.out.size)
        obtain ⟨⟨_, b1, b2, _⟩, _⟩ := box8 ((h2.block _ (Array.getElem?_eq_some_iff.1 HGN.out).1).trans HGN.out)
        exact ⟨⟨b1, b2⟩, (h2.block _ (Array.getElem?_eq_some_iff.1 HG2.out).1).trans HG2.out, Kd.C_below HR.out h2, Kd.R_below HROW2.out hW, h2.size⟩
      have HCL := Lib.hid hcl
      have hkml : (kds.map kidC).length ≤ 1000000 := by rw [List.length_map]; exact hkl
      clear hrow hie hbe hcl
      go_wp2_with fail
      refine' wp_region_factsM (S := (fun _ W => Below wr.heap.size wr W)) (fun _ W W' => Below W.heap.size W W') [cellF W2.heap.size (numC 1), eqM _, eqM (.string lab), cellF W2.heap.size (textC lab), eqM _, eqM (.slice Ar rws.length cr), cellF W2.heap.size (rowsC rws), eqM _, cellF W2.heap.size (listC (kds.map kidC)), litC W2.heap.size [numC 1, textC lab, rowsC rws, listC (kds.map kidC)], cellF W2.heap.size (listC [numC 1, textC lab, rowsC rws, listC (kds.map kidC)])] (by kernel_rfl) (by kernel_rfl) ?hst ?h0 (Ord.stepsM_cons ?s0 (Ord.stepsM_cons ?s1 (Ord.stepsM_cons ?s2 (Ord.stepsM_cons ?s3 (Ord.stepsM_cons ?s4 (Ord.stepsM_cons ?s5 (Ord.stepsM_cons ?s6 (Ord.stepsM_cons ?s7 (Ord.stepsM_cons ?s8 (Ord.stepsM_cons ?s9 (Ord.stepsM_cons ?s10 (Ord.stepsM_nil)))))))))))) ?fin
      case s0 =>
        intro g W L hL hSW hd
        try simp only [Nat.zero_add, Nat.reduceAdd] at hd ⊢
        with_reducible refine OpGives.pre_reads [] 37 ?_ ?_ ?_
        · rfl
        · kernel_rfl
        simp only [List.map_cons, List.map_nil]
        refine OpGives.call (f := 60) (args := #[.int .i64 1]) (w' := W) (by go_simp) ((num_R 1 0 W).mono fun e W' ⟨he, hb⟩ => ⟨_, he, hb, num_F _ _ _, hSW.trans (hb.mono hSW.size)⟩)
      case s1 =>
        intro g W L hL hSW hd
        try simp only [Nat.zero_add, Nat.reduceAdd] at hd ⊢
        with_reducible refine OpGives.pre_reads [] 37 ?_ ?_ ?_
        · rfl
        · kernel_rfl
        simp only [List.map_cons, List.map_nil]
        refine OpGives.val (w' := W) ?_ ⟨Below.refl _ _, rfl, hSW⟩
        go_simp
        try with_reducible rfl
      case s2 =>
        intro g W L hL hSW hd
        try simp only [Nat.zero_add, Nat.reduceAdd] at hd ⊢
        have h1 : g 1 = _ := hd 1 (by decide) (by kernel_rfl)
        with_reducible refine OpGives.pre_reads [(27, 1)] 37 ?_ ?_ ?_
        · rfl
        · kernel_rfl
        simp only [List.map_cons, List.map_nil]
        obtain ⟨⟨z1, z2⟩, _⟩ := HCL.out W hSW; refine OpGives.val (v := .string lab) (w' := W) ?_ ⟨Below.refl _ _, rfl, hSW⟩; go_simp
      case s3 =>
        intro g W L hL hSW hd
        try simp only [Nat.zero_add, Nat.reduceAdd] at hd ⊢
        have h2 : g 2 = _ := hd 2 (by decide) (by kernel_rfl)
        with_reducible refine OpGives.pre_reads [(28, 2)] 37 ?_ ?_ ?_
        · rfl
        · kernel_rfl
        simp only [List.map_cons, List.map_nil]
        rw [h2]; refine OpGives.call (f := 61) (args := #[.string lab]) (w' := W) (by go_simp) ((text_R lab 0 W).mono fun e W' ⟨he, hb⟩ => ⟨_, he, hb, text_F _ _ _, hSW.trans (hb.mono hSW.size)⟩)
      case s4 =>
        intro g W L hL hSW hd
        try simp only [Nat.zero_add, Nat.reduceAdd] at hd ⊢
        with_reducible refine OpGives.pre_reads [] 37 ?_ ?_ ?_
        · rfl
        · kernel_rfl
        simp only [List.map_cons, List.map_nil]
        refine OpGives.val (w' := W) ?_ ⟨Below.refl _ _, rfl, hSW⟩
        go_simp
        try with_reducible rfl
      case s5 =>
        intro g W L hL hSW hd
        try simp only [Nat.zero_add, Nat.reduceAdd] at hd ⊢
        have h4 : g 4 = _ := hd 4 (by decide) (by kernel_rfl)
        with_reducible refine OpGives.pre_reads [(30, 4)] 37 ?_ ?_ ?_
        · rfl
        · kernel_rfl
        simp only [List.map_cons, List.map_nil]
        obtain ⟨⟨z1, z2⟩, _⟩ := HCL.out W hSW; refine OpGives.val (v := .slice Ar rws.length cr) (w' := W) ?_ ⟨Below.refl _ _, rfl, hSW⟩; go_simp
      case s6 =>
        intro g W L hL hSW hd
        try simp only [Nat.zero_add, Nat.reduceAdd] at hd ⊢
        have h5 : g 5 = _ := hd 5 (by decide) (by kernel_rfl)
        with_reducible refine OpGives.pre_reads [(31, 5)] 37 ?_ ?_ ?_
        · rfl
        · kernel_rfl
        simp only [List.map_cons, List.map_nil]
        rw [h5]; refine OpGives.call (f := 37) (args := #[.slice Ar rws.length cr]) (w' := W) (by go_simp) ((rows_calls rws Ar cr W (HCL.out W hSW).2.2.1 hOlr hrl).mono fun e W' ⟨u, he, hf, hb⟩ => ⟨u, he, hb, cellF_lower hf (HCL.out W hSW).2.2.2.2, hSW.trans (hb.mono hSW.size)⟩)
      case s7 =>
        intro g W L hL hSW hd
        try simp only [Nat.zero_add, Nat.reduceAdd] at hd ⊢
        with_reducible refine OpGives.pre_reads [] 37 ?_ ?_ ?_
        · rfl
        · kernel_rfl
        simp only [List.map_cons, List.map_nil]
        refine OpGives.val (w' := W) ?_ ⟨Below.refl _ _, rfl, hSW⟩
        go_simp
        try with_reducible rfl
      case s8 =>
        intro g W L hL hSW hd
        try simp only [Nat.zero_add, Nat.reduceAdd] at hd ⊢
        have h7 : g 7 = _ := hd 7 (by decide) (by kernel_rfl)
        with_reducible refine OpGives.pre_reads [(33, 7)] 37 ?_ ?_ ?_
        · rfl
        · kernel_rfl
        simp only [List.map_cons, List.map_nil]
        rw [h7]; refine OpGives.call (f := 62) (args := #[u3]) (w' := W) (by go_simp) ((List_own (HCL.out W hSW).2.2.2.1 hkml (HCL.out W hSW).2.2.2.2).mono fun e W' ⟨u, he, hf, hb⟩ => ⟨u, he, hb, hf, hSW.trans (hb.mono hSW.size)⟩)
      case s9 =>
        intro g W L hL hSW hd
        try simp only [Nat.zero_add, Nat.reduceAdd] at hd ⊢
        have h0 := hd 0 (by decide) (by kernel_rfl)
        change (cellF W2.heap.size (numC 1)) (g 0) W at h0
        have h3 := hd 3 (by decide) (by kernel_rfl)
        change (cellF W2.heap.size (textC lab)) (g 3) W at h3
        have h6 := hd 6 (by decide) (by kernel_rfl)
        change (cellF W2.heap.size (rowsC rws)) (g 6) W at h6
        have h8 := hd 8 (by decide) (by kernel_rfl)
        change (cellF W2.heap.size (listC (kds.map kidC))) (g 8) W at h8
        with_reducible refine OpGives.pre_reads [(26, 0), (29, 3), (32, 6), (34, 8)] 37 ?_ ?_ ?_
        · rfl
        · kernel_rfl
        simp only [List.map_cons, List.map_nil]
        refine OpGives.val (v := .slice (some ⟨W.heap.size, 0, none⟩) 4 4) (w' := W.alloc (.cells ([g 0, g 3, g 6, g 8].flatMap fun v => v.cells.toList).toArray 42)) (exec_buildSlice 40 4 _ rfl (lit_run4 h0 h3 h6 h8 _ (by simp [rdl_cons]))) ⟨(Below.refl _ _).alloc (Nat.le_refl _) _, litC_of (repsM_4 h0 h3 h6 h8) (HCL.out W hSW).2.2.2.2, hSW.alloc hSW.size _⟩
      case s10 =>
        intro g W L hL hSW hd
        try simp only [Nat.zero_add, Nat.reduceAdd] at hd ⊢
        have h9 := hd 9 (by decide) (by kernel_rfl)
        change (litC W2.heap.size [numC 1, textC lab, rowsC rws, listC (kds.map kidC)]) (g 9) W at h9
        with_reducible refine OpGives.pre_reads [(35, 9)] 37 ?_ ?_ ?_
        · rfl
        · kernel_rfl
        simp only [List.map_cons, List.map_nil]
        refine OpGives.call (f := 62) (args := #[g 9]) (w' := W) (by go_simp) ((List_lit h9 (by simp) (HCL.out W hSW).2.2.2.2).mono fun e W' ⟨u, he, hf, hb⟩ => ⟨u, he, hb, hf, hSW.trans (hb.mono hSW.size)⟩)
      case hst =>
        refine fun i j v w w' _ h hR => st_of (R := fun W W' => Below W.heap.size W W') ?_ i v w w' h hR
        repeat' first
          | exact trivial
          | with_reducible refine StL.eq ?_
          | refine ⟨fun v w w' h hR => cellF_below h hR, ?_⟩
          | refine ⟨fun v w w' h hR => litC_below h hR, ?_⟩
      case h0 => exact (Below.refl _ _).drew
      case fin =>
        intro v' W L hL hSW hf
        have h10 := hf 10 (Nat.lt_of_lt_of_eq (by decide : 10 < 11) rfl)
        change cellF W2.heap.size (listC [numC 1, textC lab, rowsC rws, listC (kds.map kidC)]) (v' 10) W at h10
        clear hf
        generalize hF : Ord.pre _ _ v' _ = F
        rw [Ord.pre_lit [some 26, some 27, some 28, some 29, some 30, some 31, some 32, some 33, some 34, some 35, some 36]
          (by kernel_rfl)] at hF
        simp only [Ord.puts, Nat.zero_add, Nat.reduceAdd] at hF
        subst hF
        obtain ⟨v3, e10, hR3⟩ := h10
        obtain ⟨A3, c3, rfl⟩ := R_slice hR3
        rw [e10]
        have hgb := (HCL.out W hSW).2.1
        obtain ⟨⟨z0, z1, z2, z3⟩, f0, f1, f2, f3⟩ := box4 hgb
        have hbw : Below w.heap.size w W := HB2.out.trans ((HBE.out.trans (hSW.mono HBE.out.size)).mono HB2.out.size)
        have HGB := Lib.hid hgb
        have HBW := Lib.hid hbw
        have HR3 := Lib.hid hR3
        clear hgb hbw hR3 hSW e10
        refine any_one (i := 11) (by kernel_rfl) ?_
        refine wpOp_skip (w' := put4 W (w.heap.size + 1) (.int .i64 3) (.int .i64 0) (.string (⟨#[]⟩ : ByteArray)) (.slice A3 (listC [numC 1, textC lab, rowsC rws, listC (kds.map kidC)]).f3.length c3)) rfl rfl (by unfold put4 listC; go_simp) ?_
        refine wpAny_done (by kernel_rfl) ?_ _
        try simp only [List.getElem_toArray, List.getElem_cons_succ, List.getElem_cons_zero]
        go_frame
        have hgf := four_put HGB.out (.int .i64 3) (.int .i64 0) (.string (⟨#[]⟩ : ByteArray)) (.slice A3 (listC [numC 1, textC lab, rowsC rws, listC (kds.map kidC)]).f3.length c3)
        have hrf := rC_put HR3.out (g := w.heap.size + 1) (b0 := w.heap.size) (by have := HS2.out; omega) (by have := HS2.out; omega) (.int .i64 3) (.int .i64 0) (.string (⟨#[]⟩ : ByteArray)) (.slice A3 (listC [numC 1, textC lab, rowsC rws, listC (kds.map kidC)]).f3.length c3)
        have hbf := put4_below' HBW.out (g := w.heap.size + 1) (by omega) (.int .i64 3) (.int .i64 0) (.string (⟨#[]⟩ : ByteArray)) (.slice A3 (listC [numC 1, textC lab, rowsC rws, listC (kds.map kidC)]).f3.length c3)
        have HGF := Lib.hid (show (put4 W (w.heap.size + 1) (.int .i64 3) (.int .i64 0) (.string (⟨#[]⟩ : ByteArray)) (.slice A3 (listC [numC 1, textC lab, rowsC rws, listC (kds.map kidC)]).f3.length c3)).heap[w.heap.size + 1]? = _ from hgf)
        have HRF := Lib.hid hrf
        have HBF := Lib.hid hbf
        clear hgf hrf hbf z0 z1 z2 z3 f0 f1 f2 f3 HGB HBW HR3
        generalize put4 W (w.heap.size + 1) (.int .i64 3) (.int .i64 0) (.string (⟨#[]⟩ : ByteArray)) (.slice A3 (listC [numC 1, textC lab, rowsC rws, listC (kds.map kidC)]).f3.length c3) = WF at *
        go_wp2_with fail
        refine bodyPost_ret (results_cell_row rfl _ _ (w.heap.size + 1) 42 #[.int .i64 3, .int .i64 0, .string (⟨#[]⟩ : ByteArray), .slice A3 (listC [numC 1, textC lab, rowsC rws, listC (kds.map kidC)]).f3.length c3] (0, 0) _ rfl HGF.out Tryd.underlying42 rfl (by kernel_rfl)) rfl ?_
        exact ⟨_, rfl, ⟨_, rfl, HRF.out⟩, HBF.out⟩
end Go.Proofs.YtgjlchcfdbmmlaaDoor.PObjectTakes
namespace Go.Proofs.YtgjlchcfdbmmlaaDoor.PObjectTakes
open Go.RowKit Go.Proofs.YtgjlchcfdbmmlaaDoor.Ord Go.Proofs.YtgjlchcfdbmmlaaDoor.Obj Go.Proofs.YtgjlchcfdbmmlaaDoorW.PrintWords Go.Proofs.YtgjlchcfdbmmlaaDoorW.PrintLast Go.Proofs.YtgjlchcfdbmmlaaDoorW.PrintMore
attribute [local irreducible] OpGives
attribute [local go_sem] rdl_const rdl_func rdl_global rdl_nil rdl_cons

def commitC (o : Ob) : S42 := listC [numC 2, listC (o.parents.map textC), numC o.stamp, textC o.note, textC o.root]
set_option maxHeartbeats 16000000 in
set_option maxRecDepth 100000 in
theorem ccell_calls (o : Ob) (Ar : Option Addr) (cr : Nat) (Ak : Option Addr) (ck : Nat) (Ap : Option Addr) (cp : Nat) (w : World) (hO : ObAt w o Ar cr Ak ck Ap cp) (hpl : o.parents.length ≤ 1000000) :
    Calls Tryd.prog 109 #[.agg (obV o Ar cr Ak ck Ap cp)] w (CellPostR w.heap.size (commitC o) w) := by
  obtain ⟨knd, lab, rws, kds, prs, stp, nte, rot⟩ := o
  unfold obV commitC
  simp only at hO hpl ⊢
  have hOp := hO.p
  simp only at hOp
  obtain ⟨W1, hW1⟩ : ∃ W1, W1 = w.alloc (.cells #[.int .i64 knd, .string lab, .slice Ar rws.length cr, .slice Ak kds.length ck, .slice Ap prs.length cp, .int .i64 stp, .string nte, .string rot] 87) := ⟨_, rfl⟩
  have hn1 : Below w.heap.size w W1 := by rw [hW1]; exact (Below.refl _ _).alloc (Nat.le_refl _) _
  have hg1 : W1.heap[w.heap.size]? = some (.cells #[.int .i64 knd, .string lab, .slice Ar rws.length cr, .slice Ak kds.length ck, .slice Ap prs.length cp, .int .i64 stp, .string nte, .string rot] 87 (0, 0)) := by rw [hW1]; exact alloc_lastV _ _
  have hs1 : W1.heap.size = w.heap.size + 1 := by rw [hW1]; simp
  obtain ⟨W2, hW2⟩ : ∃ W2, W2 = W1.alloc (.cells #[.int .i64 0, .int .i64 0, .string (⟨#[]⟩ : ByteArray), .slice none 0 0] 42) := ⟨_, rfl⟩
  have hn2 : Below W1.heap.size W1 W2 := by rw [hW2]; exact (Below.refl _ _).alloc (Nat.le_refl _) _
  have hg2 : W2.heap[w.heap.size + 1]? = some (.cells #[.int .i64 0, .int .i64 0, .string (⟨#[]⟩ : ByteArray), .slice none 0 0] 42 (0, 0)) := by rw [hW2, ← hs1]; exact alloc_lastV _ _
  have hs2 : W2.heap.size = w.heap.size + 2 := by rw [hW2]; simp [hs1]
  have hgn := (hn2.block _ (Array.getElem?_eq_some_iff.1 hg1).1).trans hg1
  have hb2 : Below w.heap.size w W2 := hn1.trans (hn2.mono hn1.size)
  obtain ⟨⟨b0, b1, b2, b3⟩, b4, b5, b6, b7⟩ := box8 hgn
  have HP := Lib.hid (Kd.C_below hOp hb2)
  have HGN := Lib.hid hgn
  have HG2 := Lib.hid hg2
  have HB2 := Lib.hid hb2
  have HS2 := Lib.hid hs2
  rw [hW2, hW1] at b0 b1 b2 b3 b4 b5 b6 b7
  rw [hW1] at hW2
  have HW2 := Lib.hid hW2
  clear hW1 hW2 hn1 hg1 hs1 hn2 hg2 hs2 hgn hb2 hO hOp
  go_enter Tryd.func109, Tryd.ntmps109
  go_wp2_with fail
  rw [← HW2.out]
  clear b0 b1 b2 b3 b4 b5 b6 b7
  go_loopw [3, 9] (fun v i wr => ∃ k : Nat, i = .int .i64 (k : Int) ∧ k ≤ prs.length ∧ rC wr W2.heap.size v ((prs.take k).map textC) ∧ Below W2.heap.size W2 wr) (fun _ i _ => prs.length - (intOf i).toNat)
  case atStart => exact ⟨0, rfl, Nat.zero_le _, Kd.R_nil _ _ _ _ _, Below.refl _ _⟩
  case round =>
    obtain ⟨i, rfl, hi, hrow, hbe⟩ := hrel
    have HROW := Lib.hid hrow
    have HBE := Lib.hid hbe
    by_cases hil : i < prs.length
    · obtain ⟨x, hx⟩ : ∃ x, prs[i]? = some x := ⟨_, List.getElem?_eq_getElem hil⟩
      obtain ⟨ad, rfl, c0, hbk⟩ := str_at (Kd.C_below HP.out hbe) hx
      have HX := Lib.hid hx
      have hlen : ((prs.take i).map textC).length ≤ 1000000 := by rw [List.length_map, List.length_take]; omega
      have HLEN := Lib.hid hlen
      clear hx hlen hrow hbe
      go_wp2_with fail
      clear c0 hbk
      refine (text_R x 0 wr).mono ?_
      rintro e W4 ⟨rfl, hb4⟩
      obtain ⟨W5, hW5⟩ : ∃ W5, W5 = W4.alloc (.cells #[.int .i64 2, .int .i64 0, .string x, .slice none 0 0] 42) := ⟨_, rfl⟩
      have hl5 : litC W4.heap.size [textC x] (.slice (some ⟨W4.heap.size, 0, none⟩) 1 1) W5 := by rw [hW5]; exact litC_of (repsM_1 (text_F x _ _)) (Nat.le_refl _)
      have hb5 : Below W4.heap.size W4 W5 := by rw [hW5]; exact (Below.refl _ _).alloc (Nat.le_refl _) _
      have hbw : Below wr.heap.size wr W5 := hb4.trans (hb5.mono hb4.size)
      have hrW := Kd.R_below HROW.out hbw
      obtain ⟨v8, W8, hr8, hg8, hR8⟩ := append_lit (b0 := W2.heap.size) (lo := W4.heap.size) hrW (fun k hk => Nat.lt_of_lt_of_le (rC_own HROW.out k hk) hb4.size) (Nat.le_trans HBE.out.size hb4.size) hl5 HLEN.out 40
      have hB8 := grown_below hrW hg8 (HBE.out.trans (hbw.mono HBE.out.size)) (Nat.le_trans HBE.out.size hbw.size)
      have hR8' : rC W8 W2.heap.size v8 ((prs.take (i + 1)).map textC) := by
        rw [List.take_add_one, HX.out]; simpa using hR8
      have HR8 := Lib.hid hR8'
      have HB8 := Lib.hid hB8
      rw [hW5] at hr8
      have HAPP := Lib.hid hr8
      clear hg8 hR8 hR8' hB8 hrW hbw hl5 hb5 hW5 hb4 hr8
      go_wp2_with (refine wpList_value rfl (exec_append _ _ 40 rfl HAPP.out) ?_)
      go_roundw
      case rel => exact ⟨i + 1, by go_num, hil, HR8.out, HB8.out⟩
      case measure => simp [intOf]; omega
    · have hie : i = prs.length := by omega
      rw [hie, List.take_length] at hrow
      have HROW2 := Lib.hid hrow
      have hcl : ∀ W, Below wr.heap.size wr W → (W.cell? ⟨w.heap.size, 5, none⟩ = some (.int .i64 stp) ∧ W.cell? ⟨w.heap.size, 6, none⟩ = some (.string nte) ∧ W.cell? ⟨w.heap.size, 7, none⟩ = some (.string rot)) ∧ W.heap[w.heap.size + 1]? = some (.cells #[.int .i64 0, .int .i64 0, .string (⟨#[]⟩ : ByteArray), .slice none 0 0] 42 (0, 0)) ∧ rC W W2.heap.size u3 (prs.map textC) ∧ W2.heap.size ≤ W.heap.size := fun W hW => by
        have h2 : Below W2.heap.size W2 W := HBE.out.trans (hW.mono HBE.out.size)
        obtain ⟨_, _, b5, b6, b7⟩ := box8 ((h2.block _ (Array.getElem?_eq_some_iff.1 HGN.out).1).trans HGN.out)
        exact ⟨⟨b5, b6, b7⟩, (h2.block _ (Array.getElem?_eq_some_iff.1 HG2.out).1).trans HG2.out, Kd.R_below HROW2.out hW, h2.size⟩
      have HCL := Lib.hid hcl
      have hkml : (prs.map textC).length ≤ 1000000 := by rw [List.length_map]; exact hpl
      clear hrow hie hbe hcl
      go_wp2_with fail
      refine' wp_region_factsM (S := (fun _ W => Below wr.heap.size wr W)) (fun _ W W' => Below W.heap.size W W') [cellF W2.heap.size (numC 2), eqM _, cellF W2.heap.size (listC (prs.map textC)), eqM _, eqM (.int .i64 stp), cellF W2.heap.size (numC stp), eqM _, eqM (.string nte), cellF W2.heap.size (textC nte), eqM _, eqM (.string rot), cellF W2.heap.size (textC rot), litC W2.heap.size [numC 2, listC (prs.map textC), numC stp, textC nte, textC rot], cellF W2.heap.size (listC [numC 2, listC (prs.map textC), numC stp, textC nte, textC rot])] (by kernel_rfl) (by kernel_rfl) ?hst ?h0 (Ord.stepsM_cons ?s0 (Ord.stepsM_cons ?s1 (Ord.stepsM_cons ?s2 (Ord.stepsM_cons ?s3 (Ord.stepsM_cons ?s4 (Ord.stepsM_cons ?s5 (Ord.stepsM_cons ?s6 (Ord.stepsM_cons ?s7 (Ord.stepsM_cons ?s8 (Ord.stepsM_cons ?s9 (Ord.stepsM_cons ?s10 (Ord.stepsM_cons ?s11 (Ord.stepsM_cons ?s12 (Ord.stepsM_cons ?s13 (Ord.stepsM_nil))))))))))))))) ?fin
      case s0 =>
        intro g W L hL hSW hd
        try simp only [Nat.zero_add, Nat.reduceAdd] at hd ⊢
        with_reducible refine OpGives.pre_reads [] 33 ?_ ?_ ?_
        · rfl
        · kernel_rfl
        simp only [List.map_cons, List.map_nil]
        refine OpGives.call (f := 60) (args := #[.int .i64 2]) (w' := W) (by go_simp) ((num_R 2 0 W).mono fun e W' ⟨he, hb⟩ => ⟨_, he, hb, num_F _ _ _, hSW.trans (hb.mono hSW.size)⟩)
      case s1 =>
        intro g W L hL hSW hd
        try simp only [Nat.zero_add, Nat.reduceAdd] at hd ⊢
        with_reducible refine OpGives.pre_reads [] 33 ?_ ?_ ?_
        · rfl
        · kernel_rfl
        simp only [List.map_cons, List.map_nil]
        refine OpGives.val (w' := W) ?_ ⟨Below.refl _ _, rfl, hSW⟩
        go_simp
        try with_reducible rfl
      case s2 =>
        intro g W L hL hSW hd
        try simp only [Nat.zero_add, Nat.reduceAdd] at hd ⊢
        have h1 : g 1 = _ := hd 1 (by decide) (by kernel_rfl)
        with_reducible refine OpGives.pre_reads [(20, 1)] 33 ?_ ?_ ?_
        · rfl
        · kernel_rfl
        simp only [List.map_cons, List.map_nil]
        rw [h1]; refine OpGives.call (f := 62) (args := #[u3]) (w' := W) (by go_simp) ((List_own (HCL.out W hSW).2.2.1 hkml (HCL.out W hSW).2.2.2).mono fun e W' ⟨u, he, hf, hb⟩ => ⟨u, he, hb, hf, hSW.trans (hb.mono hSW.size)⟩)
      case s3 =>
        intro g W L hL hSW hd
        try simp only [Nat.zero_add, Nat.reduceAdd] at hd ⊢
        with_reducible refine OpGives.pre_reads [] 33 ?_ ?_ ?_
        · rfl
        · kernel_rfl
        simp only [List.map_cons, List.map_nil]
        refine OpGives.val (w' := W) ?_ ⟨Below.refl _ _, rfl, hSW⟩
        go_simp
        try with_reducible rfl
      case s4 =>
        intro g W L hL hSW hd
        try simp only [Nat.zero_add, Nat.reduceAdd] at hd ⊢
        have h3 : g 3 = _ := hd 3 (by decide) (by kernel_rfl)
        with_reducible refine OpGives.pre_reads [(22, 3)] 33 ?_ ?_ ?_
        · rfl
        · kernel_rfl
        simp only [List.map_cons, List.map_nil]
        obtain ⟨⟨z1, z2, z3⟩, _⟩ := HCL.out W hSW; refine OpGives.val (v := .int .i64 stp) (w' := W) ?_ ⟨Below.refl _ _, rfl, hSW⟩; go_simp
      case s5 =>
        intro g W L hL hSW hd
        try simp only [Nat.zero_add, Nat.reduceAdd] at hd ⊢
        have h4 : g 4 = _ := hd 4 (by decide) (by kernel_rfl)
        with_reducible refine OpGives.pre_reads [(23, 4)] 33 ?_ ?_ ?_
        · rfl
        · kernel_rfl
        simp only [List.map_cons, List.map_nil]
        rw [h4]; refine OpGives.call (f := 60) (args := #[.int .i64 stp]) (w' := W) (by go_simp) ((num_R stp 0 W).mono fun e W' ⟨he, hb⟩ => ⟨_, he, hb, num_F _ _ _, hSW.trans (hb.mono hSW.size)⟩)
      case s6 =>
        intro g W L hL hSW hd
        try simp only [Nat.zero_add, Nat.reduceAdd] at hd ⊢
        with_reducible refine OpGives.pre_reads [] 33 ?_ ?_ ?_
        · rfl
        · kernel_rfl
        simp only [List.map_cons, List.map_nil]
        refine OpGives.val (w' := W) ?_ ⟨Below.refl _ _, rfl, hSW⟩
        go_simp
        try with_reducible rfl
      case s7 =>
        intro g W L hL hSW hd
        try simp only [Nat.zero_add, Nat.reduceAdd] at hd ⊢
        have h6 : g 6 = _ := hd 6 (by decide) (by kernel_rfl)
        with_reducible refine OpGives.pre_reads [(25, 6)] 33 ?_ ?_ ?_
        · rfl
        · kernel_rfl
        simp only [List.map_cons, List.map_nil]
        obtain ⟨⟨z1, z2, z3⟩, _⟩ := HCL.out W hSW; refine OpGives.val (v := .string nte) (w' := W) ?_ ⟨Below.refl _ _, rfl, hSW⟩; go_simp
      case s8 =>
        intro g W L hL hSW hd
        try simp only [Nat.zero_add, Nat.reduceAdd] at hd ⊢
        have h7 : g 7 = _ := hd 7 (by decide) (by kernel_rfl)
        with_reducible refine OpGives.pre_reads [(26, 7)] 33 ?_ ?_ ?_
        · rfl
        · kernel_rfl
        simp only [List.map_cons, List.map_nil]
        rw [h7]; refine OpGives.call (f := 61) (args := #[.string nte]) (w' := W) (by go_simp) ((text_R nte 0 W).mono fun e W' ⟨he, hb⟩ => ⟨_, he, hb, text_F _ _ _, hSW.trans (hb.mono hSW.size)⟩)
      case s9 =>
        intro g W L hL hSW hd
        try simp only [Nat.zero_add, Nat.reduceAdd] at hd ⊢
        with_reducible refine OpGives.pre_reads [] 33 ?_ ?_ ?_
        · rfl
        · kernel_rfl
        simp only [List.map_cons, List.map_nil]
        refine OpGives.val (w' := W) ?_ ⟨Below.refl _ _, rfl, hSW⟩
        go_simp
        try with_reducible rfl
      case s10 =>
        intro g W L hL hSW hd
        try simp only [Nat.zero_add, Nat.reduceAdd] at hd ⊢
        have h9 : g 9 = _ := hd 9 (by decide) (by kernel_rfl)
        with_reducible refine OpGives.pre_reads [(28, 9)] 33 ?_ ?_ ?_
        · rfl
        · kernel_rfl
        simp only [List.map_cons, List.map_nil]
        obtain ⟨⟨z1, z2, z3⟩, _⟩ := HCL.out W hSW; refine OpGives.val (v := .string rot) (w' := W) ?_ ⟨Below.refl _ _, rfl, hSW⟩; go_simp
      case s11 =>
        intro g W L hL hSW hd
        try simp only [Nat.zero_add, Nat.reduceAdd] at hd ⊢
        have h10 : g 10 = _ := hd 10 (by decide) (by kernel_rfl)
        with_reducible refine OpGives.pre_reads [(29, 10)] 33 ?_ ?_ ?_
        · rfl
        · kernel_rfl
        simp only [List.map_cons, List.map_nil]
        rw [h10]; refine OpGives.call (f := 61) (args := #[.string rot]) (w' := W) (by go_simp) ((text_R rot 0 W).mono fun e W' ⟨he, hb⟩ => ⟨_, he, hb, text_F _ _ _, hSW.trans (hb.mono hSW.size)⟩)
      case s12 =>
        intro g W L hL hSW hd
        try simp only [Nat.zero_add, Nat.reduceAdd] at hd ⊢
        have h0 := hd 0 (by decide) (by kernel_rfl)
        change (cellF W2.heap.size (numC 2)) (g 0) W at h0
        have h2 := hd 2 (by decide) (by kernel_rfl)
        change (cellF W2.heap.size (listC (prs.map textC))) (g 2) W at h2
        have h5 := hd 5 (by decide) (by kernel_rfl)
        change (cellF W2.heap.size (numC stp)) (g 5) W at h5
        have h8 := hd 8 (by decide) (by kernel_rfl)
        change (cellF W2.heap.size (textC nte)) (g 8) W at h8
        have h11 := hd 11 (by decide) (by kernel_rfl)
        change (cellF W2.heap.size (textC rot)) (g 11) W at h11
        with_reducible refine OpGives.pre_reads [(19, 0), (21, 2), (24, 5), (27, 8), (30, 11)] 33 ?_ ?_ ?_
        · rfl
        · kernel_rfl
        simp only [List.map_cons, List.map_nil]
        refine OpGives.val (v := .slice (some ⟨W.heap.size, 0, none⟩) 5 5) (w' := W.alloc (.cells ([g 0, g 2, g 5, g 8, g 11].flatMap fun v => v.cells.toList).toArray 42)) (exec_buildSlice 40 5 _ rfl (lit_run5 h0 h2 h5 h8 h11 _ (by simp [rdl_cons]))) ⟨(Below.refl _ _).alloc (Nat.le_refl _) _, litC_of (repsM_5 h0 h2 h5 h8 h11) (HCL.out W hSW).2.2.2, hSW.alloc hSW.size _⟩
      case s13 =>
        intro g W L hL hSW hd
        try simp only [Nat.zero_add, Nat.reduceAdd] at hd ⊢
        have h12 := hd 12 (by decide) (by kernel_rfl)
        change (litC W2.heap.size [numC 2, listC (prs.map textC), numC stp, textC nte, textC rot]) (g 12) W at h12
        with_reducible refine OpGives.pre_reads [(31, 12)] 33 ?_ ?_ ?_
        · rfl
        · kernel_rfl
        simp only [List.map_cons, List.map_nil]
        refine OpGives.call (f := 62) (args := #[g 12]) (w' := W) (by go_simp) ((List_lit h12 (by simp) (HCL.out W hSW).2.2.2).mono fun e W' ⟨u, he, hf, hb⟩ => ⟨u, he, hb, hf, hSW.trans (hb.mono hSW.size)⟩)
      case hst =>
        refine fun i j v w w' _ h hR => st_of (R := fun W W' => Below W.heap.size W W') ?_ i v w w' h hR
        repeat' first
          | exact trivial
          | with_reducible refine StL.eq ?_
          | refine ⟨fun v w w' h hR => cellF_below h hR, ?_⟩
          | refine ⟨fun v w w' h hR => litC_below h hR, ?_⟩
      case h0 => exact (Below.refl _ _).drew
      case fin =>
        intro v' W L hL hSW hf
        have h10 := hf 13 (Nat.lt_of_lt_of_eq (by decide : 13 < 14) rfl)
        change cellF W2.heap.size (listC [numC 2, listC (prs.map textC), numC stp, textC nte, textC rot]) (v' 13) W at h10
        clear hf
        generalize hF : Ord.pre _ _ v' _ = F
        rw [Ord.pre_lit [some 19, some 20, some 21, some 22, some 23, some 24, some 25, some 26, some 27, some 28, some 29, some 30, some 31, some 32]
          (by kernel_rfl)] at hF
        simp only [Ord.puts, Nat.zero_add, Nat.reduceAdd] at hF
        subst hF
        obtain ⟨v3, e10, hR3⟩ := h10
        obtain ⟨A3, c3, rfl⟩ := R_slice hR3
        rw [e10]
        have hgb := (HCL.out W hSW).2.1
        obtain ⟨⟨z0, z1, z2, z3⟩, f0, f1, f2, f3⟩ := box4 hgb
        have hbw : Below w.heap.size w W := HB2.out.trans ((HBE.out.trans (hSW.mono HBE.out.size)).mono HB2.out.size)
        have HGB := Lib.hid hgb
        have HBW := Lib.hid hbw
        have HR3 := Lib.hid hR3
        clear hgb hbw hR3 hSW e10
        refine any_one (i := 14) (by kernel_rfl) ?_
        refine wpOp_skip (w' := put4 W (w.heap.size + 1) (.int .i64 3) (.int .i64 0) (.string (⟨#[]⟩ : ByteArray)) (.slice A3 (listC [numC 2, listC (prs.map textC), numC stp, textC nte, textC rot]).f3.length c3)) rfl rfl (by unfold put4 listC; go_simp) ?_
        refine wpAny_done (by kernel_rfl) ?_ _
        try simp only [List.getElem_toArray, List.getElem_cons_succ, List.getElem_cons_zero]
        go_frame
        have hgf := four_put HGB.out (.int .i64 3) (.int .i64 0) (.string (⟨#[]⟩ : ByteArray)) (.slice A3 (listC [numC 2, listC (prs.map textC), numC stp, textC nte, textC rot]).f3.length c3)
        have hrf := rC_put HR3.out (g := w.heap.size + 1) (b0 := w.heap.size) (by have := HS2.out; omega) (by have := HS2.out; omega) (.int .i64 3) (.int .i64 0) (.string (⟨#[]⟩ : ByteArray)) (.slice A3 (listC [numC 2, listC (prs.map textC), numC stp, textC nte, textC rot]).f3.length c3)
        have hbf := put4_below' HBW.out (g := w.heap.size + 1) (by omega) (.int .i64 3) (.int .i64 0) (.string (⟨#[]⟩ : ByteArray)) (.slice A3 (listC [numC 2, listC (prs.map textC), numC stp, textC nte, textC rot]).f3.length c3)
        have HGF := Lib.hid (show (put4 W (w.heap.size + 1) (.int .i64 3) (.int .i64 0) (.string (⟨#[]⟩ : ByteArray)) (.slice A3 (listC [numC 2, listC (prs.map textC), numC stp, textC nte, textC rot]).f3.length c3)).heap[w.heap.size + 1]? = _ from hgf)
        have HRF := Lib.hid hrf
        have HBF := Lib.hid hbf
        clear hgf hrf hbf z0 z1 z2 z3 f0 f1 f2 f3 HGB HBW HR3
        generalize put4 W (w.heap.size + 1) (.int .i64 3) (.int .i64 0) (.string (⟨#[]⟩ : ByteArray)) (.slice A3 (listC [numC 2, listC (prs.map textC), numC stp, textC nte, textC rot]).f3.length c3) = WF at *
        go_wp2_with fail
        refine bodyPost_ret (results_cell_row rfl _ _ (w.heap.size + 1) 42 #[.int .i64 3, .int .i64 0, .string (⟨#[]⟩ : ByteArray), .slice A3 (listC [numC 2, listC (prs.map textC), numC stp, textC nte, textC rot]).f3.length c3] (0, 0) _ rfl HGF.out Tryd.underlying42 rfl (by kernel_rfl)) rfl ?_
        exact ⟨_, rfl, ⟨_, rfl, HRF.out⟩, HBF.out⟩
end Go.Proofs.YtgjlchcfdbmmlaaDoor.PObjectTakes
namespace Go.Proofs.YtgjlchcfdbmmlaaDoor.PObjectTakes
open Go.RowKit Go.Proofs.YtgjlchcfdbmmlaaDoor.Ord Go.Proofs.YtgjlchcfdbmmlaaDoor.Obj Go.Proofs.YtgjlchcfdbmmlaaDoorW.PrintWords Go.Proofs.YtgjlchcfdbmmlaaDoorW.PrintLast Go.Proofs.YtgjlchcfdbmmlaaDoorW.PrintMore
attribute [local irreducible] OpGives

/-- Is an object right? -/
def okOb (o : Ob) : Bool := if o.kind = 1 then okNode o else if o.kind = 2 then okCommit o else false
/-- What formed answers. -/
def formV (o : Ob) (a : Array Value) : Value := if okOb o then (if o.kind = 1 then .iface 86 (.agg a) else .iface 87 (.agg a)) else .nilIface
set_option maxHeartbeats 8000000 in
set_option maxRecDepth 100000 in
theorem formed_calls (o : Ob) (Ar : Option Addr) (cr : Nat) (Ak : Option Addr) (ck : Nat) (Ap : Option Addr) (cp : Nat) (w : World) (hO : ObAt w o Ar cr Ak ck Ap cp) (hT : Lib.Utf8Tabs 0 1 w) :
    Calls Tryd.prog 19 #[.agg (obV o Ar cr Ak ck Ap cp)] w fun e w' => e = .returned (formV o (obV o Ar cr Ak ck Ap cp)) ∧ Below w.heap.size w w' := by
  obtain ⟨W1, hW1⟩ : ∃ W1, W1 = w.alloc (.cells (obV o Ar cr Ak ck Ap cp) 27) := ⟨_, rfl⟩
  have hn1 : Below w.heap.size w W1 := by rw [hW1]; exact (Below.refl _ _).alloc (Nat.le_refl _) _
  have hg1 : W1.heap[w.heap.size]? = some (.cells (obV o Ar cr Ak ck Ap cp) 27 (0, 0)) := by rw [hW1]; exact alloc_lastV _ _
  unfold obV at hg1
  obtain ⟨⟨b0, b1, b2, b3⟩, b4, b5, b6, b7⟩ := box8 hg1
  have HNR := Lib.hid (nright_calls o Ar cr Ak ck Ap cp W1 (hO.below hn1) (Utf8Tabs_below hT hn1))
  have HCR := Lib.hid (cright_calls o Ar cr Ak ck Ap cp W1 (hO.below hn1))
  have HN1 := Lib.hid hn1
  unfold formV okOb
  unfold obV at hW1 HNR HCR ⊢
  rw [hW1] at b0 b1 b2 b3 b4 b5 b6 b7
  have HW1 := Lib.hid hW1
  generalize okNode o = rn at HNR ⊢
  generalize okCommit o = rc at HCR ⊢
  clear hW1 hn1 hg1 hO hT
  obtain ⟨knd, lab, rws, kds, prs, stp, nte, rot⟩ := o
  simp only at HNR HCR HW1 b0 b1 b2 b3 b4 b5 b6 b7 ⊢
  by_cases hk1 : knd = 1
  · subst hk1
    simp only [if_true]
    go_enter Tryd.func19, Tryd.ntmps19
    go_wp2_with fail
    rw [← HW1.out]
    refine HNR.out.mono ?_
    rintro e W2 ⟨rfl, hb2⟩
    have HF := Lib.hid (HN1.out.trans (hb2.mono HN1.out.size))
    clear hb2
    cases rn with
    | true =>
      go_wp2_with fail
      go_ret
      exact ⟨rfl, HF.out⟩
    | false =>
      go_wp2_with fail
      go_ret
      exact ⟨rfl, HF.out⟩
  · have hk1' : (knd == 1) = false := by simpa using hk1
    rw [if_neg hk1]
    by_cases hk2 : knd = 2
    · subst hk2
      simp only [if_true]
      clear hk1 hk1'
      go_enter Tryd.func19, Tryd.ntmps19
      go_wp2_with fail
      rw [← HW1.out]
      refine HCR.out.mono ?_
      rintro e W2 ⟨rfl, hb2⟩
      have HF := Lib.hid (HN1.out.trans (hb2.mono HN1.out.size))
      clear hb2
      cases rc with
      | true =>
        go_wp2_with fail
        go_ret
        exact ⟨rfl, HF.out⟩
      | false =>
        go_wp2_with fail
        go_ret
        exact ⟨rfl, HF.out⟩
    · have hk2' : (knd == 2) = false := by simpa using hk2
      rw [if_neg hk2]
      go_enter Tryd.func19, Tryd.ntmps19
      go_wp2_with fail
      rw [← HW1.out]
      go_ret
      exact ⟨rfl, HN1.out⟩
end Go.Proofs.YtgjlchcfdbmmlaaDoor.PObjectTakes
namespace Go.Proofs.YtgjlchcfdbmmlaaDoor.PObjectTakes
open Go.RowKit Go.Proofs.YtgjlchcfdbmmlaaDoor.Ord Go.Proofs.YtgjlchcfdbmmlaaDoor.Obj Go.Proofs.YtgjlchcfdbmmlaaDoorW.PrintWords Go.Proofs.YtgjlchcfdbmmlaaDoorW.PrintLast Go.Proofs.YtgjlchcfdbmmlaaDoorW.PrintMore

set_option maxHeartbeats 8000000 in
set_option maxRecDepth 100000 in
theorem rnode_calls (o : Ob) (Ar : Option Addr) (cr : Nat) (Ak : Option Addr) (ck : Nat) (Ap : Option Addr) (cp : Nat) (w : World) (h : ObAt w o Ar cr Ak ck Ap cp) :
    Calls Tryd.prog 49 #[.agg (obV o Ar cr Ak ck Ap cp)] w fun e w' => e = .returned (.bool (okNode o)) ∧ Below w.heap.size w w' := by
  obtain ⟨W1, hW1⟩ : ∃ W1, W1 = w.alloc (.cells (obV o Ar cr Ak ck Ap cp) 27) := ⟨_, rfl⟩
  have hn1 : Below w.heap.size w W1 := by rw [hW1]; exact (Below.refl _ _).alloc (Nat.le_refl _) _
  have hg1 : W1.heap[w.heap.size]? = some (.cells (obV o Ar cr Ak ck Ap cp) 27 (0, 0)) := by rw [hW1]; exact alloc_lastV _ _
  have HO := Lib.hid (h.below hn1)
  have HN1 := Lib.hid hn1
  have HG := Lib.hid hg1
  have HS := Lib.hid (rright_calls o.rows Ar cr W1 (h.below hn1).r h.lr)
  have hmk := h.k.2.1
  clear h hn1
  obtain ⟨RV, hRV⟩ : ∃ RV, RV = okNode o := ⟨_, rfl⟩
  rw [← hRV]
  obtain ⟨knd, lab, rws, kds, prs, stp, nte, rot⟩ := o
  unfold okNode at hRV
  unfold obV at hW1 hg1 HG ⊢
  simp only at hRV hW1 hg1 HG HS hmk ⊢
  have HRV := Lib.hid hRV
  obtain ⟨⟨b0, b1, b2, b3⟩, b4, b5, b6, b7⟩ := box8 hg1
  rw [hW1] at b0 b1 b2 b3 b4 b5 b6 b7
  have HW1 := Lib.hid hW1
  clear hW1 hg1 hRV
  by_cases h5 : lab.size ≤ 24
  case neg =>
    have h5' : (24 : Int) < (lab.size : Int) := by omega
    have HF := Lib.hid (show RV = false by rw [HRV.out, decide_eq_false h5]; simp)
    go_enter Tryd.func49, Tryd.ntmps49
    go_wp2_with fail
    go_ret
    exact ⟨by rw [HF.out]; rfl, (Below.refl _ _).alloc (Nat.le_refl _) _⟩
  have h5' : ¬ (24 : Int) < (lab.size : Int) := by omega
  go_enter Tryd.func49, Tryd.ntmps49
  go_wp2_with fail
  rw [← HW1.out]
  clear b0 b1 b2 b3 b4 b5 b6 b7
  refine HS.out.mono ?_
  rintro e W2 ⟨rfl, hb2⟩
  have HB2 := Lib.hid (HN1.out.trans (hb2.mono HN1.out.size))
  have HO2 := Lib.hid (HO.out.below hb2)
  have HG2 := Lib.hid ((hb2.block _ (Array.getElem?_eq_some_iff.1 HG.out).1).trans HG.out)
  obtain ⟨⟨b0, b1, b2, b3⟩, b4, b5, b6, b7⟩ := box8 HG2.out
  clear hb2
  cases hrw : okRows rws with
  | false =>
    have HF := Lib.hid (show RV = false by rw [HRV.out, hrw]; simp)
    go_wp2_with fail
    go_ret
    exact ⟨by rw [HF.out]; rfl, HB2.out⟩
  | true =>
    by_cases h1 : prs.length = 0
    case neg =>
      have h1' : (0 : Int) < (prs.length : Int) := by omega
      have HF := Lib.hid (show RV = false by rw [HRV.out, decide_eq_false h1]; rfl)
      go_wp2_with fail
      go_ret
      exact ⟨by rw [HF.out]; rfl, HB2.out⟩
    by_cases h2 : stp = 0
    case neg =>
      have h2' : (stp == 0) = false := by simpa using h2
      have HF := Lib.hid (show RV = false by rw [HRV.out, decide_eq_false h2]; simp)
      go_wp2_with fail
      go_ret
      exact ⟨by rw [HF.out]; rfl, HB2.out⟩
    subst h2
    by_cases h3 : nte.size = 0
    case neg =>
      have h3' := full_str h3
      have HF := Lib.hid (show RV = false by rw [HRV.out, decide_eq_false h3]; simp)
      go_wp2_with fail
      go_ret
      exact ⟨by rw [HF.out]; rfl, HB2.out⟩
    obtain rfl := empty_str h3
    by_cases h4 : rot.size = 0
    case neg =>
      have h4' := full_str h4
      have HF := Lib.hid (show RV = false by rw [HRV.out, decide_eq_false h4]; simp)
      go_wp2_with fail
      go_ret
      exact ⟨by rw [HF.out]; rfl, HB2.out⟩
    have HR := Lib.hid (show RV = kidsFrom (prevKid kds 0) (kds.drop 0) by rw [HRV.out, decide_eq_true h1, decide_eq_true rfl, decide_eq_true h3, decide_eq_true h4, decide_eq_true h5, hrw]; rfl)
    obtain rfl := empty_str h4
    clear h3 h4 HRV hrw
    go_wp2_with fail
    clear b0 b1 b2 b3 b4 b5 b6 b7
    go_loopw [3] (fun v wr => ∃ i : Nat, v = .int .i64 (i : Int) ∧ i ≤ kds.length ∧ Hid (RV = kidsFrom (prevKid kds i) (kds.drop i)) ∧ Below W2.heap.size W2 wr) (fun v _ => kds.length - (intOf v).toNat)
    case atStart => exact ⟨0, rfl, Nat.zero_le _, HR, Below.refl _ _⟩
    case round =>
      obtain ⟨i, rfl, hi, hr, hbe⟩ := hrel
      have b3 := (box8 ((hbe.block _ (Array.getElem?_eq_some_iff.1 HG2.out).1).trans HG2.out)).1.2.2.2
      have HBE := Lib.hid hbe
      have HBW := Lib.hid (HB2.out.trans (hbe.mono HB2.out.size))
      have HK := Lib.hid (HO2.out.below hbe).k
      clear hbe HR
      by_cases hil : i < kds.length
      case neg =>
        have hr2 := hr.out
        rw [show i = kds.length by omega, kidsFrom_end] at hr2
        have HF := Lib.hid hr2
        clear hr2 hr
        go_wp2_with fail
        go_ret
        exact ⟨by rw [HF.out]; rfl, HBW.out⟩
      obtain ⟨x, hx⟩ : ∃ x, kds[i]? = some x := ⟨_, List.getElem?_eq_getElem hil⟩
      obtain ⟨ad, rfl, c0, c1, hbk⟩ := kid_at HK.out hx
      have hr2 := hr.out
      rw [kidsFrom_step hx] at hr2
      have HR2 := Lib.hid hr2
      clear hr2 hr hx hbk
      have hix : (i : Int) < (kds.length : Int) := by omega
      go_wp2_with fail
      by_cases h32 : x.f1.size = 32
      case neg =>
        have h32n : ¬ (x.f1.size : Int) = 32 := by omega
        have h32' : ((x.f1.size : Int) != 32) = true := by simpa using h32n
        have HF := Lib.hid (show RV = false by rw [HR2.out, decide_eq_false h32]; rfl)
        go_quiet (fail)
        go_wp2_with fail
        go_ret
        exact ⟨by rw [HF.out]; rfl, pw_below_drewN HBW.out _⟩
      have h32' : ((x.f1.size : Int) == 32) = true := by rw [h32]; rfl
      have HR3 := Lib.hid (show RV = (kidNext (prevKid kds i) x && kidsFrom (prevKid kds (i + 1)) (kds.drop (i + 1))) by rw [HR2.out, decide_eq_true h32]; rfl)
      rcases Nat.eq_zero_or_pos i with hi0 | hi0
      · have HR5 := Lib.hid (show RV = kidsFrom (prevKid kds (i + 1)) (kds.drop (i + 1)) by rw [HR3.out, hi0]; rfl)
        have hgt : decide (0 < i) = false := decide_eq_false (by omega)
        clear hi0
        go_quiet (fail)
        go_wp2_with fail
        go_roundw
        case rel => exact ⟨i + 1, by go_num, hil, HR5, pw_below_drewN HBE.out _⟩
        case measure => simp [intOf]; omega
      obtain ⟨k, rfl⟩ : ∃ k, i = k + 1 := ⟨i - 1, by omega⟩
      obtain ⟨q, hq⟩ : ∃ q, kds[k]? = some q := ⟨_, List.getElem?_eq_getElem (by omega)⟩
      obtain ⟨ad', e', d0, d1, hbk'⟩ := kid_at HK.out hq
      cases e'
      have HR4 := Lib.hid (show RV = (decide (q.f0 < x.f0) && kidsFrom (prevKid kds (k + 1 + 1)) (kds.drop (k + 1 + 1))) by rw [HR3.out]; unfold prevKid; rw [if_neg (by omega), show k + 1 - 1 = k from rfl, hq]; rfl)
      clear hq hbk'
      have hgt : decide ((0 : Int) < (k : Int) + 1) = true := decide_eq_true (by omega)
      have hlk : (k : Int) < (kds.length : Int) := by omega
      have hwk : IntKind.i64.wrap (k : Int) = (k : Int) := by rw [IntKind.wrap_i64]; omega
      by_cases hlt : q.f0 < x.f0
      · have hlt' : ¬ x.f0 ≤ q.f0 := by omega
        have HR5 := Lib.hid (show RV = kidsFrom (prevKid kds (k + 1 + 1)) (kds.drop (k + 1 + 1)) by rw [HR4.out, decide_eq_true hlt]; rfl)
        go_quiet (fail)
        go_wp2_with fail
        go_roundw
        case rel => exact ⟨k + 1 + 1, by go_num, hil, HR5, pw_below_drewN HBE.out _⟩
        case measure => simp [intOf]; omega
      · have hlt' : x.f0 ≤ q.f0 := by omega
        have HF := Lib.hid (show RV = false by rw [HR4.out, decide_eq_false hlt]; rfl)
        go_quiet (fail)
        go_wp2_with fail
        go_ret
        exact ⟨by rw [HF.out]; rfl, pw_below_drewN HBW.out _⟩
set_option maxHeartbeats 8000000 in
set_option maxRecDepth 100000 in
theorem rcommit_calls (o : Ob) (Ar : Option Addr) (cr : Nat) (Ak : Option Addr) (ck : Nat) (Ap : Option Addr) (cp : Nat) (w : World) (h : ObAt w o Ar cr Ak ck Ap cp) :
    Calls Tryd.prog 50 #[.agg (obV o Ar cr Ak ck Ap cp)] w fun e w' => e = .returned (.bool (okCommit o)) ∧ Below w.heap.size w w' := by
  obtain ⟨W1, hW1⟩ : ∃ W1, W1 = w.alloc (.cells (obV o Ar cr Ak ck Ap cp) 27) := ⟨_, rfl⟩
  have hn1 : Below w.heap.size w W1 := by rw [hW1]; exact (Below.refl _ _).alloc (Nat.le_refl _) _
  have hg1 : W1.heap[w.heap.size]? = some (.cells (obV o Ar cr Ak ck Ap cp) 27 (0, 0)) := by rw [hW1]; exact alloc_lastV _ _
  have HO := Lib.hid (h.below hn1)
  have HN1 := Lib.hid hn1
  have HG := Lib.hid hg1
  clear h hn1
  obtain ⟨RV, hRV⟩ : ∃ RV, RV = okCommit o := ⟨_, rfl⟩
  rw [← hRV]
  obtain ⟨knd, lab, rws, kds, prs, stp, nte, rot⟩ := o
  unfold okCommit at hRV
  unfold obV at hW1 hg1 HG ⊢
  simp only at hRV hW1 hg1 HG ⊢
  generalize rws.length = rl at hRV hW1 hg1 HG ⊢
  generalize kds.length = kl at hRV hW1 hg1 HG ⊢
  have HRV := Lib.hid hRV
  obtain ⟨⟨b0, b1, b2, b3⟩, b4, b5, b6, b7⟩ := box8 hg1
  rw [hW1] at b0 b1 b2 b3 b4 b5 b6 b7
  have HW1 := Lib.hid hW1
  clear hW1 hg1 hRV
  by_cases h1 : lab.size = 0
  case neg =>
    have h1' := full_str h1
    have HF := Lib.hid (show RV = false by rw [HRV.out, decide_eq_false h1]; simp)
    go_enter Tryd.func50, Tryd.ntmps50
    go_wp2_with fail
    go_ret
    exact ⟨by rw [HF.out]; rfl, (Below.refl _ _).alloc (Nat.le_refl _) _⟩
  obtain rfl := empty_str h1
  by_cases h2 : rl = 0
  case neg =>
    have h2' : (0 : Int) < (rl : Int) := by omega
    have HF := Lib.hid (show RV = false by rw [HRV.out, decide_eq_false h2]; simp)
    go_enter Tryd.func50, Tryd.ntmps50
    go_wp2_with fail
    go_ret
    exact ⟨by rw [HF.out]; rfl, (Below.refl _ _).alloc (Nat.le_refl _) _⟩
  subst h2
  by_cases h3 : kl = 0
  case neg =>
    have h3' : (0 : Int) < (kl : Int) := by omega
    have HF := Lib.hid (show RV = false by rw [HRV.out, decide_eq_false h3]; simp)
    go_enter Tryd.func50, Tryd.ntmps50
    go_wp2_with fail
    go_ret
    exact ⟨by rw [HF.out]; rfl, (Below.refl _ _).alloc (Nat.le_refl _) _⟩
  subst h3
  by_cases h4 : 0 ≤ stp
  case neg =>
    have h4' : stp < 0 := by omega
    have HF := Lib.hid (show RV = false by rw [HRV.out, decide_eq_false h4]; simp)
    go_enter Tryd.func50, Tryd.ntmps50
    go_wp2_with fail
    go_ret
    exact ⟨by rw [HF.out]; rfl, (Below.refl _ _).alloc (Nat.le_refl _) _⟩
  have h4' : ¬ stp < 0 := by omega
  by_cases h5 : stp ≤ 1099511627776
  case neg =>
    have h5' : 1099511627776 < stp := by omega
    have HF := Lib.hid (show RV = false by rw [HRV.out, decide_eq_false h5]; simp)
    go_enter Tryd.func50, Tryd.ntmps50
    go_wp2_with fail
    go_ret
    exact ⟨by rw [HF.out]; rfl, (Below.refl _ _).alloc (Nat.le_refl _) _⟩
  have h5' : ¬ 1099511627776 < stp := by omega
  by_cases h6 : nte.size ≤ 40
  case neg =>
    have h6' : (40 : Int) < (nte.size : Int) := by omega
    have HF := Lib.hid (show RV = false by rw [HRV.out, decide_eq_false h6]; simp)
    go_enter Tryd.func50, Tryd.ntmps50
    go_wp2_with fail
    go_ret
    exact ⟨by rw [HF.out]; rfl, (Below.refl _ _).alloc (Nat.le_refl _) _⟩
  have h6' : ¬ (40 : Int) < (nte.size : Int) := by omega
  by_cases h7 : rot.size = 32
  case neg =>
    have h7' : ¬ (rot.size : Int) = 32 := by omega
    have HF := Lib.hid (show RV = false by rw [HRV.out, decide_eq_false h7]; simp)
    go_enter Tryd.func50, Tryd.ntmps50
    go_wp2_with fail
    go_ret
    exact ⟨by rw [HF.out]; rfl, (Below.refl _ _).alloc (Nat.le_refl _) _⟩
  have h7' : (rot.size : Int) = 32 := by omega
  by_cases h8 : prs.length ≤ 2
  case neg =>
    have h8' : (2 : Int) < (prs.length : Int) := by omega
    have HF := Lib.hid (show RV = false by rw [HRV.out, decide_eq_false h8]; simp)
    go_enter Tryd.func50, Tryd.ntmps50
    go_wp2_with fail
    go_ret
    exact ⟨by rw [HF.out]; rfl, (Below.refl _ _).alloc (Nat.le_refl _) _⟩
  have h8' : ¬ (2 : Int) < (prs.length : Int) := by omega
  have HR := Lib.hid (show RV = (!(prs.any wideB) && (decide (prs.length < 2) || !((prs.getD 0 ByteArray.empty).toList == (prs.getD 1 ByteArray.empty).toList))) by
    rw [HRV.out, decide_eq_true h1, decide_eq_true rfl, decide_eq_true h4, decide_eq_true h5, decide_eq_true h6, decide_eq_true h7, decide_eq_true h8]; rfl)
  clear HRV h1 h4 h5 h6 h7 h8
  go_enter Tryd.func50, Tryd.ntmps50
  go_wp2_with fail
  rw [← HW1.out]
  clear b0 b1 b2 b3 b4 b5 b6 b7
  go_loopw [3] (fun v wr => ∃ i : Nat, v = .int .i64 (i : Int) ∧ i ≤ prs.length ∧ Hid ((prs.take i).any wideB = false ∧ (2 ≤ i → ((prs.getD 0 ByteArray.empty).toList == (prs.getD 1 ByteArray.empty).toList) = false)) ∧ Below W1.heap.size W1 wr) (fun v _ => prs.length - (intOf v).toNat)
  case atStart => exact ⟨0, rfl, Nat.zero_le _, Lib.hid ⟨rfl, fun h => by omega⟩, Below.refl _ _⟩
  case round =>
    obtain ⟨i, rfl, hi, HT, hbe⟩ := hrel
    have b4 := (box8 ((hbe.block _ (Array.getElem?_eq_some_iff.1 HG.out).1).trans HG.out)).2.1
    have HBE := Lib.hid hbe
    have HBW := Lib.hid (HN1.out.trans (hbe.mono HN1.out.size))
    have HP := Lib.hid (HO.out.below hbe).p
    clear hbe
    by_cases hil : i < prs.length
    case neg =>
      have HF := Lib.hid (show RV = true by
        have ht := HT.out
        rw [show i = prs.length by omega, List.take_length] at ht
        rw [HR.out, ht.1]
        by_cases h2 : prs.length < 2
        · rw [decide_eq_true h2]; rfl
        · rw [ht.2 (by omega)]; simp)
      go_wp2_with fail
      go_ret
      exact ⟨by rw [HF.out]; rfl, HBW.out⟩
    obtain ⟨x, hx⟩ : ∃ x, prs[i]? = some x := ⟨_, List.getElem?_eq_getElem hil⟩
    obtain ⟨ad, rfl, c0, hbk⟩ := str_at HP.out hx
    have HX := Lib.hid hx
    have hix : (i : Int) < (prs.length : Int) := by omega
    clear hx hbk
    go_wp2_with fail
    by_cases h32 : x.size = 32
    case neg =>
      have h32n : ¬ (x.size : Int) = 32 := by omega
      have h32' : ((x.size : Int) != 32) = true := by simpa using h32n
      have HF := Lib.hid (show RV = false by
        have : prs.any wideB = true := List.any_eq_true.2 ⟨x, List.mem_of_getElem? HX.out, by unfold wideB; simpa using h32⟩
        rw [HR.out, this]; rfl)
      go_quiet (fail)
      go_wp2_with fail
      go_ret
      exact ⟨by rw [HF.out]; rfl, pw_below_drewN HBW.out _⟩
    have h32' : ((x.size : Int) == 32) = true := by rw [h32]; rfl
    have HA := Lib.hid (show (prs.take (i + 1)).any wideB = false by
      rw [List.take_add_one, HX.out, Option.toList_some, List.any_append, HT.out.1, Bool.false_or]
      simp [wideB, h32])
    rcases Nat.eq_zero_or_pos i with hi0 | hi0
    · have HA2 := Lib.hid (show (prs.take (i + 1)).any wideB = false ∧ (2 ≤ i + 1 → ((prs.getD 0 ByteArray.empty).toList == (prs.getD 1 ByteArray.empty).toList) = false) from ⟨HA.out, fun h => by omega⟩)
      have hgt : decide (0 < i) = false := decide_eq_false (by omega)
      clear hi0
      go_quiet (fail)
      go_wp2_with fail
      go_roundw
      case rel => exact ⟨i + 1, by go_num, hil, HA2, pw_below_drewN HBE.out _⟩
      case measure => simp [intOf]; omega
    obtain ⟨y, hy⟩ : ∃ y, prs[0]? = some y := ⟨_, List.getElem?_eq_getElem (by omega)⟩
    obtain ⟨ad', e', d0, hbk'⟩ := str_at HP.out hy
    cases e'
    have hi1 : i = 1 := by omega
    have HY := Lib.hid (show prs.getD 0 ByteArray.empty = y ∧ prs.getD 1 ByteArray.empty = x by rw [List.getD_eq_getElem?_getD, List.getD_eq_getElem?_getD, hy, ← hi1, HX.out]; exact ⟨rfl, rfl⟩)
    have hg0 : 0 < prs.length := by omega
    have hg1 : 1 < prs.length := by omega
    have hg1' : (1 : Int) < (prs.length : Int) := by omega
    have hgt : decide (0 < i) = true := decide_eq_true (by omega)
    rw [show ad.add 0 = ad from by simp [Addr.add]] at d0
    have d1 : wr.cell? ⟨ad.block, ad.off + 1, none⟩ = some (.string x) := by
      have := add_field ad 0 1 (by omega)
      rw [show ad.add 0 = ad from by simp [Addr.add]] at this
      rw [show (⟨ad.block, ad.off + 1, none⟩ : Addr) = ad.add 1 from this, ← hi1]; exact c0
    have HI1 := Lib.hid hi1
    clear hy hbk' hi1
    cases hq : (y.toList == x.toList) with
    | true =>
      have HF := Lib.hid (show RV = false by
        have := HI1.out
        rw [HR.out, HY.out.1, HY.out.2, hq, decide_eq_false (by omega)]; simp)
      go_quiet (fail)
      go_wp2_with fail
      go_ret
      exact ⟨by rw [HF.out]; rfl, pw_below_drewN HBW.out _⟩
    | false =>
      have HA2 := Lib.hid (show (prs.take (i + 1)).any wideB = false ∧ (2 ≤ i + 1 → ((prs.getD 0 ByteArray.empty).toList == (prs.getD 1 ByteArray.empty).toList) = false) from ⟨HA.out, fun _ => by rw [HY.out.1, HY.out.2]; exact hq⟩)
      go_quiet (fail)
      go_wp2_with fail
      go_roundw
      case rel => exact ⟨i + 1, by go_num, hil, HA2, pw_below_drewN HBE.out _⟩
      case measure => simp [intOf]; omega
set_option maxHeartbeats 8000000 in
set_option maxRecDepth 100000 in
theorem right7_calls (o : Ob) (Ar : Option Addr) (cr : Nat) (Ak : Option Addr) (ck : Nat) (Ap : Option Addr) (cp : Nat) (w : World) (h : ObAt w o Ar cr Ak ck Ap cp) (hk : o.kids.length ≤ 9223372036854775807) :
    Calls Tryd.prog 29 #[.agg (obV o Ar cr Ak ck Ap cp)] w fun e w' => e = .returned (.bool (okOb o)) ∧ Below w.heap.size w w' := by
  obtain ⟨W1, hW1⟩ : ∃ W1, W1 = w.alloc (.cells (obV o Ar cr Ak ck Ap cp) 27) := ⟨_, rfl⟩
  have hn1 : Below w.heap.size w W1 := by rw [hW1]; exact (Below.refl _ _).alloc (Nat.le_refl _) _
  have hg1 : W1.heap[w.heap.size]? = some (.cells (obV o Ar cr Ak ck Ap cp) 27 (0, 0)) := by rw [hW1]; exact alloc_lastV _ _
  have HO := Lib.hid (h.below hn1)
  have HN1 := Lib.hid hn1
  have HG := Lib.hid hg1
  have HND := Lib.hid (rnode_calls o Ar cr Ak ck Ap cp W1 (h.below hn1))
  have HCM := Lib.hid (rcommit_calls o Ar cr Ak ck Ap cp W1 (h.below hn1))
  clear h hn1
  obtain ⟨RV, hRV⟩ : ∃ RV, RV = okOb o := ⟨_, rfl⟩
  rw [← hRV]
  unfold okOb at hRV
  have HRV := Lib.hid hRV
  generalize okNode o = nd at HND HRV
  generalize okCommit o = cm at HCM HRV
  unfold obV at hW1 hg1 HG HND HCM ⊢
  obtain ⟨⟨b0, b1, b2, b3⟩, b4, b5, b6, b7⟩ := box8 hg1
  rw [hW1] at b0 b1 b2 b3 b4 b5 b6 b7
  have HW1 := Lib.hid hW1
  clear hW1 hg1 hRV
  by_cases h1 : o.kind = 1
  · have HF := Lib.hid (HRV.out.trans (if_pos h1))
    rw [h1] at HND HW1 b0 ⊢
    have h21 : ((1 : Int) == 2) = false := rfl
    go_enter Tryd.func29, Tryd.ntmps29
    go_wp2_with fail
    rw [← HW1.out]
    clear b0 b1 b2 b3 b4 b5 b6 b7
    refine HND.out.mono ?_
    rintro e W2 ⟨rfl, hb2⟩
    have hg2 := (hb2.block _ (Array.getElem?_eq_some_iff.1 HG.out).1).trans HG.out
    rw [h1] at hg2
    obtain ⟨⟨b0, b1, b2, b3⟩, b4, b5, b6, b7⟩ := box8 hg2
    have HB2 := Lib.hid (HN1.out.trans (hb2.mono HN1.out.size))
    clear hb2 hg2
    cases nd
    all_goals
      go_wp2_with fail
      go_ret
      exact ⟨by rw [HF.out]; rfl, HB2.out⟩
  have h1' : (o.kind == 1) = false := by simpa using h1
  have HRV := Lib.hid (HRV.out.trans (if_neg h1))
  by_cases h2 : o.kind = 2
  · have HF := Lib.hid (HRV.out.trans (if_pos h2))
    rw [h2] at HCM HW1 b0 ⊢
    go_enter Tryd.func29, Tryd.ntmps29
    go_wp2_with fail
    rw [← HW1.out]
    clear b0 b1 b2 b3 b4 b5 b6 b7
    refine HCM.out.mono ?_
    rintro e W2 ⟨rfl, hb2⟩
    have HB2 := Lib.hid (HN1.out.trans (hb2.mono HN1.out.size))
    clear hb2
    go_wp2_with fail
    go_ret
    exact ⟨by rw [HF.out]; rfl, HB2.out⟩
  have h2' : (o.kind == 2) = false := by simpa using h2
  have HF := Lib.hid (HRV.out.trans (if_neg h2))
  clear h1 h2
  go_enter Tryd.func29, Tryd.ntmps29
  go_wp2_with fail
  go_ret
  exact ⟨by rw [HF.out]; rfl, (Below.refl _ _).alloc (Nat.le_refl _) _⟩
end Go.Proofs.YtgjlchcfdbmmlaaDoor.PObjectTakes
namespace Go.Proofs.YtgjlchcfdbmmlaaDoor.PObjectTakes
open Go.RowKit Go.Proofs.YtgjlchcfdbmmlaaDoor.Ord Go.Proofs.YtgjlchcfdbmmlaaDoor.Obj Go.Proofs.YtgjlchcfdbmmlaaDoorW.PrintWords Go.Proofs.YtgjlchcfdbmmlaaDoorW.PrintLast Go.Proofs.YtgjlchcfdbmmlaaDoorW.PrintMore
attribute [local irreducible] OpGives
attribute [local go_sem] rdl_const rdl_func rdl_global rdl_nil rdl_cons

set_option maxRecDepth 100000 in
theorem num7_R (n : Int) (w : World) : Calls Tryd.prog 52 #[.int .i64 n] w (fun e w' => e = .returned (.agg #[.int .i64 1, .int .i64 n, .string (⟨#[]⟩ : ByteArray), .slice none 0 0]) ∧ Below w.heap.size w w') := by
  go_enter Tryd.func52, Tryd.ntmps52
  go_wp2
  refine bodyPost_ret (results_cell_row rfl _ _ w.heap.size 42 #[.int .i64 1, .int .i64 n, .string (⟨#[]⟩ : ByteArray), .slice none 0 0] (0, 0) _ rfl (heap_alloc_last _ _) Tryd.underlying42 rfl (by kernel_rfl)) rfl ?_
  exact ⟨rfl, (Below.refl _ _).alloc (Nat.le_refl _) _⟩
set_option maxRecDepth 100000 in
theorem text7_R (s : ByteArray) (w : World) : Calls Tryd.prog 53 #[.string s] w (fun e w' => e = .returned (.agg #[.int .i64 2, .int .i64 0, .string s, .slice none 0 0]) ∧ Below w.heap.size w w') := by
  go_enter Tryd.func53, Tryd.ntmps53
  go_wp2
  refine bodyPost_ret (results_cell_row rfl _ _ w.heap.size 42 #[.int .i64 2, .int .i64 0, .string s, .slice none 0 0] (0, 0) _ rfl (heap_alloc_last _ _) Tryd.underlying42 rfl (by kernel_rfl)) rfl ?_
  exact ⟨rfl, (Below.refl _ _).alloc (Nat.le_refl _) _⟩
set_option maxRecDepth 100000 in
theorem list7_R {base : Nat} {l : List S42} {v : Value} {w : World} (h : rC w base v l) : Calls Tryd.prog 51 #[v] w (CellPostR base (listC l) w) := by
  obtain ⟨A, c, rfl⟩ := R_slice h
  have H := Lib.hid h
  clear h
  go_enter Tryd.func51, Tryd.ntmps51
  go_wp2
  refine bodyPost_ret (results_cell_row rfl _ _ w.heap.size 42 #[.int .i64 3, .int .i64 0, .string (⟨#[]⟩ : ByteArray), .slice A l.length c] (0, 0) _ rfl (heap_alloc_last _ _) Tryd.underlying42 rfl (by kernel_rfl)) rfl ?_
  exact ⟨_, rfl, ⟨_, rfl, rC_below H.out ((Below.refl _ _).alloc (Nat.le_refl _) _)⟩, (Below.refl _ _).alloc (Nat.le_refl _) _⟩
theorem append_itemB {W : World} {b0 lo : Nat} {v : Value} {acc : List S42} {x : S42} {g : Nat} {v3 : Value} (hR : rC W b0 v acc) (hv : ∀ k, v.ownBlock = some k → k < lo) (hb0 : b0 ≤ lo) (hgl : lo ≤ g)
    (hg : W.heap[g]? = some (.cells #[.int .i64 x.f0, .int .i64 x.f1, .string x.f2, v3] 42 (0, 0))) (hr3 : rC W lo v3 x.f3) (hn : acc.length ≤ 2513169434915) (ty : TypeId) :
    ∃ v' W', (Builtin.append_ #[40, 40] ty #[v, .slice (some ⟨g, 0, none⟩) 1 1]).run Tryd.prog W = .ok v' W' ∧ W.grownBy W' v.ownBlock ∧ rC W' b0 v' (acc ++ [x]) := by
  obtain ⟨i0, hi0, hz0, hz1, hz2⟩ := info_parts infoCell
  have h1 := R_one hr3
  have hgs := (Array.getElem?_eq_some_iff.1 hg).1
  obtain ⟨h0, inner, hown, hreps⟩ := hR
  have hbn : (acc.length + 1) * 56 ≤ 2513169434916 * 56 := Nat.mul_le_mul (by omega) (Nat.le_refl _)
  obtain ⟨h, cap, W', hr, hown', hgr, hat, _⟩ := run_append_lies (P := Tryd.prog) W 40 ty b0 42 i0 _ 4 56 Tryd.underlying40 hi0 hz0 hz1 hz2 (by rfl) (by decide) v acc.length _ hown ⟨g, 0, none⟩ 1 1 [.int .i64 x.f0, .int .i64 x.f1, .string x.f2, v3]
    (by rfl) (World.news_of_block (cs := #[.int .i64 x.f0, .int .i64 x.f1, .string x.f2, v3]) hg) (by
      intro u hu
      simp only [List.mem_cons, List.not_mem_nil, or_false] at hu
      rcases hu with rfl | rfl | rfl | rfl
      · rfl
      · rfl
      · rfl
      · exact h1) (by decide) (by unfold maxLen; omega) (by omega) (by omega) W.heap.size rfl
  have hm3 : Kd.M k42 W b0 (fun k => lo ≤ k) x [.int .i64 x.f0, .int .i64 x.f1, .string x.f2, v3] :=
    k42_mkM W b0 _ x (Kd.R_lower (Kd.R_mono (Kd.R_bound hr3) (fun k hk => hk.2.1)) hb0)
  have hres := Kd.R_appended (d := k42) (e := 42) (base := b0) (ok := fun _ => True) (W := W) (w1 := W') (v := v) (v1 := .slice (some ⟨h, 0, none⟩) (acc.length + 1) cap) h0 hreps hm3 (fun k hk => ⟨trivial, fun e => by have := hv k e.symm; omega⟩) (fun k hk => trivial) hown' hgr
    (hat.elim (fun e => .inl (by rw [e]; rfl)) (fun e => .inr ⟨h, rfl, by omega⟩))
  exact ⟨_, W', hr, hgr, hres⟩
theorem append_litB {W : World} {b0 lo : Nat} {v : Value} {acc : List S42} {x : S42} {u : Value} (hR : rC W b0 v acc) (hv : ∀ k, v.ownBlock = some k → k < lo) (hb0 : b0 ≤ lo)
    (h : litC lo [x] u W) (hn : acc.length ≤ 2513169434915) (ty : TypeId) :
    ∃ v' W', (Builtin.append_ #[40, 40] ty #[v, u]).run Tryd.prog W = .ok v' W' ∧ W.grownBy W' v.ownBlock ∧ rC W' b0 v' (acc ++ [x]) := by
  obtain ⟨g, cs, rfl, hlg, hg, hr⟩ := h
  have h4 : cs.length = 4 := by have := hr.1; simpa using this
  have hM : Kd.M k42 W lo (fun _ => True) x cs := by
    have := hr.2 0 x rfl
    rwa [Nat.zero_mul, List.drop_zero, ← h4, List.take_length] at this
  obtain ⟨v3, rfl, hr3⟩ := k42_openM hM
  exact append_itemB hR hv hb0 hlg hg hr3 hn ty
/-- A row of the call's own. -/
def rowF (lo : Nat) (xs : List S42) : Value → World → Prop := fun u W => rC W lo u xs
theorem rowF_below {lo : Nat} {xs : List S42} {u : Value} {W W' : World} (h : rowF lo xs u W) (hb : Below W.heap.size W W') : rowF lo xs u W' := rC_below h hb
theorem rowF_of {lo : Nat} {xs : List S42} {us : List Value} {W : World} (hr : repsM W lo xs (us.flatMap fun v => v.cells.toList)) (hlo : lo ≤ W.heap.size) (hn : xs.length ≤ 1000) :
    rowF lo xs (.slice (some ⟨W.heap.size, 0, none⟩) xs.length xs.length) (W.alloc (.cells (us.flatMap fun v => v.cells.toList).toArray 42)) := by
  have hb : Below W.heap.size W (W.alloc (.cells (us.flatMap fun v => v.cells.toList).toArray 42)) := (Below.refl _ _).alloc (Nat.le_refl _) _
  have hlen : (us.flatMap fun v => v.cells.toList).length = xs.length * (k42).sz := hr.1
  refine ⟨fun _ _ => trivial, us.flatMap fun v => v.cells.toList, ⟨hlen, .inr ⟨W.heap.size, xs.length, (us.flatMap fun v => v.cells.toList).toArray, rfl, hlo, heap_alloc_last _ _, Nat.le_refl _, by unfold maxLen; omega, by simpa using hlen, ?_⟩⟩, hlen, fun j p hj => ?_⟩
  · rw [← hlen]; exact List.take_length
  · exact Kd.M_below ((k42).M_mono (ok' := fun k => True ∧ some k ≠ (Value.slice (some ⟨W.heap.size, 0, none⟩) xs.length xs.length).ownBlock) (fun k hk => ⟨trivial, fun e => by
      have h1 := hk.2.2.1
      injection e with e1
      have e2 : k = W.heap.size := e1
      omega⟩) ((k42).M_bound (hr.2 j p hj))) hb
set_option maxHeartbeats 16000000 in
set_option maxRecDepth 100000 in
theorem rows7_calls (l : List S55) (A : Option Addr) (c : Nat) (w : World) (hA : Kd.C k55 w A l.length l) (hc : l.length ≤ c) (hl : l.length ≤ 2513169434916) :
    Calls Tryd.prog 35 #[.slice A l.length c] w (CellPostR w.heap.size (rowsC l) w) := by
  obtain ⟨W1, hW1⟩ : ∃ W1, W1 = w.alloc (.cells #[.int .i64 0, .int .i64 0, .string (⟨#[]⟩ : ByteArray), .slice none 0 0] 42) := ⟨_, rfl⟩
  have hn1 : Below w.heap.size w W1 := by rw [hW1]; exact (Below.refl _ _).alloc (Nat.le_refl _) _
  have hg1 : W1.heap[w.heap.size]? = some (.cells #[.int .i64 0, .int .i64 0, .string (⟨#[]⟩ : ByteArray), .slice none 0 0] 42 (0, 0)) := by rw [hW1]; exact heap_alloc_last _ _
  have hs1 : W1.heap.size = w.heap.size + 1 := by rw [hW1]; simp
  have HN1 := Lib.hid hn1
  have HG1 := Lib.hid hg1
  have HS1 := Lib.hid hs1
  have HA := Lib.hid hA
  have HW1 := Lib.hid hW1
  clear hW1 hn1 hg1 hs1 hA
  go_enter Tryd.func35, Tryd.ntmps35
  go_wp2_with fail
  rw [← HW1.out]
  go_loopw [3, 4] (fun v i wr => ∃ k : Nat, i = .int .i64 (k : Int) ∧ k ≤ l.length ∧ rC wr W1.heap.size v ((l.take k).map rowC) ∧ Below W1.heap.size W1 wr) (fun _ i _ => l.length - (intOf i).toNat)
  case atStart => exact ⟨0, rfl, Nat.zero_le _, Kd.R_nil _ _ _ _ _, Below.refl _ _⟩
  case round =>
    obtain ⟨i, rfl, hi, hrow, hbe⟩ := hrel
    have HROW := Lib.hid hrow
    have HBE := Lib.hid hbe
    have hb1 := HN1.out.trans (hbe.mono HN1.out.size)
    have HB1 := Lib.hid hb1
    clear hrow hbe hb1
    by_cases hil : i < l.length
    · obtain ⟨x, hx⟩ : ∃ x, l[i]? = some x := ⟨_, List.getElem?_eq_getElem hil⟩
      obtain ⟨ad, rfl, c0, c1, c2, c3, c4, hbk⟩ := row_at (Kd.C_below HA.out HB1.out) hx
      have HX := Lib.hid hx
      clear hx
      have hlen : ((l.take i).map rowC).length ≤ 2513169434915 := by rw [List.length_map, List.length_take]; omega
      have hown : ∀ k, u3.ownBlock = some k → k < wr.heap.size := fun k hk => by
        obtain ⟨_, inner, ho, _⟩ := HROW.out
        exact own_lt ho k hk
      have HLEN := Lib.hid hlen
      have HOWN := Lib.hid hown
      clear hlen hown
      go_wp2_with fail
      clear c0 c1 c2 c3 c4 hbk
      refine (num7_R x.f2.f1 wr).mono ?_
      rintro e W4 ⟨rfl, hb4⟩
      obtain ⟨W5, hW5⟩ : ∃ W5, W5 = W4.alloc (.cells #[.int .i64 1, .int .i64 x.f2.f1, .string (⟨#[]⟩ : ByteArray), .slice none 0 0] 42) := ⟨_, rfl⟩
      have hn5 : Below W4.heap.size W4 W5 := by rw [hW5]; exact (Below.refl _ _).alloc (Nat.le_refl _) _
      have hc5 : W5.heap[W4.heap.size]? = some (.cells #[.int .i64 1, .int .i64 x.f2.f1, .string (⟨#[]⟩ : ByteArray), .slice none 0 0] 42 (0, 0)) := by rw [hW5]; exact alloc_lastV _ _
      have hb5 : Below wr.heap.size wr W5 := hb4.trans (hn5.mono hb4.size)
      have hs4 : wr.heap.size ≤ W4.heap.size := hb4.size
      obtain ⟨ad', e', c0, c1, c2, c3, c4, hbk⟩ := row_at (Kd.C_below HA.out (HB1.out.trans (hb5.mono HB1.out.size))) HX.out
      cases e'
      rw [hW5] at c0 c1 c2 c3 c4
      have HC5 := Lib.hid hc5
      have HB5 := Lib.hid hb5
      have HW5 := Lib.hid hW5
      have HS4 := Lib.hid hs4
      clear hb4 hn5 hc5 hb5 hW5 hs4
      by_cases hk2 : x.f2.f0 = 2
      · have hk2' : (x.f2.f0 == 2) = true := by simpa using hk2
        have hval : valC x.f2 = textC x.f2.f2 := by unfold valC; rw [if_pos hk2]
        have HVAL := Lib.hid hval
        clear hk2 hval
        go_wp2_with fail
        rw [← HW5.out]
        clear c0 c1 c2 c3 c4 hbk
        refine (text7_R x.f2.f2 W5).mono ?_
        rintro e W6 ⟨rfl, hb6⟩
        have hc6 := (hb6.block _ (Array.getElem?_eq_some_iff.1 HC5.out).1).trans HC5.out
        have z0 : W6.cell? ⟨W4.heap.size, 0, none⟩ = some (.int .i64 1) := by rw [Lib.cell_of_heap hc6]; rfl
        have z1 : W6.cell? ⟨W4.heap.size, 1, none⟩ = some (.int .i64 x.f2.f1) := by rw [Lib.cell_of_heap hc6]; rfl
        have z2 : W6.cell? ⟨W4.heap.size, 2, none⟩ = some (.string (⟨#[]⟩ : ByteArray)) := by rw [Lib.cell_of_heap hc6]; rfl
        have z3 : W6.cell? ⟨W4.heap.size, 3, none⟩ = some (.slice none 0 0) := by rw [Lib.cell_of_heap hc6]; rfl
        have f0 := Lib.frozen_of_heap hc6 0
        have f1 := Lib.frozen_of_heap hc6 1
        have f2 := Lib.frozen_of_heap hc6 2
        have f3 := Lib.frozen_of_heap hc6 3
        obtain ⟨W7, hW7⟩ : ∃ W7, W7 = put4 W6 W4.heap.size (.int .i64 2) (.int .i64 0) (.string x.f2.f2) (.slice none 0 0) := ⟨_, rfl⟩
        have hc7 : W7.heap[W4.heap.size]? = some (.cells #[.int .i64 (valC x.f2).f0, .int .i64 (valC x.f2).f1, .string (valC x.f2).f2, .slice none 0 0] 42 (0, 0)) := by
          rw [HVAL.out, hW7]; exact four_put hc6 _ _ _ _
        have hfar : ∀ k, k ≠ W4.heap.size → W7.heap[k]? = W6.heap[k]? := fun k hk => by rw [hW7]; exact put4_far hk _ _ _ _
        have hb7 : Below wr.heap.size wr W7 := by
          have h1 : Below wr.heap.size wr W6 := HB5.out.trans (hb6.mono HB5.out.size)
          have hs := HS4.out
          exact ⟨by rw [hW7]; exact h1.os, by rw [hW7]; exact h1.tape, by rw [hW7]; exact h1.output, by rw [hW7, put4_size]; exact h1.size, fun k hk => (hfar k (by omega)).trans (h1.block k hk)⟩
        have HC7 := Lib.hid hc7
        have HB7 := Lib.hid hb7
        unfold put4 at hW7
        have HW7 := Lib.hid hW7
        clear hc6 hc7 hfar hb7 hW7 hb6
        go_wp2_with fail
        rw [← HW7.out]
        clear z0 z1 z2 z3 f0 f1 f2 f3
        have hcl : ∀ W, Below W7.heap.size W7 W → W.cell? (ad.add (i * 5)) = some (.int .i64 x.f0) ∧ W.cell? ⟨(ad.add (i * 5)).block, (ad.add (i * 5)).off + 1, none⟩ = some (.int .i64 x.f1) ∧ W.cell? ⟨W4.heap.size, 0, none⟩ = some (.int .i64 (valC x.f2).f0) ∧ W.cell? ⟨W4.heap.size, 1, none⟩ = some (.int .i64 (valC x.f2).f1) ∧ W.cell? ⟨W4.heap.size, 2, none⟩ = some (.string (valC x.f2).f2) ∧ W.cell? ⟨W4.heap.size, 3, none⟩ = some (.slice none 0 0) := fun W hW => by
          have hbW := HB1.out.trans ((HB7.out.trans (hW.mono HB7.out.size)).mono HB1.out.size)
          obtain ⟨ad', e', b0, b1, _⟩ := row_at (Kd.C_below HA.out hbW) HX.out
          cases e'
          have hc := (hW.block _ (Array.getElem?_eq_some_iff.1 HC7.out).1).trans HC7.out
          refine ⟨b0, b1, ?_, ?_, ?_, ?_⟩ <;> (rw [Lib.cell_of_heap hc]; rfl)
        have HCL := Lib.hid hcl
        have hlo : W7.heap.size ≤ W7.heap.size := Nat.le_refl _
        have hi0 : (0 : Int) ≤ (i : Int) := by omega
        have hi1 : (i : Int) < (l.length : Int) := by omega
        have hie : ∀ W : World, Exists fun v => True := fun _ => ⟨0, trivial⟩
        clear hcl hie
        refine' wp_region_factsM (S := (fun _ W => Below W7.heap.size W7 W)) (fun _ W W' => Below W.heap.size W W') [eqM _, eqM _, eqM _, eqM (.pointer (some (ad.add (i * 5)))), eqM (.pointer (some (ad.add (i * 5)))), eqM (.int .i64 x.f0), cellF W7.heap.size (numC x.f0), eqM _, eqM _, eqM (.pointer (some (ad.add (i * 5)))), eqM (.pointer (some ⟨(ad.add (i * 5)).block, (ad.add (i * 5)).off + 1, none⟩)), eqM (.int .i64 x.f1), cellF W7.heap.size (numC x.f1), cellF W7.heap.size (valC x.f2), rowF W7.heap.size [numC x.f0, numC x.f1, valC x.f2], cellF W7.heap.size (rowC x), litC W7.heap.size [rowC x]] (by kernel_rfl) (by kernel_rfl) ?hst ?h0 (Ord.stepsM_cons ?s0 (Ord.stepsM_cons ?s1 (Ord.stepsM_cons ?s2 (Ord.stepsM_cons ?s3 (Ord.stepsM_cons ?s4 (Ord.stepsM_cons ?s5 (Ord.stepsM_cons ?s6 (Ord.stepsM_cons ?s7 (Ord.stepsM_cons ?s8 (Ord.stepsM_cons ?s9 (Ord.stepsM_cons ?s10 (Ord.stepsM_cons ?s11 (Ord.stepsM_cons ?s12 (Ord.stepsM_cons ?s13 (Ord.stepsM_cons ?s14 (Ord.stepsM_cons ?s15 (Ord.stepsM_cons ?s16 (Ord.stepsM_nil)))))))))))))))))) ?fin
        case s0 =>
          intro g W L hL hSW hd
          try simp only [Nat.zero_add, Nat.reduceAdd] at hd ⊢
          with_reducible refine OpGives.pre_reads [] 53 ?_ ?_ ?_
          · rfl
          · kernel_rfl
          simp only [List.map_cons, List.map_nil]
          refine OpGives.val (w' := W) ?_ ⟨Below.refl _ _, rfl, hSW⟩
          go_simp
          try with_reducible rfl
        case s1 =>
          intro g W L hL hSW hd
          try simp only [Nat.zero_add, Nat.reduceAdd] at hd ⊢
          with_reducible refine OpGives.pre_reads [] 53 ?_ ?_ ?_
          · rfl
          · kernel_rfl
          simp only [List.map_cons, List.map_nil]
          refine OpGives.val (w' := W) ?_ ⟨Below.refl _ _, rfl, hSW⟩
          go_simp
          try with_reducible rfl
        case s2 =>
          intro g W L hL hSW hd
          try simp only [Nat.zero_add, Nat.reduceAdd] at hd ⊢
          with_reducible refine OpGives.pre_reads [] 53 ?_ ?_ ?_
          · rfl
          · kernel_rfl
          simp only [List.map_cons, List.map_nil]
          refine OpGives.val (w' := W) ?_ ⟨Below.refl _ _, rfl, hSW⟩
          go_simp
          try with_reducible rfl
        case s3 =>
          intro g W L hL hSW hd
          try simp only [Nat.zero_add, Nat.reduceAdd] at hd ⊢
          have h1 : g 1 = _ := hd 1 (by decide) (by kernel_rfl)
          have h2 : g 2 = _ := hd 2 (by decide) (by kernel_rfl)
          with_reducible refine OpGives.pre_reads [(34, 1), (35, 2)] 53 ?_ ?_ ?_
          · rfl
          · kernel_rfl
          simp only [List.map_cons, List.map_nil]
          refine OpGives.val (v := .pointer (some (ad.add (i * 5)))) (w' := W) ?_ ⟨Below.refl _ _, rfl, hSW⟩; rw [h1, h2]; go_simp
        case s4 =>
          intro g W L hL hSW hd
          try simp only [Nat.zero_add, Nat.reduceAdd] at hd ⊢
          have h3 : g 3 = _ := hd 3 (by decide) (by kernel_rfl)
          with_reducible refine OpGives.pre_reads [(36, 3)] 53 ?_ ?_ ?_
          · rfl
          · kernel_rfl
          simp only [List.map_cons, List.map_nil]
          rw [h3]; refine OpGives.val (v := .pointer (some (ad.add (i * 5)))) (w' := W) ?_ ⟨Below.refl _ _, rfl, hSW⟩; go_simp
        case s5 =>
          intro g W L hL hSW hd
          try simp only [Nat.zero_add, Nat.reduceAdd] at hd ⊢
          have h4 : g 4 = _ := hd 4 (by decide) (by kernel_rfl)
          with_reducible refine OpGives.pre_reads [(37, 4)] 53 ?_ ?_ ?_
          · rfl
          · kernel_rfl
          simp only [List.map_cons, List.map_nil]
          rw [h4]; obtain ⟨z0, z1, z2, z3, z4, z5⟩ := HCL.out W hSW; refine OpGives.val (v := .int .i64 x.f0) (w' := W) ?_ ⟨Below.refl _ _, rfl, hSW⟩; go_simp
        case s6 =>
          intro g W L hL hSW hd
          try simp only [Nat.zero_add, Nat.reduceAdd] at hd ⊢
          have h5 : g 5 = _ := hd 5 (by decide) (by kernel_rfl)
          with_reducible refine OpGives.pre_reads [(38, 5)] 53 ?_ ?_ ?_
          · rfl
          · kernel_rfl
          simp only [List.map_cons, List.map_nil]
          rw [h5]; refine OpGives.call (f := 52) (args := #[.int .i64 x.f0]) (w' := W) (by go_simp) ((num7_R x.f0 W).mono fun e W' ⟨he, hb⟩ => ⟨_, he, hb, num_F _ _ _, hSW.trans (hb.mono hSW.size)⟩)
        case s7 =>
          intro g W L hL hSW hd
          try simp only [Nat.zero_add, Nat.reduceAdd] at hd ⊢
          with_reducible refine OpGives.pre_reads [] 53 ?_ ?_ ?_
          · rfl
          · kernel_rfl
          simp only [List.map_cons, List.map_nil]
          refine OpGives.val (w' := W) ?_ ⟨Below.refl _ _, rfl, hSW⟩
          go_simp
          try with_reducible rfl
        case s8 =>
          intro g W L hL hSW hd
          try simp only [Nat.zero_add, Nat.reduceAdd] at hd ⊢
          with_reducible refine OpGives.pre_reads [] 53 ?_ ?_ ?_
          · rfl
          · kernel_rfl
          simp only [List.map_cons, List.map_nil]
          refine OpGives.val (w' := W) ?_ ⟨Below.refl _ _, rfl, hSW⟩
          go_simp
          try with_reducible rfl
        case s9 =>
          intro g W L hL hSW hd
          try simp only [Nat.zero_add, Nat.reduceAdd] at hd ⊢
          have h7 : g 7 = _ := hd 7 (by decide) (by kernel_rfl)
          have h8 : g 8 = _ := hd 8 (by decide) (by kernel_rfl)
          with_reducible refine OpGives.pre_reads [(40, 7), (41, 8)] 53 ?_ ?_ ?_
          · rfl
          · kernel_rfl
          simp only [List.map_cons, List.map_nil]
          refine OpGives.val (v := .pointer (some (ad.add (i * 5)))) (w' := W) ?_ ⟨Below.refl _ _, rfl, hSW⟩; rw [h7, h8]; go_simp
        case s10 =>
          intro g W L hL hSW hd
          try simp only [Nat.zero_add, Nat.reduceAdd] at hd ⊢
          have h9 : g 9 = _ := hd 9 (by decide) (by kernel_rfl)
          with_reducible refine OpGives.pre_reads [(42, 9)] 53 ?_ ?_ ?_
          · rfl
          · kernel_rfl
          simp only [List.map_cons, List.map_nil]
          rw [h9]; refine OpGives.val (v := .pointer (some ⟨(ad.add (i * 5)).block, (ad.add (i * 5)).off + 1, none⟩)) (w' := W) ?_ ⟨Below.refl _ _, rfl, hSW⟩; go_simp
        case s11 =>
          intro g W L hL hSW hd
          try simp only [Nat.zero_add, Nat.reduceAdd] at hd ⊢
          have h10 : g 10 = _ := hd 10 (by decide) (by kernel_rfl)
          with_reducible refine OpGives.pre_reads [(43, 10)] 53 ?_ ?_ ?_
          · rfl
          · kernel_rfl
          simp only [List.map_cons, List.map_nil]
          rw [h10]; obtain ⟨z0, z1, z2, z3, z4, z5⟩ := HCL.out W hSW; refine OpGives.val (v := .int .i64 x.f1) (w' := W) ?_ ⟨Below.refl _ _, rfl, hSW⟩; go_simp
        case s12 =>
          intro g W L hL hSW hd
          try simp only [Nat.zero_add, Nat.reduceAdd] at hd ⊢
          have h11 : g 11 = _ := hd 11 (by decide) (by kernel_rfl)
          with_reducible refine OpGives.pre_reads [(44, 11)] 53 ?_ ?_ ?_
          · rfl
          · kernel_rfl
          simp only [List.map_cons, List.map_nil]
          rw [h11]; refine OpGives.call (f := 52) (args := #[.int .i64 x.f1]) (w' := W) (by go_simp) ((num7_R x.f1 W).mono fun e W' ⟨he, hb⟩ => ⟨_, he, hb, num_F _ _ _, hSW.trans (hb.mono hSW.size)⟩)
        case s13 =>
          intro g W L hL hSW hd
          try simp only [Nat.zero_add, Nat.reduceAdd] at hd ⊢
          with_reducible refine OpGives.pre_reads [] 53 ?_ ?_ ?_
          · rfl
          · kernel_rfl
          simp only [List.map_cons, List.map_nil]
          obtain ⟨z0, z1, z2, z3, z4, z5⟩ := HCL.out W hSW; refine OpGives.val (v := valV x.f2) (w' := W) ?_ ⟨Below.refl _ _, val_F _ _ _, hSW⟩; unfold valV; go_simp
        case s14 =>
          intro g W L hL hSW hd
          try simp only [Nat.zero_add, Nat.reduceAdd] at hd ⊢
          have h6 := hd 6 (by decide) (by kernel_rfl)
          change (cellF W7.heap.size (numC x.f0)) (g 6) W at h6
          have h12 := hd 12 (by decide) (by kernel_rfl)
          change (cellF W7.heap.size (numC x.f1)) (g 12) W at h12
          have h13 := hd 13 (by decide) (by kernel_rfl)
          change (cellF W7.heap.size (valC x.f2)) (g 13) W at h13
          with_reducible refine OpGives.pre_reads [(39, 6), (45, 12), (46, 13)] 53 ?_ ?_ ?_
          · rfl
          · kernel_rfl
          simp only [List.map_cons, List.map_nil]
          refine OpGives.val (v := .slice (some ⟨W.heap.size, 0, none⟩) 3 3) (w' := W.alloc (.cells ([g 6, g 12, g 13].flatMap fun v => v.cells.toList).toArray 42)) (exec_buildSlice 40 3 _ rfl (lit_run3 h6 h12 h13 _ (by simp [rdl_cons]))) ⟨(Below.refl _ _).alloc (Nat.le_refl _) _, rowF_of (repsM_3 h6 h12 h13) hSW.size (by simp), hSW.alloc hSW.size _⟩
        case s15 =>
          intro g W L hL hSW hd
          try simp only [Nat.zero_add, Nat.reduceAdd] at hd ⊢
          have h14 := hd 14 (by decide) (by kernel_rfl)
          change (rowF W7.heap.size [numC x.f0, numC x.f1, valC x.f2]) (g 14) W at h14
          with_reducible refine OpGives.pre_reads [(47, 14)] 53 ?_ ?_ ?_
          · rfl
          · kernel_rfl
          simp only [List.map_cons, List.map_nil]
          refine OpGives.call (f := 51) (args := #[g 14]) (w' := W) (by go_simp) ((list7_R h14).mono fun e W' ⟨u, he, hf, hb⟩ => ⟨u, he, hb, hf, hSW.trans (hb.mono hSW.size)⟩)
        case s16 =>
          intro g W L hL hSW hd
          try simp only [Nat.zero_add, Nat.reduceAdd] at hd ⊢
          have h15 := hd 15 (by decide) (by kernel_rfl)
          change (cellF W7.heap.size (rowC x)) (g 15) W at h15
          with_reducible refine OpGives.pre_reads [(48, 15)] 53 ?_ ?_ ?_
          · rfl
          · kernel_rfl
          simp only [List.map_cons, List.map_nil]
          refine OpGives.val (v := .slice (some ⟨W.heap.size, 0, none⟩) 1 1) (w' := W.alloc (.cells ([g 15].flatMap fun v => v.cells.toList).toArray 42)) (exec_buildSlice 40 1 _ rfl (lit_run1 h15 _ (by simp [rdl_cons]))) ⟨(Below.refl _ _).alloc (Nat.le_refl _) _, litC_of (repsM_1 h15) hSW.size, hSW.alloc hSW.size _⟩
        case hst =>
          refine fun i j v w w' _ h hR => st_of (R := fun W W' => Below W.heap.size W W') ?_ i v w w' h hR
          repeat' first
            | exact trivial
            | with_reducible refine StL.eq ?_
            | refine ⟨fun v w w' h hR => cellF_below h hR, ?_⟩
            | refine ⟨fun v w w' h hR => rowF_below h hR, ?_⟩
            | refine ⟨fun v w w' h hR => litC_below h hR, ?_⟩
        case h0 => exact (Below.refl _ _).drew
        case fin =>
          intro v' W L hL hSW hf
          have h16 := hf 16 (Nat.lt_of_lt_of_eq (by decide : 16 < 17) rfl)
          have h0 : v' 0 = _ := hf 0 (Nat.lt_of_lt_of_eq (by decide : 0 < 17) rfl)
          change litC W7.heap.size [rowC x] (v' 16) W at h16
          clear hf
          generalize hF : Ord.pre _ _ v' _ = F
          rw [Ord.pre_lit [some 33, some 34, some 35, some 36, some 37, some 38, some 39, some 40, some 41, some 42, some 43, some 44, some 45, some 46, some 47, some 48, some 49]
            (by kernel_rfl)] at hF
          simp only [Ord.puts, Nat.zero_add, Nat.reduceAdd] at hF
          subst hF
          rw [h0]
          have hb7W := HB7.out.trans (hSW.mono HB7.out.size)
          have hrW := Kd.R_below HROW.out (⟨hb7W.os, hb7W.tape, hb7W.output, hb7W.size, hb7W.block⟩)
          obtain ⟨v8, W8, hr8, hg8, hR8⟩ := append_litB (b0 := W1.heap.size) (lo := W7.heap.size) hrW (fun k hk => Nat.lt_of_lt_of_le (HOWN.out k hk) HB7.out.size) (Nat.le_trans HBE.out.size HB7.out.size) h16 HLEN.out 40
          have hB8 := grown_below hrW hg8 (HBE.out.trans (hb7W.mono HBE.out.size)) (Nat.le_trans HBE.out.size hb7W.size)
          have hR8' : rC W8 W1.heap.size v8 ((l.take (i + 1)).map rowC) := by
            rw [List.take_add_one, HX.out]; simpa using hR8
          have HR8 := Lib.hid hR8'
          have HB8 := Lib.hid hB8
          clear hg8 hR8 hR8' hB8 hrW hb7W hSW h16
          refine any_one (i := 17) (by kernel_rfl) ?_
          refine wpOp_value (v := v8) (w' := W8) rfl rfl ?_ ?_
          · refine exec_append (.tmp 33) (.tmp 49) 40 rfl ?_
            have key : ∀ a b ty, a = u3 → b = v' 16 → ty = 40 → (Builtin.append_ #[40, 40] ty #[a, b]).run Tryd.prog W = .ok v8 W8 := by rintro _ _ _ rfl rfl rfl; exact hr8
            refine key _ _ _ ?_ ?_ rfl
            · go_simp
            · go_simp
          refine any_one (i := 18) (by kernel_rfl) ?_
          refine wpOp_value (v := v8) (w' := W8) rfl rfl (by go_simp) ?_
          refine wpAny_done (by kernel_rfl) ?_ _
          try simp only [List.getElem_toArray, List.getElem_cons_succ, List.getElem_cons_zero]
          go_frame
          clear hr8
          have hwi : IntKind.i64.wrap ((i : Int) + 1) = (i : Int) + 1 := by rw [IntKind.wrap_i64]; omega
          go_wp2_with fail
          go_roundw
          case rel => exact ⟨i + 1, by go_num, hil, HR8.out, HB8.out⟩
          case measure => simp [intOf]; omega
      · have hk2' : (x.f2.f0 == 2) = false := by simpa using hk2
        have hval : valC x.f2 = numC x.f2.f1 := by unfold valC; rw [if_neg hk2]
        have HVAL := Lib.hid hval
        have HC7 := Lib.hid (show W5.heap[W4.heap.size]? = some (.cells #[.int .i64 (valC x.f2).f0, .int .i64 (valC x.f2).f1, .string (valC x.f2).f2, .slice none 0 0] 42 (0, 0)) by rw [hval]; exact HC5.out)
        clear hk2 hval
        go_wp2_with fail
        rw [← HW5.out]
        clear c0 c1 c2 c3 c4 hbk
        have hcl : ∀ W, Below W5.heap.size W5 W → W.cell? (ad.add (i * 5)) = some (.int .i64 x.f0) ∧ W.cell? ⟨(ad.add (i * 5)).block, (ad.add (i * 5)).off + 1, none⟩ = some (.int .i64 x.f1) ∧ W.cell? ⟨W4.heap.size, 0, none⟩ = some (.int .i64 (valC x.f2).f0) ∧ W.cell? ⟨W4.heap.size, 1, none⟩ = some (.int .i64 (valC x.f2).f1) ∧ W.cell? ⟨W4.heap.size, 2, none⟩ = some (.string (valC x.f2).f2) ∧ W.cell? ⟨W4.heap.size, 3, none⟩ = some (.slice none 0 0) := fun W hW => by
          have hbW := HB1.out.trans ((HB5.out.trans (hW.mono HB5.out.size)).mono HB1.out.size)
          obtain ⟨ad', e', b0, b1, _⟩ := row_at (Kd.C_below HA.out hbW) HX.out
          cases e'
          have hc := (hW.block _ (Array.getElem?_eq_some_iff.1 HC7.out).1).trans HC7.out
          refine ⟨b0, b1, ?_, ?_, ?_, ?_⟩ <;> (rw [Lib.cell_of_heap hc]; rfl)
        have HCL := Lib.hid hcl
        have hlo : W5.heap.size ≤ W5.heap.size := Nat.le_refl _
        have hi0 : (0 : Int) ≤ (i : Int) := by omega
        have hi1 : (i : Int) < (l.length : Int) := by omega
        have hie : ∀ W : World, Exists fun v => True := fun _ => ⟨0, trivial⟩
        clear hcl hie
        refine' wp_region_factsM (S := (fun _ W => Below W5.heap.size W5 W)) (fun _ W W' => Below W.heap.size W W') [eqM _, eqM _, eqM _, eqM (.pointer (some (ad.add (i * 5)))), eqM (.pointer (some (ad.add (i * 5)))), eqM (.int .i64 x.f0), cellF W5.heap.size (numC x.f0), eqM _, eqM _, eqM (.pointer (some (ad.add (i * 5)))), eqM (.pointer (some ⟨(ad.add (i * 5)).block, (ad.add (i * 5)).off + 1, none⟩)), eqM (.int .i64 x.f1), cellF W5.heap.size (numC x.f1), cellF W5.heap.size (valC x.f2), rowF W5.heap.size [numC x.f0, numC x.f1, valC x.f2], cellF W5.heap.size (rowC x), litC W5.heap.size [rowC x]] (by kernel_rfl) (by kernel_rfl) ?hst ?h0 (Ord.stepsM_cons ?s0 (Ord.stepsM_cons ?s1 (Ord.stepsM_cons ?s2 (Ord.stepsM_cons ?s3 (Ord.stepsM_cons ?s4 (Ord.stepsM_cons ?s5 (Ord.stepsM_cons ?s6 (Ord.stepsM_cons ?s7 (Ord.stepsM_cons ?s8 (Ord.stepsM_cons ?s9 (Ord.stepsM_cons ?s10 (Ord.stepsM_cons ?s11 (Ord.stepsM_cons ?s12 (Ord.stepsM_cons ?s13 (Ord.stepsM_cons ?s14 (Ord.stepsM_cons ?s15 (Ord.stepsM_cons ?s16 (Ord.stepsM_nil)))))))))))))))))) ?fin
        case s0 =>
          intro g W L hL hSW hd
          try simp only [Nat.zero_add, Nat.reduceAdd] at hd ⊢
          with_reducible refine OpGives.pre_reads [] 53 ?_ ?_ ?_
          · rfl
          · kernel_rfl
          simp only [List.map_cons, List.map_nil]
          refine OpGives.val (w' := W) ?_ ⟨Below.refl _ _, rfl, hSW⟩
          go_simp
          try with_reducible rfl
        case s1 =>
          intro g W L hL hSW hd
          try simp only [Nat.zero_add, Nat.reduceAdd] at hd ⊢
          with_reducible refine OpGives.pre_reads [] 53 ?_ ?_ ?_
          · rfl
          · kernel_rfl
          simp only [List.map_cons, List.map_nil]
          refine OpGives.val (w' := W) ?_ ⟨Below.refl _ _, rfl, hSW⟩
          go_simp
          try with_reducible rfl
        case s2 =>
          intro g W L hL hSW hd
          try simp only [Nat.zero_add, Nat.reduceAdd] at hd ⊢
          with_reducible refine OpGives.pre_reads [] 53 ?_ ?_ ?_
          · rfl
          · kernel_rfl
          simp only [List.map_cons, List.map_nil]
          refine OpGives.val (w' := W) ?_ ⟨Below.refl _ _, rfl, hSW⟩
          go_simp
          try with_reducible rfl
        case s3 =>
          intro g W L hL hSW hd
          try simp only [Nat.zero_add, Nat.reduceAdd] at hd ⊢
          have h1 : g 1 = _ := hd 1 (by decide) (by kernel_rfl)
          have h2 : g 2 = _ := hd 2 (by decide) (by kernel_rfl)
          with_reducible refine OpGives.pre_reads [(34, 1), (35, 2)] 53 ?_ ?_ ?_
          · rfl
          · kernel_rfl
          simp only [List.map_cons, List.map_nil]
          refine OpGives.val (v := .pointer (some (ad.add (i * 5)))) (w' := W) ?_ ⟨Below.refl _ _, rfl, hSW⟩; rw [h1, h2]; go_simp
        case s4 =>
          intro g W L hL hSW hd
          try simp only [Nat.zero_add, Nat.reduceAdd] at hd ⊢
          have h3 : g 3 = _ := hd 3 (by decide) (by kernel_rfl)
          with_reducible refine OpGives.pre_reads [(36, 3)] 53 ?_ ?_ ?_
          · rfl
          · kernel_rfl
          simp only [List.map_cons, List.map_nil]
          rw [h3]; refine OpGives.val (v := .pointer (some (ad.add (i * 5)))) (w' := W) ?_ ⟨Below.refl _ _, rfl, hSW⟩; go_simp
        case s5 =>
          intro g W L hL hSW hd
          try simp only [Nat.zero_add, Nat.reduceAdd] at hd ⊢
          have h4 : g 4 = _ := hd 4 (by decide) (by kernel_rfl)
          with_reducible refine OpGives.pre_reads [(37, 4)] 53 ?_ ?_ ?_
          · rfl
          · kernel_rfl
          simp only [List.map_cons, List.map_nil]
          rw [h4]; obtain ⟨z0, z1, z2, z3, z4, z5⟩ := HCL.out W hSW; refine OpGives.val (v := .int .i64 x.f0) (w' := W) ?_ ⟨Below.refl _ _, rfl, hSW⟩; go_simp
        case s6 =>
          intro g W L hL hSW hd
          try simp only [Nat.zero_add, Nat.reduceAdd] at hd ⊢
          have h5 : g 5 = _ := hd 5 (by decide) (by kernel_rfl)
          with_reducible refine OpGives.pre_reads [(38, 5)] 53 ?_ ?_ ?_
          · rfl
          · kernel_rfl
          simp only [List.map_cons, List.map_nil]
          rw [h5]; refine OpGives.call (f := 52) (args := #[.int .i64 x.f0]) (w' := W) (by go_simp) ((num7_R x.f0 W).mono fun e W' ⟨he, hb⟩ => ⟨_, he, hb, num_F _ _ _, hSW.trans (hb.mono hSW.size)⟩)
        case s7 =>
          intro g W L hL hSW hd
          try simp only [Nat.zero_add, Nat.reduceAdd] at hd ⊢
          with_reducible refine OpGives.pre_reads [] 53 ?_ ?_ ?_
          · rfl
          · kernel_rfl
          simp only [List.map_cons, List.map_nil]
          refine OpGives.val (w' := W) ?_ ⟨Below.refl _ _, rfl, hSW⟩
          go_simp
          try with_reducible rfl
        case s8 =>
          intro g W L hL hSW hd
          try simp only [Nat.zero_add, Nat.reduceAdd] at hd ⊢
          with_reducible refine OpGives.pre_reads [] 53 ?_ ?_ ?_
          · rfl
          · kernel_rfl
          simp only [List.map_cons, List.map_nil]
          refine OpGives.val (w' := W) ?_ ⟨Below.refl _ _, rfl, hSW⟩
          go_simp
          try with_reducible rfl
        case s9 =>
          intro g W L hL hSW hd
          try simp only [Nat.zero_add, Nat.reduceAdd] at hd ⊢
          have h7 : g 7 = _ := hd 7 (by decide) (by kernel_rfl)
          have h8 : g 8 = _ := hd 8 (by decide) (by kernel_rfl)
          with_reducible refine OpGives.pre_reads [(40, 7), (41, 8)] 53 ?_ ?_ ?_
          · rfl
          · kernel_rfl
          simp only [List.map_cons, List.map_nil]
          refine OpGives.val (v := .pointer (some (ad.add (i * 5)))) (w' := W) ?_ ⟨Below.refl _ _, rfl, hSW⟩; rw [h7, h8]; go_simp
        case s10 =>
          intro g W L hL hSW hd
          try simp only [Nat.zero_add, Nat.reduceAdd] at hd ⊢
          have h9 : g 9 = _ := hd 9 (by decide) (by kernel_rfl)
          with_reducible refine OpGives.pre_reads [(42, 9)] 53 ?_ ?_ ?_
          · rfl
          · kernel_rfl
          simp only [List.map_cons, List.map_nil]
          rw [h9]; refine OpGives.val (v := .pointer (some ⟨(ad.add (i * 5)).block, (ad.add (i * 5)).off + 1, none⟩)) (w' := W) ?_ ⟨Below.refl _ _, rfl, hSW⟩; go_simp
        case s11 =>
          intro g W L hL hSW hd
          try simp only [Nat.zero_add, Nat.reduceAdd] at hd ⊢
          have h10 : g 10 = _ := hd 10 (by decide) (by kernel_rfl)
          with_reducible refine OpGives.pre_reads [(43, 10)] 53 ?_ ?_ ?_
          · rfl
          · kernel_rfl
          simp only [List.map_cons, List.map_nil]
          rw [h10]; obtain ⟨z0, z1, z2, z3, z4, z5⟩ := HCL.out W hSW; refine OpGives.val (v := .int .i64 x.f1) (w' := W) ?_ ⟨Below.refl _ _, rfl, hSW⟩; go_simp
        case s12 =>
          intro g W L hL hSW hd
          try simp only [Nat.zero_add, Nat.reduceAdd] at hd ⊢
          have h11 : g 11 = _ := hd 11 (by decide) (by kernel_rfl)
          with_reducible refine OpGives.pre_reads [(44, 11)] 53 ?_ ?_ ?_
          · rfl
          · kernel_rfl
          simp only [List.map_cons, List.map_nil]
          rw [h11]; refine OpGives.call (f := 52) (args := #[.int .i64 x.f1]) (w' := W) (by go_simp) ((num7_R x.f1 W).mono fun e W' ⟨he, hb⟩ => ⟨_, he, hb, num_F _ _ _, hSW.trans (hb.mono hSW.size)⟩)
        case s13 =>
          intro g W L hL hSW hd
          try simp only [Nat.zero_add, Nat.reduceAdd] at hd ⊢
          with_reducible refine OpGives.pre_reads [] 53 ?_ ?_ ?_
          · rfl
          · kernel_rfl
          simp only [List.map_cons, List.map_nil]
          obtain ⟨z0, z1, z2, z3, z4, z5⟩ := HCL.out W hSW; refine OpGives.val (v := valV x.f2) (w' := W) ?_ ⟨Below.refl _ _, val_F _ _ _, hSW⟩; unfold valV; go_simp
        case s14 =>
          intro g W L hL hSW hd
          try simp only [Nat.zero_add, Nat.reduceAdd] at hd ⊢
          have h6 := hd 6 (by decide) (by kernel_rfl)
          change (cellF W5.heap.size (numC x.f0)) (g 6) W at h6
          have h12 := hd 12 (by decide) (by kernel_rfl)
          change (cellF W5.heap.size (numC x.f1)) (g 12) W at h12
          have h13 := hd 13 (by decide) (by kernel_rfl)
          change (cellF W5.heap.size (valC x.f2)) (g 13) W at h13
          with_reducible refine OpGives.pre_reads [(39, 6), (45, 12), (46, 13)] 53 ?_ ?_ ?_
          · rfl
          · kernel_rfl
          simp only [List.map_cons, List.map_nil]
          refine OpGives.val (v := .slice (some ⟨W.heap.size, 0, none⟩) 3 3) (w' := W.alloc (.cells ([g 6, g 12, g 13].flatMap fun v => v.cells.toList).toArray 42)) (exec_buildSlice 40 3 _ rfl (lit_run3 h6 h12 h13 _ (by simp [rdl_cons]))) ⟨(Below.refl _ _).alloc (Nat.le_refl _) _, rowF_of (repsM_3 h6 h12 h13) hSW.size (by simp), hSW.alloc hSW.size _⟩
        case s15 =>
          intro g W L hL hSW hd
          try simp only [Nat.zero_add, Nat.reduceAdd] at hd ⊢
          have h14 := hd 14 (by decide) (by kernel_rfl)
          change (rowF W5.heap.size [numC x.f0, numC x.f1, valC x.f2]) (g 14) W at h14
          with_reducible refine OpGives.pre_reads [(47, 14)] 53 ?_ ?_ ?_
          · rfl
          · kernel_rfl
          simp only [List.map_cons, List.map_nil]
          refine OpGives.call (f := 51) (args := #[g 14]) (w' := W) (by go_simp) ((list7_R h14).mono fun e W' ⟨u, he, hf, hb⟩ => ⟨u, he, hb, hf, hSW.trans (hb.mono hSW.size)⟩)
        case s16 =>
          intro g W L hL hSW hd
          try simp only [Nat.zero_add, Nat.reduceAdd] at hd ⊢
          have h15 := hd 15 (by decide) (by kernel_rfl)
          change (cellF W5.heap.size (rowC x)) (g 15) W at h15
          with_reducible refine OpGives.pre_reads [(48, 15)] 53 ?_ ?_ ?_
          · rfl
          · kernel_rfl
          simp only [List.map_cons, List.map_nil]
          refine OpGives.val (v := .slice (some ⟨W.heap.size, 0, none⟩) 1 1) (w' := W.alloc (.cells ([g 15].flatMap fun v => v.cells.toList).toArray 42)) (exec_buildSlice 40 1 _ rfl (lit_run1 h15 _ (by simp [rdl_cons]))) ⟨(Below.refl _ _).alloc (Nat.le_refl _) _, litC_of (repsM_1 h15) hSW.size, hSW.alloc hSW.size _⟩
        case hst =>
          refine fun i j v w w' _ h hR => st_of (R := fun W W' => Below W.heap.size W W') ?_ i v w w' h hR
          repeat' first
            | exact trivial
            | with_reducible refine StL.eq ?_
            | refine ⟨fun v w w' h hR => cellF_below h hR, ?_⟩
            | refine ⟨fun v w w' h hR => rowF_below h hR, ?_⟩
            | refine ⟨fun v w w' h hR => litC_below h hR, ?_⟩
        case h0 => exact (Below.refl _ _).drew
        case fin =>
          intro v' W L hL hSW hf
          have h16 := hf 16 (Nat.lt_of_lt_of_eq (by decide : 16 < 17) rfl)
          have h0 : v' 0 = _ := hf 0 (Nat.lt_of_lt_of_eq (by decide : 0 < 17) rfl)
          change litC W5.heap.size [rowC x] (v' 16) W at h16
          clear hf
          generalize hF : Ord.pre _ _ v' _ = F
          rw [Ord.pre_lit [some 33, some 34, some 35, some 36, some 37, some 38, some 39, some 40, some 41, some 42, some 43, some 44, some 45, some 46, some 47, some 48, some 49]
            (by kernel_rfl)] at hF
          simp only [Ord.puts, Nat.zero_add, Nat.reduceAdd] at hF
          subst hF
          rw [h0]
          have hb7W := HB5.out.trans (hSW.mono HB5.out.size)
          have hrW := Kd.R_below HROW.out (⟨hb7W.os, hb7W.tape, hb7W.output, hb7W.size, hb7W.block⟩)
          obtain ⟨v8, W8, hr8, hg8, hR8⟩ := append_litB (b0 := W1.heap.size) (lo := W5.heap.size) hrW (fun k hk => Nat.lt_of_lt_of_le (HOWN.out k hk) HB5.out.size) (Nat.le_trans HBE.out.size HB5.out.size) h16 HLEN.out 40
          have hB8 := grown_below hrW hg8 (HBE.out.trans (hb7W.mono HBE.out.size)) (Nat.le_trans HBE.out.size hb7W.size)
          have hR8' : rC W8 W1.heap.size v8 ((l.take (i + 1)).map rowC) := by
            rw [List.take_add_one, HX.out]; simpa using hR8
          have HR8 := Lib.hid hR8'
          have HB8 := Lib.hid hB8
          clear hg8 hR8 hR8' hB8 hrW hb7W hSW h16
          refine any_one (i := 17) (by kernel_rfl) ?_
          refine wpOp_value (v := v8) (w' := W8) rfl rfl ?_ ?_
          · refine exec_append (.tmp 33) (.tmp 49) 40 rfl ?_
            have key : ∀ a b ty, a = u3 → b = v' 16 → ty = 40 → (Builtin.append_ #[40, 40] ty #[a, b]).run Tryd.prog W = .ok v8 W8 := by rintro _ _ _ rfl rfl rfl; exact hr8
            refine key _ _ _ ?_ ?_ rfl
            · go_simp
            · go_simp
          refine any_one (i := 18) (by kernel_rfl) ?_
          refine wpOp_value (v := v8) (w' := W8) rfl rfl (by go_simp) ?_
          refine wpAny_done (by kernel_rfl) ?_ _
          try simp only [List.getElem_toArray, List.getElem_cons_succ, List.getElem_cons_zero]
          go_frame
          clear hr8
          have hwi : IntKind.i64.wrap ((i : Int) + 1) = (i : Int) + 1 := by rw [IntKind.wrap_i64]; omega
          go_wp2_with fail
          go_roundw
          case rel => exact ⟨i + 1, by go_num, hil, HR8.out, HB8.out⟩
          case measure => simp [intOf]; omega
    · have hie : i = l.length := by omega
      have hrow := HROW.out
      rw [hie, List.take_length] at hrow
      have HL := Lib.hid (list7_R hrow)
      clear hrow hie
      go_wp2_with fail
      refine HL.out.mono ?_
      rintro e W2' ⟨u, rfl, ⟨v3, rfl, hR3⟩, hb3⟩
      obtain ⟨A3, c3, rfl⟩ := R_slice hR3
      have hb1' : Below W1.heap.size W1 W2' := HBE.out.trans (hb3.mono HBE.out.size)
      have hgb := (hb1'.block w.heap.size (by have := HS1.out; omega)).trans HG1.out
      have hbw : Below w.heap.size w W2' := HN1.out.trans (hb1'.mono HN1.out.size)
      have z0 : W2'.cell? ⟨w.heap.size, 0, none⟩ = some (.int .i64 0) := by rw [Lib.cell_of_heap hgb]; rfl
      have z1 : W2'.cell? ⟨w.heap.size, 1, none⟩ = some (.int .i64 0) := by rw [Lib.cell_of_heap hgb]; rfl
      have z2 : W2'.cell? ⟨w.heap.size, 2, none⟩ = some (.string (⟨#[]⟩ : ByteArray)) := by rw [Lib.cell_of_heap hgb]; rfl
      have z3 : W2'.cell? ⟨w.heap.size, 3, none⟩ = some (.slice none 0 0) := by rw [Lib.cell_of_heap hgb]; rfl
      have f0 := Lib.frozen_of_heap hgb 0
      have f1 := Lib.frozen_of_heap hgb 1
      have f2 := Lib.frozen_of_heap hgb 2
      have f3 := Lib.frozen_of_heap hgb 3
      have HGB := Lib.hid hgb
      have HBW := Lib.hid hbw
      have HR3 := Lib.hid hR3
      clear hb1' hgb hbw hR3 hb3
      go_wp2_with fail
      refine bodyPost_ret (results_cell_row rfl _ _ w.heap.size 42 #[.int .i64 3, .int .i64 0, .string (⟨#[]⟩ : ByteArray), .slice A3 (listC (l.map rowC)).f3.length c3] (0, 0) _ rfl (four_put HGB.out _ _ _ _) Tryd.underlying42 rfl (by kernel_rfl)) rfl ?_
      exact ⟨_, rfl, ⟨_, rfl, rC_put HR3.out (by have := HS1.out; omega) (by have := HS1.out; omega) _ _ _ _⟩, put4_below HBW.out _ _ _ _⟩
end Go.Proofs.YtgjlchcfdbmmlaaDoor.PObjectTakes
namespace Go.Proofs.YtgjlchcfdbmmlaaDoor.PObjectTakes
open Go.RowKit Go.Proofs.YtgjlchcfdbmmlaaDoor.Ord Go.Proofs.YtgjlchcfdbmmlaaDoor.Obj Go.Proofs.YtgjlchcfdbmmlaaDoorW.PrintWords Go.Proofs.YtgjlchcfdbmmlaaDoorW.PrintLast Go.Proofs.YtgjlchcfdbmmlaaDoorW.PrintMore
attribute [local irreducible] OpGives

/-- What a cell is: a number, a text, or a row of such. -/
def anyK (d : Kd S42) : Kd S42 where
  sz := 1
  E := 69 :: d.E
  K := fun w x cs => (x.f0 = 1 ∧ cs = [.iface 3 (.int .i64 x.f1)]) ∨ (x.f0 = 2 ∧ cs = [.iface 9 (.string x.f2)]) ∨ (x.f0 ≠ 1 ∧ x.f0 ≠ 2 ∧ ∃ A c, cs = [.iface 99 (.slice A x.f3.length c)] ∧ x.f3.length ≤ c ∧ d.C w A x.f3.length x.f3)
  M := fun w base ok x cs => (x.f0 = 1 ∧ cs = [.iface 3 (.int .i64 x.f1)]) ∨ (x.f0 = 2 ∧ cs = [.iface 9 (.string x.f2)]) ∨ (x.f0 ≠ 1 ∧ x.f0 ≠ 2 ∧ ∃ v, cs = [.iface 99 v] ∧ d.R 69 w base ok v x.f3)
  K_len := by
    rintro w x cs (⟨_, rfl⟩ | ⟨_, rfl⟩ | ⟨_, _, A, c, rfl, _⟩) <;> rfl
  K_one := by
    rintro w x cs (⟨_, rfl⟩ | ⟨_, rfl⟩ | ⟨_, _, A, c, rfl, _⟩) u hu <;> (rw [List.mem_singleton.1 hu]; rfl)
  K_below := by
    rintro w w1 x cs hb (⟨h, rfl⟩ | ⟨h, rfl⟩ | ⟨h1, h2, A, c, rfl, hl, hr⟩)
    · exact .inl ⟨h, rfl⟩
    · exact .inr (.inl ⟨h, rfl⟩)
    · exact .inr (.inr ⟨h1, h2, A, c, rfl, hl, Kd.C_below hr hb⟩)
  K_of_M := by
    rintro w base ok x cs (⟨h, rfl⟩ | ⟨h, rfl⟩ | ⟨h1, h2, v, rfl, hr⟩)
    · exact .inl ⟨h, rfl⟩
    · exact .inr (.inl ⟨h, rfl⟩)
    · obtain ⟨A, c, rfl, hl, hr⟩ := Kd.R_reads hr
      exact .inr (.inr ⟨h1, h2, A, c, rfl, hl, hr⟩)
  M_mono := by
    rintro w base ok ok' x cs hok (⟨h, rfl⟩ | ⟨h, rfl⟩ | ⟨h1, h2, v, rfl, hr⟩)
    · exact .inl ⟨h, rfl⟩
    · exact .inr (.inl ⟨h, rfl⟩)
    · exact .inr (.inr ⟨h1, h2, v, rfl, Kd.R_mono hr hok⟩)
  M_bound := by
    rintro w base ok x cs (⟨h, rfl⟩ | ⟨h, rfl⟩ | ⟨h1, h2, v, rfl, hr⟩)
    · exact .inl ⟨h, rfl⟩
    · exact .inr (.inl ⟨h, rfl⟩)
    · exact .inr (.inr ⟨h1, h2, v, rfl, Kd.R_bound hr⟩)
  M_move := by
    rintro w w1 base ok x cs hm (⟨h, rfl⟩ | ⟨h, rfl⟩ | ⟨h1, h2, v, rfl, hr⟩)
    · exact .inl ⟨h, rfl⟩
    · exact .inr (.inl ⟨h, rfl⟩)
    · exact .inr (.inr ⟨h1, h2, v, rfl, Kd.R_move hr hm⟩)
  M_lower := by
    rintro w base base' ok x cs hb (⟨h, rfl⟩ | ⟨h, rfl⟩ | ⟨h1, h2, v, rfl, hr⟩)
    · exact .inl ⟨h, rfl⟩
    · exact .inr (.inl ⟨h, rfl⟩)
    · exact .inr (.inr ⟨h1, h2, v, rfl, Kd.R_lower hr hb⟩)
theorem anyK_mono : Kd.Mono anyK := by
  refine ⟨fun _ _ _ => rfl, ?_, ?_⟩
  · rintro d d' hs h w x cs (⟨h1, rfl⟩ | ⟨h1, rfl⟩ | ⟨h1, h2, A, c, rfl, hl, hr⟩)
    · exact .inl ⟨h1, rfl⟩
    · exact .inr (.inl ⟨h1, rfl⟩)
    · exact .inr (.inr ⟨h1, h2, A, c, rfl, hl, Kd.C_imp hs h hr⟩)
  · rintro d d' hs h w base ok x cs (⟨h1, rfl⟩ | ⟨h1, rfl⟩ | ⟨h1, h2, v, rfl, hr⟩)
    · exact .inl ⟨h1, rfl⟩
    · exact .inr (.inl ⟨h1, rfl⟩)
    · exact .inr (.inr ⟨h1, h2, v, rfl, Kd.R_imp hs h hr⟩)
theorem anyK_sub : Kd.Sub anyK [69] := fun d h q hq => by
  rcases List.mem_cons.1 hq with rfl | hq
  · exact List.mem_singleton.2 rfl
  · exact h q hq
theorem anyK_sz : ∀ n, (Kd.upto anyK 1 [69] n).sz = 1 := Kd.upto_sz (fun _ => rfl)
def kA : Kd S42 := Kd.fix anyK 1 [69] anyK_sz (Kd.upto_E anyK_sub)
theorem kA_open {w : World} {x : S42} {cs : List Value} (h : kA.K w x cs) : (x.f0 = 1 ∧ cs = [.iface 3 (.int .i64 x.f1)]) ∨ (x.f0 = 2 ∧ cs = [.iface 9 (.string x.f2)]) ∨ (x.f0 ≠ 1 ∧ x.f0 ≠ 2 ∧ ∃ A c, cs = [.iface 99 (.slice A x.f3.length c)] ∧ x.f3.length ≤ c ∧ kA.C w A x.f3.length x.f3) := by
  obtain ⟨n, h⟩ := h
  cases n with
  | zero => exact h.elim
  | succ n =>
    rcases h with h | h | ⟨h1, h2, A, c, e, hl, hr⟩
    · exact .inl h
    · exact .inr (.inl h)
    · exact .inr (.inr ⟨h1, h2, A, c, e, hl, Kd.fix_C hr⟩)
theorem kA_mkM {w : World} {base : Nat} {ok : Nat → Prop} {x : S42} {v : Value} (h1 : x.f0 ≠ 1) (h2 : x.f0 ≠ 2) (h : kA.R 69 w base ok v x.f3) : kA.M w base ok x [.iface 99 v] := by
  obtain ⟨n, q⟩ := Kd.fix_R_back anyK_mono h
  exact ⟨n + 1, .inr (.inr ⟨h1, h2, v, rfl, q⟩)⟩
theorem kA_int {w : World} {base : Nat} {ok : Nat → Prop} {x : S42} (h : x.f0 = 1) : kA.M w base ok x [.iface 3 (.int .i64 x.f1)] := ⟨1, .inl ⟨h, rfl⟩⟩
theorem kA_str {w : World} {base : Nat} {ok : Nat → Prop} {x : S42} (h : x.f0 = 2) : kA.M w base ok x [.iface 9 (.string x.f2)] := ⟨1, .inr (.inl ⟨h, rfl⟩)⟩
/-- A value that is what a cell is; of the call's own. -/
def anyF (base : Nat) (x : S42) (u : Value) (W : World) : Prop := kA.M W base (fun _ => True) x [u]
abbrev rA (W : World) (base : Nat) (v : Value) (l : List S42) : Prop := Kd.R kA 69 W base (fun _ => True) v l
theorem infoAny : (Tryd.prog.info? 69).map (fun i => (i.zero, i.size, i.bytes)) = some (some .nilIface, 1, 16) := by kernel_rfl
theorem anyF_one {base : Nat} {x : S42} {u : Value} {W : World} (h : anyF base x u W) : u.oneCell' = true := kA.K_one (kA.K_of_M h) u (List.mem_singleton.2 rfl)
theorem anyF_iface {base : Nat} {x : S42} {u : Value} {W : World} (h : anyF base x u W) : ∃ t p, u = .iface t p := by
  rcases kA_open (kA.K_of_M h) with ⟨_, e⟩ | ⟨_, e⟩ | ⟨_, _, A, c, e, _⟩
  · exact ⟨_, _, (List.cons.inj e).1⟩
  · exact ⟨_, _, (List.cons.inj e).1⟩
  · exact ⟨_, _, (List.cons.inj e).1⟩
/-- The append of one more. -/
theorem append_any {W : World} {b0 lo : Nat} {v u : Value} {acc : List S42} {x : S42} {g : Nat} (hR : rA W b0 v acc) (hv : ∀ k, v.ownBlock = some k → k < lo) (hb0 : b0 ≤ lo) (hgl : lo ≤ g)
    (hg : W.heap[g]? = some (.cells #[u] 69 (0, 0))) (hu : anyF lo x u W) (hn : acc.length ≤ 2513169434916) (ty : TypeId) :
    ∃ v' W', (Builtin.append_ #[99, 99] ty #[v, .slice (some ⟨g, 0, none⟩) 1 1]).run Tryd.prog W = .ok v' W' ∧ W.grownBy W' v.ownBlock ∧ rA W' b0 v' (acc ++ [x]) := by
  obtain ⟨i0, hi0, hz0, hz1, hz2⟩ := info_parts infoAny
  have h1 := anyF_one hu
  have hgs := (Array.getElem?_eq_some_iff.1 hg).1
  obtain ⟨h0, inner, hown, hreps⟩ := hR
  have hbn : (acc.length + 1) * 16 ≤ 2513169434917 * 16 := Nat.mul_le_mul (by omega) (Nat.le_refl _)
  obtain ⟨h, cap, W', hr, hown', hgr, hat, _⟩ := run_append_lies (P := Tryd.prog) W 99 ty b0 69 i0 _ 1 16 Tryd.underlying99 hi0 hz0 hz1 hz2 (by rfl) (by decide) v acc.length _ hown ⟨g, 0, none⟩ 1 1 [u]
    (by rfl) (World.news_of_block (cs := #[u]) hg) (by
      intro u' hu'
      rw [List.mem_singleton.1 hu']; exact h1) (by decide) (by unfold maxLen; omega) (by omega) (by omega) W.heap.size rfl
  have hm3 : Kd.M kA W b0 (fun k => lo ≤ k) x [u] := kA.M_lower hb0 (kA.M_mono (fun k hk => hk.2.1) (kA.M_bound hu))
  have hres := Kd.R_appended (d := kA) (e := 69) (base := b0) (ok := fun _ => True) (W := W) (w1 := W') (v := v) (v1 := .slice (some ⟨h, 0, none⟩) (acc.length + 1) cap) h0 hreps hm3 (fun k hk => ⟨trivial, fun e => by have := hv k e.symm; omega⟩) (fun k hk => trivial) hown' hgr
    (hat.elim (fun e => .inl (by rw [e]; rfl)) (fun e => .inr ⟨h, rfl, by omega⟩))
  exact ⟨_, W', hr, hgr, hres⟩
theorem grown_belowA {W W' : World} {b0 : Nat} {v : Value} {w : World} {acc : List S42} (hR : rA W b0 v acc) (h : W.grownBy W' v.ownBlock) (hb : Below b0 w W) (hs : b0 ≤ W.heap.size) : Below b0 w W' := by
  have : Below b0 W W' := ⟨h.os, h.tape, h.output, h.size, fun k hk => by
    by_cases e : some k = v.ownBlock
    · obtain ⟨_, inner, hown, _⟩ := hR
      have := own_base hown k e.symm; omega
    · exact h.block k (by omega) e⟩
  exact hb.trans this
theorem rA_own {b : Nat} {v : Value} {l : List S42} {W : World} (h : rA W b v l) : ∀ k, v.ownBlock = some k → k < W.heap.size := fun k hk => by
  obtain ⟨_, inner, ho, _⟩ := h
  exact own_lt ho k hk
def PlainPost (x : S42) (w : World) (e : Ending) (w' : World) : Prop := ∃ u, e = .returned u ∧ anyF w.heap.size x u w' ∧ Below w.heap.size w w'
theorem rA_new (W : World) (b0 : Nat) (h : b0 ≤ W.heap.size) : rA (W.alloc (.cells #[] 69)) b0 (.slice (some ⟨W.heap.size, 0, none⟩) 0 0) [] :=
  ⟨fun _ _ => trivial, [], ⟨by rfl, .inr ⟨W.heap.size, 0, #[], rfl, h, alloc_lastV _ _, Nat.le_refl _, by decide, rfl, rfl⟩⟩, Reps.none _ _⟩
mutual
/-- No list of a cell's is longer than an address space holds. -/
def lenW : S42 → Prop
  | ⟨_, _, _, l⟩ => l.length ≤ 2513169434916 ∧ lenWL l
def lenWL : List S42 → Prop
  | [] => True
  | x :: xs => lenW x ∧ lenWL xs
end
theorem lenWL_mem {l : List S42} (h : lenWL l) {x : S42} (hx : x ∈ l) : lenW x := by
  induction l with
  | nil => cases hx
  | cons y ys ih =>
    rw [lenWL] at h
    rcases List.mem_cons.1 hx with rfl | hx
    · exact h.1
    · exact ih h.2 hx
theorem lenWL_of {l : List S42} (h : ∀ x ∈ l, lenW x) : lenWL l := by
  induction l with
  | nil => rw [lenWL]; trivial
  | cons y ys ih => rw [lenWL]; exact ⟨h y List.mem_cons_self, ih fun x hx => h x (List.mem_cons_of_mem _ hx)⟩
theorem lenW_of_parts (x : S42) : parts x ≤ 1000000 → lenW x := by
  refine S42.ind (P := fun x => parts x ≤ 1000000 → lenW x) (fun x ih => ?_) x
  intro hp
  obtain ⟨k, n, s, l⟩ := x
  rw [parts] at hp
  have := partsL_len l
  rw [lenW]
  exact ⟨by omega, lenWL_of fun y hy => ih y hy (by have := partsL_mem hy; omega)⟩
set_option maxHeartbeats 8000000 in
set_option maxRecDepth 100000 in
theorem plainW_calls : ∀ (m : Nat) (x : S42), SizeOf.sizeOf x < m → ∀ (A : Option Addr) (c : Nat) (w : World), Kd.C k42 w A x.f3.length x.f3 → x.f3.length ≤ c → lenW x →
    Calls Tryd.prog 23 #[.agg #[.int .i64 x.f0, .int .i64 x.f1, .string x.f2, .slice A x.f3.length c]] w (PlainPost x w)
  | 0, x, h, A, c, w, hA, hc, hp => by omega
  | m + 1, x, h, A, c, w, hA, hc, hp => by
    have hIH := fun y h' A c w => plainW_calls m y h' A c w
    have HIH := Lib.hid hIH
    clear hIH
    obtain ⟨k, n, s, l⟩ := x
    simp only at hA hc ⊢
    rw [lenW] at hp
    obtain ⟨W1, hW1⟩ : ∃ W1, W1 = w.alloc (.cells #[.int .i64 k, .int .i64 n, .string s, .slice A l.length c] 42) := ⟨_, rfl⟩
    have hn1 : Below w.heap.size w W1 := by rw [hW1]; exact (Below.refl _ _).alloc (Nat.le_refl _) _
    have hg1 : W1.heap[w.heap.size]? = some (.cells #[.int .i64 k, .int .i64 n, .string s, .slice A l.length c] 42 (0, 0)) := by rw [hW1]; exact alloc_lastV _ _
    obtain ⟨⟨b0, b1, b2, b3⟩, _⟩ := box4 hg1
    have HN1 := Lib.hid hn1
    have HA := Lib.hid (Kd.C_below hA hn1)
    have hlp := hp.1
    rw [hW1] at b0 b1 b2 b3
    have HW1 := Lib.hid hW1
    have HS1 := Lib.hid (show W1.heap.size = w.heap.size + 1 by rw [hW1]; simp)
    clear hW1 hn1 hg1 hA
    by_cases hk1 : k = 1
    · subst hk1
      go_enter Tryd.func23, Tryd.ntmps23
      go_wp2_with fail
      rw [← HW1.out]
      go_ret
      exact ⟨_, rfl, kA_int rfl, HN1.out⟩
    · have hk1' : (k == 1) = false := by simpa using hk1
      by_cases hk2 : k = 2
      · subst hk2
        go_enter Tryd.func23, Tryd.ntmps23
        go_wp2_with fail
        rw [← HW1.out]
        go_ret
        exact ⟨_, rfl, kA_str rfl, HN1.out⟩
      · have hk2' : (k == 2) = false := by simpa using hk2
        have HK := Lib.hid (And.intro hk1 hk2)
        clear hk1 hk2
        go_enter Tryd.func23, Tryd.ntmps23
        go_wp2_with fail
        rw [← HW1.out]
        clear b0 b1 b2 b3
        obtain ⟨W2, hW2⟩ : ∃ W2, W2 = W1.alloc (.cells #[] 69) := ⟨_, rfl⟩
        have hn2 : Below W1.heap.size W1 W2 := by rw [hW2]; exact (Below.refl _ _).alloc (Nat.le_refl _) _
        have hr2 : rA W2 W1.heap.size (.slice (some ⟨W1.heap.size, 0, none⟩) 0 0) [] := by rw [hW2]; exact rA_new W1 _ (Nat.le_refl _)
        rw [HS1.out] at hr2
        have HR2 := Lib.hid hr2
        have HN2 := Lib.hid hn2
        rw [← hW2]
        clear hr2 hn2 hW2
        go_loopw [3, 22] (fun v i wr => ∃ j : Nat, i = .int .i64 (j : Int) ∧ j ≤ l.length ∧ rA wr W1.heap.size v (l.take j) ∧ Below W1.heap.size W1 wr) (fun _ i _ => l.length - (intOf i).toNat)
        case atStart => exact ⟨0, rfl, Nat.zero_le _, by rw [HS1.out]; exact HR2.out, HN2.out⟩
        case round =>
          obtain ⟨i, rfl, hi, hrow, hbe⟩ := hrel
          have HROW := Lib.hid hrow
          have HBE := Lib.hid hbe
          by_cases hil : i < l.length
          · obtain ⟨ad, A3, c3, rfl, c0, c1, c2, c3', l3, g3⟩ := at_T42 (Kd.C_below HA.out hbe) (i : Int) (by omega) (by omega)
            obtain ⟨x, hx⟩ : ∃ x, l[i]? = some x := ⟨_, List.getElem?_eq_getElem hil⟩
            have hrd : rd_T42 l (i : Int) = x := by unfold rd_T42; rw [Int.toNat_natCast, List.getD_eq_getElem?_getD, hx]; rfl
            rw [hrd] at c0 c1 c2 c3' l3 g3
            rw [Int.toNat_natCast] at c0 c1 c2 c3'
            have hpx : lenW x := lenWL_mem hp.2 (List.mem_of_getElem? hx)
            have hsz : SizeOf.sizeOf x < m := by
              have := List.sizeOf_lt_of_mem (List.mem_of_getElem? hx)
              simp at h; omega
            obtain ⟨W3, hW3⟩ : ∃ W3, W3 = wr.alloc (.cells #[.int .i64 x.f0, .int .i64 x.f1, .string x.f2, .slice A3 x.f3.length c3] 42) := ⟨_, rfl⟩
            have hn3 : Below wr.heap.size wr W3 := by rw [hW3]; exact (Below.refl _ _).alloc (Nat.le_refl _) _
            have hg3 : W3.heap[wr.heap.size]? = some (.cells #[.int .i64 x.f0, .int .i64 x.f1, .string x.f2, .slice A3 x.f3.length c3] 42 (0, 0)) := by rw [hW3]; exact alloc_lastV _ _
            have HCALL := Lib.hid (HIH.out x hsz A3 c3 W3 (Kd.C_below g3 hn3) l3 hpx)
            have HN3 := Lib.hid hn3
            have HX := Lib.hid hx
            have HLEN := Lib.hid (show (l.take i).length ≤ 2513169434916 by rw [List.length_take]; omega)
            obtain ⟨⟨d0, d1, d2, d3⟩, _⟩ := box4 hg3
            rw [hW3] at d0 d1 d2 d3
            have HW3 := Lib.hid hW3
            clear hrow hbe hrd g3 hx hpx hsz hn3 hg3 hW3
            go_wp2_with fail
            rw [← HW3.out]
            clear d0 d1 d2 d3 c0 c1 c2 c3'
            refine HCALL.out.mono ?_
            rintro e W4 ⟨u, rfl, hu, hb4⟩
            obtain ⟨tu, pu, rfl⟩ := anyF_iface hu
            have hb34 : Below wr.heap.size wr W4 := HN3.out.trans (hb4.mono HN3.out.size)
            obtain ⟨W5, hW5⟩ : ∃ W5, W5 = W4.alloc (.cells #[.iface tu pu] 69) := ⟨_, rfl⟩
            have hn5 : Below W4.heap.size W4 W5 := by rw [hW5]; exact (Below.refl _ _).alloc (Nat.le_refl _) _
            have hg5 : W5.heap[W4.heap.size]? = some (.cells #[.iface tu pu] 69 (0, 0)) := by rw [hW5]; exact alloc_lastV _ _
            have hu5 : anyF wr.heap.size x (.iface tu pu) W5 := kA.M_lower HN3.out.size (Kd.M_below hu hn5)
            have hbw : Below wr.heap.size wr W5 := hb34.trans (hn5.mono hb34.size)
            have hrW := Kd.R_below HROW.out hbw
            obtain ⟨v8, W8, hr8, hg8, hR8⟩ := append_any (b0 := W1.heap.size) (lo := wr.heap.size) hrW (rA_own HROW.out) HBE.out.size (Nat.le_trans HN3.out.size hb4.size) hg5 hu5 HLEN.out 99
            have hB8 := grown_belowA hrW hg8 (HBE.out.trans (hbw.mono HBE.out.size)) (Nat.le_trans HBE.out.size hbw.size)
            have hR8' : rA W8 W1.heap.size v8 (l.take (i + 1)) := by
              rw [List.take_add_one, HX.out]; exact hR8
            have ho1 := anyF_one hu5
            have HR8 := Lib.hid hR8'
            have HB8 := Lib.hid hB8
            rw [hW5] at hr8
            have HAPP := Lib.hid hr8
            clear hg8 hR8 hR8' hB8 hrW hbw hu5 hg5 hn5 hW5 hb34 hb4 hu hr8
            go_wp2_with (refine wpList_value rfl (exec_append _ _ 99 rfl HAPP.out) ?_)
            go_roundw
            case rel => exact ⟨i + 1, by go_num, hil, HR8.out, HB8.out⟩
            case measure => simp [intOf]; omega
          · have hie : i = l.length := by omega
            rw [hie, List.take_length] at hrow
            have HROW2 := Lib.hid hrow
            clear hrow hie hbe
            go_wp2_with fail
            go_ret
            exact ⟨_, rfl, kA_mkM HK.out.1 HK.out.2 (Kd.R_lower HROW2.out HN1.out.size), HN1.out.trans (HBE.out.mono HN1.out.size)⟩
theorem plain_calls (m : Nat) (x : S42) (h : SizeOf.sizeOf x < m) (A : Option Addr) (c : Nat) (w : World) (hA : Kd.C k42 w A x.f3.length x.f3) (hc : x.f3.length ≤ c) (hp : parts x ≤ 1000000) :
    Calls Tryd.prog 23 #[.agg #[.int .i64 x.f0, .int .i64 x.f1, .string x.f2, .slice A x.f3.length c]] w (PlainPost x w) := plainW_calls m x h A c w hA hc (lenW_of_parts x hp)
end Go.Proofs.YtgjlchcfdbmmlaaDoor.PObjectTakes
