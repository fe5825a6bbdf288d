/- cell.List: the cells are laid into a row of their own. -/
import Derived.Test.YtjelpapcboiimaaUL
import Derived.Maps.AppendAt
namespace Go.Proofs.Ytjelpapcboiimaa.PCellPuts
open Go.RowKit Go.Proofs.Ytjelpapcboiimaa.Ord Go.Proofs.YtjelpapcboiimaaW.PrintWords Go.Proofs.YtjelpapcboiimaaW.PrintLast Go.Proofs.YtjelpapcboiimaaW.PrintMore
set_option linter.unusedVariables false
set_option linter.unusedSimpArgs false

theorem wpList_value {P : Program} {ops : Array Oper} {Q : Exit → Act → World → Prop} {a : Act} {w w' : World} {rest : List Oper} {o : Oper} {v : Value} (hg : o.guard = none) (hr : (execOp a.eval o).run P w = .ok (.value v) w') (h : wpList P ops Q rest (a.put o.dst v) w') : wpList P ops Q (o :: rest) a w :=
  wpList_plain hg fun K hK => by unfold Oper.wp; rw [hr]; exact hK _ _ h
theorem reps_cells {W : World} {ps : List S25} {cs : List Value} (h : Reps (k25.K W) 4 ps cs) : ∀ u ∈ cs, u.oneCell' = true := by
  intro u hu
  obtain ⟨j, hj⟩ := List.getElem?_of_mem hu
  have hjl : j < cs.length := (List.getElem?_eq_some_iff.1 hj).1
  have hlen := h.1
  have he : j / 4 < ps.length := by omega
  have hp := h.2 (j / 4) _ (List.getElem?_eq_getElem he)
  refine k25.K_one hp u (List.mem_of_getElem? (i := j - j / 4 * 4) ?_)
  rw [List.getElem?_take, if_pos (by omega), List.getElem?_drop, show j / 4 * 4 + (j - j / 4 * 4) = j by omega]
  exact hj
/-- Of nil, and of a row: a row of the call's own, the same cells in it. -/
theorem append_copy {w W : World} {l : List S25} {ad : Addr} {c : Nat} (hA : Kd.C k25 w (some ad) l.length l) (hb0 : Below w.heap.size w W) (hl : l.length ≤ 1000000) (ty : TypeId) :
    ∃ inner A' c' W', (Builtin.append_ #[23, 23] ty #[.slice none 0 0, .slice (some ad) l.length c]).run Try.prog W = .ok (.slice A' l.length c') W' ∧ Reps (k25.K w) 4 l inner ∧ W'.ownsRow W.heap.size 25 4 (.slice A' l.length c') l.length inner ∧ Below W.heap.size W W' := by
  obtain ⟨inner, hr, hc⟩ := ReadsRow.inner_ hA
  obtain ⟨i0, hi0, hz0, hz1, hz2⟩ := info_parts infoCell
  have hbn : (0 + l.length) * 56 ≤ 1000000 * 56 := Nat.mul_le_mul (by omega) (Nat.le_refl _)
  obtain ⟨v', W', hrun, hown, hg, _, hat⟩ := run_append_own_at (P := Try.prog) W W.heap.size 23 ty 25 i0 _ 4 56 Try.underlying23 hi0 hz0 hz1 hz2 (by rfl) (by decide) (.slice none 0 0) 0 [] (World.ownsRow_nil _ _ _ _) ad l.length c inner hr.1 (fun j u hu => pw_cell_below hb0 (hc j u hu)) (reps_cells hr)
    (by unfold maxLen; omega) (by omega) (Nat.le_refl _)
  rw [Nat.zero_add, List.nil_append] at hown
  have hb : Below W.heap.size W W' := ⟨hg.os, hg.tape, hg.output, hg.size, fun k hk => hg.block k hk (by simp [Value.ownBlock])⟩
  obtain ⟨A', c', rfl, _⟩ := own_reads_row hown hr rfl
  exact ⟨inner, A', c', W', hrun, hr, hown, hb⟩
set_option maxHeartbeats 4000000 in
set_option maxRecDepth 100000 in
theorem List_calls (l : List S25) (A : Option Addr) (c : Nat) (w : World) (hA : Kd.C k25 w A l.length l) (hlc : l.length ≤ c) (hl : l.length ≤ 1000000) :
    Calls Try.prog 18 #[.slice A l.length c] w fun e w' => ∃ A' c', e = .returned (.agg #[.int .i64 3, .int .i64 0, .string (⟨#[]⟩ : ByteArray), .slice A' l.length c']) ∧ Kd.C k25 w' A' l.length l ∧ l.length ≤ c' ∧ Below w.heap.size w w' := by
  obtain ⟨W1, hW1⟩ : ∃ W1, W1 = w.alloc (.cells #[.int .i64 0, .int .i64 0, .string (⟨#[]⟩ : ByteArray), .slice none 0 0] 25) := ⟨_, rfl⟩
  have hn1 : Below w.heap.size w W1 := by rw [hW1]; exact (Below.refl _ _).alloc (Nat.le_refl _) _
  have hg1 : W1.heap[w.heap.size]? = some (.cells #[.int .i64 0, .int .i64 0, .string (⟨#[]⟩ : ByteArray), .slice none 0 0] 25 (0, 0)) := by rw [hW1]; exact heap_alloc_last _ _
  cases A with
  | none =>
    have h0 : l.length = 0 := by
      rcases Nat.eq_zero_or_pos l.length with h | h
      · exact h
      · obtain ⟨ad, e, _⟩ := hA.2.2 h; cases e
    have hl0 : l = [] := List.eq_nil_of_length_eq_zero h0
    subst hl0
    clear h0
    have HW1 := Lib.hid hW1
    have HN1 := Lib.hid hn1
    have HG1 := Lib.hid hg1
    clear hW1 hn1 hg1
    go_enter Try.func18, Try.ntmps18
    go_wp2
    refine bodyPost_ret (results_cell_row rfl _ _ w.heap.size 25 #[.int .i64 3, .int .i64 0, .string (⟨#[]⟩ : ByteArray), .slice none 0 0] (0, 0) _ rfl (heap_alloc_last _ _) Try.underlying25 rfl (by kernel_rfl)) rfl ?_
    exact ⟨none, 0, rfl, Kd.C_nil _ _, Nat.le_refl _, (Below.refl _ _).alloc (Nat.le_refl _) _⟩
  | some ad =>
    obtain ⟨inner, A', c', W', hr, hreps, hown, hb'⟩ := append_copy (c := c) hA hn1 hl 23
    have hs1 := (Array.getElem?_eq_some_iff.1 hg1).1
    have hg2 := (hb'.block _ hs1).trans hg1
    have z0 : W'.cell? ⟨w.heap.size, 0, none⟩ = some (.int .i64 0) := by rw [Lib.cell_of_heap hg2]; rfl
    have z1 : W'.cell? ⟨w.heap.size, 1, none⟩ = some (.int .i64 0) := by rw [Lib.cell_of_heap hg2]; rfl
    have z2 : W'.cell? ⟨w.heap.size, 2, none⟩ = some (.string (⟨#[]⟩ : ByteArray)) := by rw [Lib.cell_of_heap hg2]; rfl
    have z3 : W'.cell? ⟨w.heap.size, 3, none⟩ = some (.slice none 0 0) := by rw [Lib.cell_of_heap hg2]; rfl
    have f0 := Lib.frozen_of_heap hg2 0
    have f1 := Lib.frozen_of_heap hg2 1
    have f2 := Lib.frozen_of_heap hg2 2
    have f3 := Lib.frozen_of_heap hg2 3
    rw [hW1] at hr
    have HG2 := Lib.hid hg2
    have HN := Lib.hid (hn1.trans (hb'.mono hn1.size))
    have HREPS := Lib.hid hreps
    have HOWN := Lib.hid hown
    have HS := Lib.hid hb'.size
    have HS1 := Lib.hid hs1
    clear hg2 hb' hn1 hg1 hA hs1 hW1 hreps hown
    go_enter Try.func18, Try.ntmps18
    go_wp2_with (refine wpList_value rfl (exec_append _ _ 23 rfl hr) ?_)
    refine bodyPost_ret (results_cell_row rfl _ _ w.heap.size 25 #[.int .i64 3, .int .i64 0, .string (⟨#[]⟩ : ByteArray), .slice A' l.length c'] (0, 0) _ rfl (four_put HG2.out _ _ _ _) Try.underlying25 rfl (by kernel_rfl)) rfl ?_
    obtain ⟨WF, hWF⟩ : ∃ WF, WF = put4 W' w.heap.size (.int .i64 3) (.int .i64 0) (.string (⟨#[]⟩ : ByteArray)) (.slice A' l.length c') := ⟨_, rfl⟩
    have hfar : ∀ k, k ≠ w.heap.size → WF.heap[k]? = W'.heap[k]? := fun k hk => by rw [hWF]; exact put4_far hk _ _ _ _
    have hbF : Below w.heap.size w WF := ⟨by rw [hWF]; exact HN.out.os, by rw [hWF]; exact HN.out.tape, by rw [hWF]; exact HN.out.output, by rw [hWF, put4_size]; exact HN.out.size, fun k hk => (hfar k (by omega)).trans (HN.out.block k hk)⟩
    have hreps : Reps (k25.K WF) 4 l inner := ⟨HREPS.out.1, fun j p hj => k25.K_below hbF (HREPS.out.2 j p hj)⟩
    have hown : WF.ownsRow W1.heap.size 25 4 (.slice A' l.length c') l.length inner := own_move HOWN.out (fun k hk => hfar k (by have := own_base HOWN.out k hk; have := HS1.out; omega))
    unfold put4 at hWF
    rw [← hWF]
    obtain ⟨A2, c2, e2, hrd⟩ := own_reads_row hown hreps rfl
    injection e2 with eA _ ec
    subst eA; subst ec
    exact ⟨_, _, rfl, hrd, own_cap hown, hbF⟩
end Go.Proofs.Ytjelpapcboiimaa.PCellPuts
