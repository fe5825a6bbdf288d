/- Texts of one proof, joined: TOE, TOF. -/
import Derived.Test.YtgjlchcfdbmmlaaDoorRObg
import Derived.Test.YtgjlchcfdbmmlaaDoorRTcg
import Derived.Test.YtgjlchcfdbmmlaaDoorRXg
import Derived.Laws.MakeOwn
set_option linter.unusedSimpArgs false
set_option linter.unusedVariables false
/- Cells that are built: a list of them, and one more behind. -/
namespace Go.Proofs.YtgjlchcfdbmmlaaDoor.PObjectTakes
open Go.RowKit Go.Proofs.YtgjlchcfdbmmlaaDoor.Ord Go.Proofs.YtgjlchcfdbmmlaaDoorW.PrintWords Go.Proofs.YtgjlchcfdbmmlaaDoorW.PrintLast Go.Proofs.YtgjlchcfdbmmlaaDoorW.PrintMore
set_option linter.unusedVariables false
set_option linter.unusedSimpArgs false
attribute [local irreducible] OpGives

abbrev rC (W : World) (base : Nat) (v : Value) (l : List S42) : Prop := Kd.R k42 42 W base (fun _ => True) v l
/-- A cell of the call's own. -/
def cellF (base : Nat) (x : S42) : Value → World → Prop := fun u W => ∃ v3, u = .agg #[.int .i64 x.f0, .int .i64 x.f1, .string x.f2, v3] ∧ rC W base v3 x.f3
theorem cellF_below {base : Nat} {x : S42} {u : Value} {W W' : World} (h : cellF base x u W) (hb : Below W.heap.size W W') : cellF base x u W' := by
  obtain ⟨v3, e, hr⟩ := h
  exact ⟨v3, e, Kd.R_below hr hb⟩
def CellPostR (base : Nat) (x : S42) (w : World) (e : Ending) (w' : World) : Prop := ∃ u, e = .returned u ∧ cellF base x u w' ∧ Below w.heap.size w w'
/-- The cells of an own cell, for a literal. -/
theorem cellF_M {base : Nat} {x : S42} {u : Value} {W : World} (h : cellF base x u W) : Kd.M k42 W base (fun _ => True) x u.cells.toList := by
  obtain ⟨v3, rfl, hr⟩ := h
  exact k42_mkM W base _ x hr
theorem R_one {W : World} {base : Nat} {ok : Nat → Prop} {v : Value} {l : List S42} (h : Kd.R k42 42 W base ok v l) : v.oneCell' = true := by
  obtain ⟨A, c, rfl, _⟩ := Kd.R_reads h
  rfl
/-- Cells laid side by side. -/
def repsM (W : World) (base : Nat) (l : List S42) (inner : List Value) : Prop := Reps (Kd.M k42 W base (fun _ => True)) 4 l inner
theorem repsM_below {W W' : World} {base : Nat} {l : List S42} {inner : List Value} (h : repsM W base l inner) (hb : Below W.heap.size W W') : repsM W' base l inner := ⟨h.1, fun j p hj => Kd.M_below (h.2 j p hj) hb⟩
theorem repsM_nil (W : World) (base : Nat) : repsM W base [] [] := Reps.none _ _
theorem cellF_len {base : Nat} {x : S42} {u : Value} {W : World} (h : cellF base x u W) : u.cells.toList.length = 4 := by
  obtain ⟨v3, rfl, hr⟩ := h; rfl
theorem repsM_snoc {W : World} {base : Nat} {l : List S42} {inner : List Value} {x : S42} {u : Value} (h : repsM W base l inner) (hx : cellF base x u W) : repsM W base (l ++ [x]) (inner ++ u.cells.toList) :=
  Reps.snoc h (cellF_M hx) (cellF_len hx)
theorem repsM_K {W : World} {base : Nat} {l : List S42} {inner : List Value} (h : repsM W base l inner) : Reps (k42.K W) 4 l inner := ⟨h.1, fun j p hj => (k42).K_of_M (h.2 j p hj)⟩
/-- Of nil, and of a row: a row of the call's own, the same cells in it. -/
theorem append_copyM {W : World} {base : Nat} {l : List S42} {ad : Addr} {c : Nat} {inner : List Value} (hr : repsM W base l inner) (hc : ∀ j u, inner[j]? = some u → W.cell? (ad.add j) = some u) (hl : l.length ≤ 1000000) (ty : TypeId) :
    ∃ A' c' W', (Builtin.append_ #[40, 40] ty #[.slice none 0 0, .slice (some ad) l.length c]).run Tryd.prog W = .ok (.slice A' l.length c') W' ∧ W'.ownsRow W.heap.size 42 4 (.slice A' l.length c') l.length inner ∧ Below W.heap.size W W' := by
  obtain ⟨i0, hi0, hz0, hz1, hz2⟩ := info_parts infoCell
  have hbn : (0 + l.length) * 56 ≤ 1000000 * 56 := Nat.mul_le_mul (by omega) (Nat.le_refl _)
  obtain ⟨v', W', hrun, hown, hg, _, hat⟩ := run_append_own_at (P := Tryd.prog) W W.heap.size 40 ty 42 i0 _ 4 56 Tryd.underlying40 hi0 hz0 hz1 hz2 (by rfl) (by decide) (.slice none 0 0) 0 [] (World.ownsRow_nil _ _ _ _) ad l.length c inner hr.1 hc (reps_cells (repsM_K hr))
    (by unfold maxLen; omega) (by omega) (Nat.le_refl _)
  rw [Nat.zero_add, List.nil_append] at hown
  have hb : Below W.heap.size W W' := ⟨hg.os, hg.tape, hg.output, hg.size, fun k hk => hg.block k hk (by simp [Value.ownBlock])⟩
  obtain ⟨A', c', rfl, _⟩ := own_reads_row hown (repsM_K hr) rfl
  exact ⟨A', c', W', hrun, hown, hb⟩
def listC (l : List S42) : S42 := ⟨3, 0, ⟨#[]⟩, l⟩
set_option maxHeartbeats 4000000 in
set_option maxRecDepth 100000 in
theorem List_R (l : List S42) (A : Option Addr) (c : Nat) (w : World) (base : Nat) (inner : List Value) (hA : A = none → l = []) (hat : ∀ ad, A = some ad → ∀ j u, inner[j]? = some u → w.cell? (ad.add j) = some u)
    (hr : repsM w base l inner) (hl : l.length ≤ 1000000) (hbase : base ≤ w.heap.size) :
    Calls Tryd.prog 62 #[.slice A l.length c] w (CellPostR base (listC l) w) := by
  obtain ⟨W1, hW1⟩ : ∃ W1, W1 = w.alloc (.cells #[.int .i64 0, .int .i64 0, .string (⟨#[]⟩ : ByteArray), .slice none 0 0] 42) := ⟨_, rfl⟩
  have hn1 : Below w.heap.size w W1 := by rw [hW1]; exact (Below.refl _ _).alloc (Nat.le_refl _) _
  have hg1 : W1.heap[w.heap.size]? = some (.cells #[.int .i64 0, .int .i64 0, .string (⟨#[]⟩ : ByteArray), .slice none 0 0] 42 (0, 0)) := by rw [hW1]; exact heap_alloc_last _ _
  cases A with
  | none =>
    have hl0 : l = [] := hA rfl
    subst hl0
    have HW1 := Lib.hid hW1
    have HN1 := Lib.hid hn1
    have HG1 := Lib.hid hg1
    clear hW1 hn1 hg1 hat hr
    go_enter Tryd.func62, Tryd.ntmps62
    go_wp2
    refine bodyPost_ret (results_cell_row rfl _ _ w.heap.size 42 #[.int .i64 3, .int .i64 0, .string (⟨#[]⟩ : ByteArray), .slice none 0 0] (0, 0) _ rfl (heap_alloc_last _ _) Tryd.underlying42 rfl (by kernel_rfl)) rfl ?_
    exact ⟨_, rfl, ⟨_, rfl, Kd.R_nil _ _ _ _ _⟩, (Below.refl _ _).alloc (Nat.le_refl _) _⟩
  | some ad =>
    obtain ⟨A', c', W', hrun, hown, hb'⟩ := append_copyM (c := c) (repsM_below hr hn1) (fun j u hu => pw_cell_below hn1 (hat ad rfl j u hu)) hl 40
    have hs1 := (Array.getElem?_eq_some_iff.1 hg1).1
    have hg2 := (hb'.block _ hs1).trans hg1
    have z0 : W'.cell? ⟨w.heap.size, 0, none⟩ = some (.int .i64 0) := by rw [Lib.cell_of_heap hg2]; rfl
    have z1 : W'.cell? ⟨w.heap.size, 1, none⟩ = some (.int .i64 0) := by rw [Lib.cell_of_heap hg2]; rfl
    have z2 : W'.cell? ⟨w.heap.size, 2, none⟩ = some (.string (⟨#[]⟩ : ByteArray)) := by rw [Lib.cell_of_heap hg2]; rfl
    have z3 : W'.cell? ⟨w.heap.size, 3, none⟩ = some (.slice none 0 0) := by rw [Lib.cell_of_heap hg2]; rfl
    have f0 := Lib.frozen_of_heap hg2 0
    have f1 := Lib.frozen_of_heap hg2 1
    have f2 := Lib.frozen_of_heap hg2 2
    have f3 := Lib.frozen_of_heap hg2 3
    rw [hW1] at hrun
    have HG2 := Lib.hid hg2
    have HN := Lib.hid (hn1.trans (hb'.mono hn1.size))
    have HR := Lib.hid hr
    have HOWN := Lib.hid hown
    have HS := Lib.hid hb'.size
    have HS1 := Lib.hid hs1
    clear hg2 hb' hn1 hg1 hA hs1 hW1 hr hown hat
    go_enter Tryd.func62, Tryd.ntmps62
    go_wp2_with (refine wpList_value rfl (exec_append _ _ 40 rfl hrun) ?_)
    refine bodyPost_ret (results_cell_row rfl _ _ w.heap.size 42 #[.int .i64 3, .int .i64 0, .string (⟨#[]⟩ : ByteArray), .slice A' l.length c'] (0, 0) _ rfl (four_put HG2.out _ _ _ _) Tryd.underlying42 rfl (by kernel_rfl)) rfl ?_
    obtain ⟨WF, hWF⟩ : ∃ WF, WF = put4 W' w.heap.size (.int .i64 3) (.int .i64 0) (.string (⟨#[]⟩ : ByteArray)) (.slice A' l.length c') := ⟨_, rfl⟩
    have hfar : ∀ k, k ≠ w.heap.size → WF.heap[k]? = W'.heap[k]? := fun k hk => by rw [hWF]; exact put4_far hk _ _ _ _
    have hbF : Below w.heap.size w WF := ⟨by rw [hWF]; exact HN.out.os, by rw [hWF]; exact HN.out.tape, by rw [hWF]; exact HN.out.output, by rw [hWF, put4_size]; exact HN.out.size, fun k hk => (hfar k (by omega)).trans (HN.out.block k hk)⟩
    have hown : WF.ownsRow W1.heap.size 42 4 (.slice A' l.length c') l.length inner := own_move HOWN.out (fun k hk => hfar k (by have := own_base HOWN.out k hk; have := HS1.out; omega))
    have hne : ∀ k, k < w.heap.size → some k ≠ (Value.slice A' l.length c').ownBlock := fun k hk e => by
      have := own_base HOWN.out k e.symm; have := HS1.out; omega
    have hR : rC WF base (.slice A' l.length c') l := by
      refine ⟨fun _ _ => trivial, inner, own_weaken hown (by have := HS1.out; omega), HR.out.1, fun j p hj => ?_⟩
      have h1 := (k42).M_mono (ok' := fun k => True ∧ some k ≠ (Value.slice A' l.length c').ownBlock) (fun k hk => ⟨trivial, hne k hk.2.2.1⟩) ((k42).M_bound (HR.out.2 j p hj))
      exact Kd.M_step h1 (fun k _ hk => hbF.block k hk)
    unfold put4 at hWF
    rw [← hWF]
    exact ⟨_, rfl, ⟨_, rfl, hR⟩, hbF⟩
/-- The append of one more. -/
theorem append_item {W : World} {b0 lo : Nat} {v : Value} {acc : List S42} {x : S42} {g : Nat} {v3 : Value} (hR : rC W b0 v acc) (hv : ∀ k, v.ownBlock = some k → k < lo) (hb0 : b0 ≤ lo) (hgl : lo ≤ g)
    (hg : W.heap[g]? = some (.cells #[.int .i64 x.f0, .int .i64 x.f1, .string x.f2, v3] 42 (0, 0))) (hr3 : rC W lo v3 x.f3) (hn : acc.length ≤ 1000000) (ty : TypeId) :
    ∃ v' W', (Builtin.append_ #[40, 40] ty #[v, .slice (some ⟨g, 0, none⟩) 1 1]).run Tryd.prog W = .ok v' W' ∧ W.grownBy W' v.ownBlock ∧ rC W' b0 v' (acc ++ [x]) := by
  obtain ⟨i0, hi0, hz0, hz1, hz2⟩ := info_parts infoCell
  have h1 := R_one hr3
  have hgs := (Array.getElem?_eq_some_iff.1 hg).1
  obtain ⟨h0, inner, hown, hreps⟩ := hR
  have hbn : (acc.length + 1) * 56 ≤ 1000001 * 56 := Nat.mul_le_mul (by omega) (Nat.le_refl _)
  obtain ⟨h, cap, W', hr, hown', hgr, hat, _⟩ := run_append_lies (P := Tryd.prog) W 40 ty b0 42 i0 _ 4 56 Tryd.underlying40 hi0 hz0 hz1 hz2 (by rfl) (by decide) v acc.length _ hown ⟨g, 0, none⟩ 1 1 [.int .i64 x.f0, .int .i64 x.f1, .string x.f2, v3]
    (by rfl) (World.news_of_block (cs := #[.int .i64 x.f0, .int .i64 x.f1, .string x.f2, v3]) hg) (by
      intro u hu
      simp only [List.mem_cons, List.not_mem_nil, or_false] at hu
      rcases hu with rfl | rfl | rfl | rfl
      · rfl
      · rfl
      · rfl
      · exact h1) (by decide) (by unfold maxLen; omega) (by omega) (by omega) W.heap.size rfl
  have hm3 : Kd.M k42 W b0 (fun k => lo ≤ k) x [.int .i64 x.f0, .int .i64 x.f1, .string x.f2, v3] :=
    k42_mkM W b0 _ x (Kd.R_lower (Kd.R_mono (Kd.R_bound hr3) (fun k hk => hk.2.1)) hb0)
  have hres := Kd.R_appended (d := k42) (e := 42) (base := b0) (ok := fun _ => True) (W := W) (w1 := W') (v := v) (v1 := .slice (some ⟨h, 0, none⟩) (acc.length + 1) cap) h0 hreps hm3 (fun k hk => ⟨trivial, fun e => by have := hv k e.symm; omega⟩) (fun k hk => trivial) hown' hgr
    (hat.elim (fun e => .inl (by rw [e]; rfl)) (fun e => .inr ⟨h, rfl, by omega⟩))
  exact ⟨_, W', hr, hgr, hres⟩
theorem grown_below {W W' : World} {b0 : Nat} {v : Value} {w : World} {acc : List S42} (hR : rC W b0 v acc) (h : W.grownBy W' v.ownBlock) (hb : Below b0 w W) (hs : b0 ≤ W.heap.size) : Below b0 w W' := by
  have : Below b0 W W' := ⟨h.os, h.tape, h.output, h.size, fun k hk => by
    by_cases e : some k = v.ownBlock
    · obtain ⟨_, inner, hown, _⟩ := hR
      have := own_base hown k e.symm; omega
    · exact h.block k (by omega) e⟩
  exact hb.trans this
/-- A literal of cells. -/
def litC (lo : Nat) (xs : List S42) : Value → World → Prop := fun u W =>
  ∃ g cs, u = .slice (some ⟨g, 0, none⟩) xs.length xs.length ∧ lo ≤ g ∧ W.heap[g]? = some (.cells cs.toArray 42 (0, 0)) ∧ repsM W lo xs cs
theorem litC_below {lo : Nat} {xs : List S42} {u : Value} {W W' : World} (h : litC lo xs u W) (hb : Below W.heap.size W W') : litC lo xs u W' := by
  obtain ⟨g, cs, e, hl, hg, hr⟩ := h
  exact ⟨g, cs, e, hl, (hb.block g (Array.getElem?_eq_some_iff.1 hg).1).trans hg, repsM_below hr hb⟩
theorem litC_of {lo : Nat} {xs : List S42} {us : List Value} {W : World} (hr : repsM W lo xs (us.flatMap fun v => v.cells.toList)) (hlo : lo ≤ W.heap.size) :
    litC lo xs (.slice (some ⟨W.heap.size, 0, none⟩) xs.length xs.length) (W.alloc (.cells (us.flatMap fun v => v.cells.toList).toArray 42)) :=
  ⟨_, _, rfl, hlo, heap_alloc_last _ _, repsM_below hr ((Below.refl _ _).alloc (Nat.le_refl _) _)⟩
theorem lit_run (W : World) (us : List Value) (n : Nat) (parts : Array (Nat × Value)) (hp : parts.toList = (us.zipIdx 0).map fun x => (x.2, x.1)) (hn : 0 < n) (hl : us.length = n) (hsm : n ≤ 1000) (h1 : ∀ v ∈ us, v.cells.size = 4) :
    (Instr.buildSlice 40 n parts).run Tryd.prog W = .ok (.slice (some ⟨W.heap.size, 0, none⟩) n n) (W.alloc (.cells (us.flatMap fun v => v.cells.toList).toArray 42)) :=
  run_lit W 40 42 4 n us parts _ 56 Tryd.underlying40 infoCell hp (by decide) hn hl (by omega) h1
theorem repsM_1 {W : World} {lo : Nat} {x1 : S42} {u1 : Value} (h1 : cellF lo x1 u1 W) : repsM W lo [x1] ([u1].flatMap fun v => v.cells.toList) := by
  simpa using repsM_snoc (repsM_nil W lo) h1
theorem repsM_2 {W : World} {lo : Nat} {x1 x2 : S42} {u1 u2 : Value} (h1 : cellF lo x1 u1 W) (h2 : cellF lo x2 u2 W) : repsM W lo [x1, x2] ([u1, u2].flatMap fun v => v.cells.toList) := by
  simpa using repsM_snoc (repsM_snoc (repsM_nil W lo) h1) h2
theorem repsM_3 {W : World} {lo : Nat} {x1 x2 x3 : S42} {u1 u2 u3 : Value} (h1 : cellF lo x1 u1 W) (h2 : cellF lo x2 u2 W) (h3 : cellF lo x3 u3 W) : repsM W lo [x1, x2, x3] ([u1, u2, u3].flatMap fun v => v.cells.toList) := by
  simpa using repsM_snoc (repsM_snoc (repsM_snoc (repsM_nil W lo) h1) h2) h3
theorem repsM_4 {W : World} {lo : Nat} {x1 x2 x3 x4 : S42} {u1 u2 u3 u4 : Value} (h1 : cellF lo x1 u1 W) (h2 : cellF lo x2 u2 W) (h3 : cellF lo x3 u3 W) (h4 : cellF lo x4 u4 W) : repsM W lo [x1, x2, x3, x4] ([u1, u2, u3, u4].flatMap fun v => v.cells.toList) := by
  simpa using repsM_snoc (repsM_snoc (repsM_snoc (repsM_snoc (repsM_nil W lo) h1) h2) h3) h4
theorem repsM_5 {W : World} {lo : Nat} {x1 x2 x3 x4 x5 : S42} {u1 u2 u3 u4 u5 : Value} (h1 : cellF lo x1 u1 W) (h2 : cellF lo x2 u2 W) (h3 : cellF lo x3 u3 W) (h4 : cellF lo x4 u4 W) (h5 : cellF lo x5 u5 W) : repsM W lo [x1, x2, x3, x4, x5] ([u1, u2, u3, u4, u5].flatMap fun v => v.cells.toList) := by
  simpa using repsM_snoc (repsM_snoc (repsM_snoc (repsM_snoc (repsM_snoc (repsM_nil W lo) h1) h2) h3) h4) h5
theorem cellF_size {base : Nat} {x : S42} {u : Value} {W : World} (h : cellF base x u W) : u.cells.size = 4 := by
  obtain ⟨v3, rfl, hr⟩ := h; rfl
theorem lit_run1 {W : World} {lo : Nat} {x1 : S42} {u1 : Value} (h1 : cellF lo x1 u1 W) (parts : Array (Nat × Value)) (hp : parts.toList = [(0, u1)]) :
    (Instr.buildSlice 40 1 parts).run Tryd.prog W = .ok (.slice (some ⟨W.heap.size, 0, none⟩) 1 1) (W.alloc (.cells ([u1].flatMap fun v => v.cells.toList).toArray 42)) :=
  lit_run W [u1] 1 parts (by rw [hp]; rfl) (by decide) rfl (by decide) (fun v hv => by
    simp only [List.mem_cons, List.not_mem_nil, or_false] at hv
    rcases hv with rfl
    exact cellF_size h1)
theorem lit_run2 {W : World} {lo : Nat} {x1 x2 : S42} {u1 u2 : Value} (h1 : cellF lo x1 u1 W) (h2 : cellF lo x2 u2 W) (parts : Array (Nat × Value)) (hp : parts.toList = [(0, u1), (1, u2)]) :
    (Instr.buildSlice 40 2 parts).run Tryd.prog W = .ok (.slice (some ⟨W.heap.size, 0, none⟩) 2 2) (W.alloc (.cells ([u1, u2].flatMap fun v => v.cells.toList).toArray 42)) :=
  lit_run W [u1, u2] 2 parts (by rw [hp]; rfl) (by decide) rfl (by decide) (fun v hv => by
    simp only [List.mem_cons, List.not_mem_nil, or_false] at hv
    rcases hv with rfl | rfl
    all_goals first | exact cellF_size h1 | exact cellF_size h2)
theorem lit_run3 {W : World} {lo : Nat} {x1 x2 x3 : S42} {u1 u2 u3 : Value} (h1 : cellF lo x1 u1 W) (h2 : cellF lo x2 u2 W) (h3 : cellF lo x3 u3 W) (parts : Array (Nat × Value)) (hp : parts.toList = [(0, u1), (1, u2), (2, u3)]) :
    (Instr.buildSlice 40 3 parts).run Tryd.prog W = .ok (.slice (some ⟨W.heap.size, 0, none⟩) 3 3) (W.alloc (.cells ([u1, u2, u3].flatMap fun v => v.cells.toList).toArray 42)) :=
  lit_run W [u1, u2, u3] 3 parts (by rw [hp]; rfl) (by decide) rfl (by decide) (fun v hv => by
    simp only [List.mem_cons, List.not_mem_nil, or_false] at hv
    rcases hv with rfl | rfl | rfl
    all_goals first | exact cellF_size h1 | exact cellF_size h2 | exact cellF_size h3)
theorem lit_run4 {W : World} {lo : Nat} {x1 x2 x3 x4 : S42} {u1 u2 u3 u4 : Value} (h1 : cellF lo x1 u1 W) (h2 : cellF lo x2 u2 W) (h3 : cellF lo x3 u3 W) (h4 : cellF lo x4 u4 W) (parts : Array (Nat × Value)) (hp : parts.toList = [(0, u1), (1, u2), (2, u3), (3, u4)]) :
    (Instr.buildSlice 40 4 parts).run Tryd.prog W = .ok (.slice (some ⟨W.heap.size, 0, none⟩) 4 4) (W.alloc (.cells ([u1, u2, u3, u4].flatMap fun v => v.cells.toList).toArray 42)) :=
  lit_run W [u1, u2, u3, u4] 4 parts (by rw [hp]; rfl) (by decide) rfl (by decide) (fun v hv => by
    simp only [List.mem_cons, List.not_mem_nil, or_false] at hv
    rcases hv with rfl | rfl | rfl | rfl
    all_goals first | exact cellF_size h1 | exact cellF_size h2 | exact cellF_size h3 | exact cellF_size h4)
theorem lit_run5 {W : World} {lo : Nat} {x1 x2 x3 x4 x5 : S42} {u1 u2 u3 u4 u5 : Value} (h1 : cellF lo x1 u1 W) (h2 : cellF lo x2 u2 W) (h3 : cellF lo x3 u3 W) (h4 : cellF lo x4 u4 W) (h5 : cellF lo x5 u5 W) (parts : Array (Nat × Value)) (hp : parts.toList = [(0, u1), (1, u2), (2, u3), (3, u4), (4, u5)]) :
    (Instr.buildSlice 40 5 parts).run Tryd.prog W = .ok (.slice (some ⟨W.heap.size, 0, none⟩) 5 5) (W.alloc (.cells ([u1, u2, u3, u4, u5].flatMap fun v => v.cells.toList).toArray 42)) :=
  lit_run W [u1, u2, u3, u4, u5] 5 parts (by rw [hp]; rfl) (by decide) rfl (by decide) (fun v hv => by
    simp only [List.mem_cons, List.not_mem_nil, or_false] at hv
    rcases hv with rfl | rfl | rfl | rfl | rfl
    all_goals first | exact cellF_size h1 | exact cellF_size h2 | exact cellF_size h3 | exact cellF_size h4 | exact cellF_size h5)
/-- List over a literal. -/
theorem List_lit {lo : Nat} {xs : List S42} {u : Value} {W : World} (h : litC lo xs u W) (hl : xs.length ≤ 1000000) (hlo : lo ≤ W.heap.size) : Calls Tryd.prog 62 #[u] W (CellPostR lo (listC xs) W) := by
  obtain ⟨g, cs, rfl, _, hg, hr⟩ := h
  refine List_R xs (some ⟨g, 0, none⟩) xs.length W lo cs (fun e => by cases e) (fun ad e j u hu => ?_) hr hl hlo
  cases e
  have hc := Lib.cell_of_heap hg j
  have e1 : (⟨g, 0, none⟩ : Addr).add j = ⟨g, j, none⟩ := by simp [Addr.add, eq_comm]
  rw [e1, hc]
  simpa using hu
/-- List over a row of the call's own. -/
theorem List_own {base : Nat} {xs : List S42} {v : Value} {W : World} (h : rC W base v xs) (hl : xs.length ≤ 1000000) (hlo : base ≤ W.heap.size) : Calls Tryd.prog 62 #[v] W (CellPostR base (listC xs) W) := by
  obtain ⟨_, inner, hown, hreps⟩ := h
  have hr : repsM W base xs inner := ⟨hreps.1, fun j p hj => (k42).M_mono (fun _ _ => trivial) (hreps.2 j p hj)⟩
  have hR : rC W base v xs := ⟨fun _ _ => trivial, inner, hown, hreps⟩
  obtain ⟨A, c, rfl, hlc, hC⟩ := Kd.R_reads hR
  refine List_R xs A c W base inner (fun e => ?_) (fun ad e j u hu => ?_) hr hl hlo
  · subst e
    rcases Nat.eq_zero_or_pos xs.length with h0 | h0
    · exact List.eq_nil_of_length_eq_zero h0
    · obtain ⟨ad, e, _⟩ := hC.2.2 h0; cases e
  · subst e
    rcases hown.2 with ⟨e1, _⟩ | ⟨g, cap, cur, e1, _⟩
    · cases e1
    · injection e1 with e2 _ _
      cases e2
      exact hown.cells (g := g) rfl j u hu
/-- The append of a literal of one. -/
theorem append_lit {W : World} {b0 lo : Nat} {v : Value} {acc : List S42} {x : S42} {u : Value} (hR : rC W b0 v acc) (hv : ∀ k, v.ownBlock = some k → k < lo) (hb0 : b0 ≤ lo)
    (h : litC lo [x] u W) (hn : acc.length ≤ 1000000) (ty : TypeId) :
    ∃ v' W', (Builtin.append_ #[40, 40] ty #[v, u]).run Tryd.prog W = .ok v' W' ∧ W.grownBy W' v.ownBlock ∧ rC W' b0 v' (acc ++ [x]) := by
  obtain ⟨g, cs, rfl, hlg, hg, hr⟩ := h
  have h4 : cs.length = 4 := by have := hr.1; simpa using this
  have hM : Kd.M k42 W lo (fun _ => True) x cs := by
    have := hr.2 0 x rfl
    rwa [Nat.zero_mul, List.drop_zero, ← h4, List.take_length] at this
  obtain ⟨v3, rfl, hr3⟩ := k42_openM hM
  exact append_item hR hv hb0 hlg hg hr3 hn ty
end Go.Proofs.YtgjlchcfdbmmlaaDoor.PObjectTakes
/- object.rows walked. -/
namespace Go.Proofs.YtgjlchcfdbmmlaaDoor.PObjectTakes
open Go.RowKit Go.Proofs.YtgjlchcfdbmmlaaDoor.Ord Go.Proofs.YtgjlchcfdbmmlaaDoor.Obj Go.Proofs.YtgjlchcfdbmmlaaDoorW.PrintWords Go.Proofs.YtgjlchcfdbmmlaaDoorW.PrintLast Go.Proofs.YtgjlchcfdbmmlaaDoorW.PrintMore
set_option linter.unusedVariables false
set_option linter.unusedSimpArgs false
attribute [local irreducible] OpGives
attribute [local go_sem] rdl_const rdl_func rdl_global rdl_nil rdl_cons

def numC (n : Int) : S42 := ⟨1, n, ⟨#[]⟩, []⟩
def textC (s : ByteArray) : S42 := ⟨2, 0, s, []⟩
def valC (v : S53) : S42 := if v.f0 = 2 then textC v.f2 else numC v.f1
def rowC (x : S55) : S42 := listC [numC x.f0, numC x.f1, valC x.f2]
def rowsC (l : List S55) : S42 := listC (l.map rowC)
set_option maxRecDepth 100000 in
theorem num_R (n : Int) (base : Nat) (w : World) : Calls Tryd.prog 60 #[.int .i64 n] w (fun e w' => e = .returned (.agg #[.int .i64 1, .int .i64 n, .string (⟨#[]⟩ : ByteArray), .slice none 0 0]) ∧ Below w.heap.size w w') := by
  go_enter Tryd.func60, Tryd.ntmps60
  go_wp2
  refine bodyPost_ret (results_cell_row rfl _ _ w.heap.size 42 #[.int .i64 1, .int .i64 n, .string (⟨#[]⟩ : ByteArray), .slice none 0 0] (0, 0) _ rfl (heap_alloc_last _ _) Tryd.underlying42 rfl (by kernel_rfl)) rfl ?_
  exact ⟨rfl, (Below.refl _ _).alloc (Nat.le_refl _) _⟩
set_option maxRecDepth 100000 in
theorem text_R (s : ByteArray) (base : Nat) (w : World) : Calls Tryd.prog 61 #[.string s] w (fun e w' => e = .returned (.agg #[.int .i64 2, .int .i64 0, .string s, .slice none 0 0]) ∧ Below w.heap.size w w') := by
  go_enter Tryd.func61, Tryd.ntmps61
  go_wp2
  refine bodyPost_ret (results_cell_row rfl _ _ w.heap.size 42 #[.int .i64 2, .int .i64 0, .string s, .slice none 0 0] (0, 0) _ rfl (heap_alloc_last _ _) Tryd.underlying42 rfl (by kernel_rfl)) rfl ?_
  exact ⟨rfl, (Below.refl _ _).alloc (Nat.le_refl _) _⟩
theorem num_F (n : Int) (base : Nat) (W : World) : cellF base (numC n) (.agg #[.int .i64 1, .int .i64 n, .string (⟨#[]⟩ : ByteArray), .slice none 0 0]) W := ⟨_, rfl, Kd.R_nil _ _ _ _ _⟩
theorem text_F (s : ByteArray) (base : Nat) (W : World) : cellF base (textC s) (.agg #[.int .i64 2, .int .i64 0, .string s, .slice none 0 0]) W := ⟨_, rfl, Kd.R_nil _ _ _ _ _⟩
/-- The value of a row's cell. -/
def valV (v : S53) : Value := .agg #[.int .i64 (valC v).f0, .int .i64 (valC v).f1, .string (valC v).f2, .slice none 0 0]
theorem val_F (v : S53) (base : Nat) (W : World) : cellF base (valC v) (valV v) W := by
  unfold valV valC
  split <;> exact ⟨_, rfl, Kd.R_nil _ _ _ _ _⟩
theorem rC_put {W : World} {b b0 g : Nat} {v : Value} {l : List S42} (h : rC W b v l) (hg : g < b) (hb : b0 ≤ b) (a0 a1 a2 a3 : Value) : rC (put4 W g a0 a1 a2 a3) b0 v l :=
  Kd.R_mono (Kd.R_lower (Kd.R_step (Kd.R_bound h) (fun k hk _ => put4_far (by have := hk.2.1; omega) _ _ _ _)) hb) (fun _ _ => trivial)
theorem put4_below {w W : World} (h : Below w.heap.size w W) (a0 a1 a2 a3 : Value) : Below w.heap.size w (put4 W w.heap.size a0 a1 a2 a3) :=
  ⟨h.os, h.tape, h.output, by rw [put4_size]; exact h.size, fun k hk => (put4_far (by omega) _ _ _ _).trans (h.block k hk)⟩
set_option maxHeartbeats 16000000 in
set_option maxRecDepth 100000 in
theorem rows_calls (l : List S55) (A : Option Addr) (c : Nat) (w : World) (hA : Kd.C k55 w A l.length l) (hc : l.length ≤ c) (hl : l.length ≤ 1000000) :
    Calls Tryd.prog 37 #[.slice A l.length c] w (CellPostR w.heap.size (rowsC l) w) := by
  obtain ⟨W1, hW1⟩ : ∃ W1, W1 = w.alloc (.cells #[.int .i64 0, .int .i64 0, .string (⟨#[]⟩ : ByteArray), .slice none 0 0] 42) := ⟨_, rfl⟩
  have hn1 : Below w.heap.size w W1 := by rw [hW1]; exact (Below.refl _ _).alloc (Nat.le_refl _) _
  have hg1 : W1.heap[w.heap.size]? = some (.cells #[.int .i64 0, .int .i64 0, .string (⟨#[]⟩ : ByteArray), .slice none 0 0] 42 (0, 0)) := by rw [hW1]; exact heap_alloc_last _ _
  have hs1 : W1.heap.size = w.heap.size + 1 := by rw [hW1]; simp
  obtain ⟨i0, hi0, hz0, hz1, hz2⟩ := info_parts infoCell
  obtain ⟨W2, hmk, hown2, hgr2⟩ := run_make_own (P := Tryd.prog) W1 W1.heap.size 40 42 i0 _ 4 Tryd.underlying40 hi0 hz0 hz1 .i64 .i64 l.length (by rw [hz2]; omega) (by unfold maxLen; omega) (Nat.le_refl _)
  have hb2 : Below W1.heap.size W1 W2 := ⟨hgr2.os, hgr2.tape, hgr2.output, hgr2.size, fun k hk => hgr2.block k hk (by simp)⟩
  have hr2 : rC W2 W1.heap.size (.slice (some ⟨W1.heap.size, 0, none⟩) 0 l.length) [] := ⟨fun _ _ => trivial, [], hown2, Reps.none _ _⟩
  have HR2 := Lib.hid hr2
  have HB2 := Lib.hid hb2
  have HN1 := Lib.hid hn1
  have HG1 := Lib.hid hg1
  have HS1 := Lib.hid hs1
  have HA := Lib.hid hA
  rw [hW1] at hmk
  have HW1 := Lib.hid hW1
  clear hW1 hn1 hg1 hs1 hi0 hz0 hz1 hz2 hown2 hgr2 hb2 hr2 hA
  go_enter Tryd.func37, Tryd.ntmps37
  go_wp2_with fail
  clear hmk
  go_loopw [3, 12] (fun v i wr => ∃ k : Nat, i = .int .i64 (k : Int) ∧ k ≤ l.length ∧ rC wr W1.heap.size v ((l.take k).map rowC) ∧ Below W1.heap.size W1 wr) (fun _ i _ => l.length - (intOf i).toNat)
  case atStart => exact ⟨0, rfl, Nat.zero_le _, by rw [← HS1.out]; exact HR2.out, HB2.out⟩
  case round =>
    obtain ⟨i, rfl, hi, hrow, hbe⟩ := hrel
    have HROW := Lib.hid hrow
    have HBE := Lib.hid hbe
    have hb1 := HN1.out.trans (hbe.mono HN1.out.size)
    have HB1 := Lib.hid hb1
    clear hrow hbe hb1
    by_cases hil : i < l.length
    · obtain ⟨x, hx⟩ : ∃ x, l[i]? = some x := ⟨_, List.getElem?_eq_getElem hil⟩
      obtain ⟨ad, rfl, c0, c1, c2, c3, c4, hbk⟩ := row_at (Kd.C_below HA.out HB1.out) hx
      have HX := Lib.hid hx
      clear hx
      have hlen : ((l.take i).map rowC).length ≤ 1000000 := by rw [List.length_map, List.length_take]; omega
      have hown : ∀ k, u3.ownBlock = some k → k < wr.heap.size := fun k hk => by
        obtain ⟨_, inner, ho, _⟩ := HROW.out
        exact own_lt ho k hk
      have HLEN := Lib.hid hlen
      have HOWN := Lib.hid hown
      clear hlen hown
      go_wp2_with fail
      obtain ⟨W3, hW3⟩ : ∃ W3, W3 = wr.alloc (.cells #[.int .i64 x.f0, .int .i64 x.f1, .int .i64 x.f2.f0, .int .i64 x.f2.f1, .string x.f2.f2] 55) := ⟨_, rfl⟩
      rw [← hW3]
      have hn3 : Below wr.heap.size wr W3 := by rw [hW3]; exact (Below.refl _ _).alloc (Nat.le_refl _) _
      have hg3 : W3.heap[wr.heap.size]? = some (.cells #[.int .i64 x.f0, .int .i64 x.f1, .int .i64 x.f2.f0, .int .i64 x.f2.f1, .string x.f2.f2] 55 (0, 0)) := by rw [hW3]; exact alloc_lastV _ _
      clear hW3 c0 c1 c2 c3 c4 hbk
      refine (num_R x.f2.f1 0 W3).mono ?_
      rintro e W4 ⟨rfl, hb4⟩
      have hg4 := (hb4.block _ (Array.getElem?_eq_some_iff.1 hg3).1).trans hg3
      have hb34 : Below wr.heap.size wr W4 := hn3.trans (hb4.mono hn3.size)
      obtain ⟨W5, hW5⟩ : ∃ W5, W5 = W4.alloc (.cells #[.int .i64 1, .int .i64 x.f2.f1, .string (⟨#[]⟩ : ByteArray), .slice none 0 0] 42) := ⟨_, rfl⟩
      have hn5 : Below W4.heap.size W4 W5 := by rw [hW5]; exact (Below.refl _ _).alloc (Nat.le_refl _) _
      have hc5 : W5.heap[W4.heap.size]? = some (.cells #[.int .i64 1, .int .i64 x.f2.f1, .string (⟨#[]⟩ : ByteArray), .slice none 0 0] 42 (0, 0)) := by rw [hW5]; exact alloc_lastV _ _
      have hx5 := (hn5.block _ (Array.getElem?_eq_some_iff.1 hg4).1).trans hg4
      have hb5 : Below wr.heap.size wr W5 := hb34.trans (hn5.mono hb34.size)
      obtain ⟨d0, d1, d2, d3, d4⟩ := box5 hx5
      have hs34 := (Array.getElem?_eq_some_iff.1 hg4).1
      rw [hW5] at d0 d1 d2 d3 d4
      have HX5 := Lib.hid hx5
      have HC5 := Lib.hid hc5
      have HB5 := Lib.hid hb5
      have HW5 := Lib.hid hW5
      clear hn3 hg3 hb4 hg4 hb34 hn5 hx5 hc5 hb5 hW5
      by_cases hk2 : x.f2.f0 = 2
      · have hk2' : (x.f2.f0 == 2) = true := by simpa using hk2
        have hval : valC x.f2 = textC x.f2.f2 := by unfold valC; rw [if_pos hk2]
        have HVAL := Lib.hid hval
        clear hk2 hval
        go_wp2_with fail
        rw [← HW5.out]
        clear d0 d1 d2 d3 d4
        refine (text_R x.f2.f2 0 W5).mono ?_
        rintro e W6 ⟨rfl, hb6⟩
        have hx6 := (hb6.block _ (Array.getElem?_eq_some_iff.1 HX5.out).1).trans HX5.out
        have hc6 := (hb6.block _ (Array.getElem?_eq_some_iff.1 HC5.out).1).trans HC5.out
        have z0 : W6.cell? ⟨W4.heap.size, 0, none⟩ = some (.int .i64 1) := by rw [Lib.cell_of_heap hc6]; rfl
        have z1 : W6.cell? ⟨W4.heap.size, 1, none⟩ = some (.int .i64 x.f2.f1) := by rw [Lib.cell_of_heap hc6]; rfl
        have z2 : W6.cell? ⟨W4.heap.size, 2, none⟩ = some (.string (⟨#[]⟩ : ByteArray)) := by rw [Lib.cell_of_heap hc6]; rfl
        have z3 : W6.cell? ⟨W4.heap.size, 3, none⟩ = some (.slice none 0 0) := by rw [Lib.cell_of_heap hc6]; rfl
        have f0 := Lib.frozen_of_heap hc6 0
        have f1 := Lib.frozen_of_heap hc6 1
        have f2 := Lib.frozen_of_heap hc6 2
        have f3 := Lib.frozen_of_heap hc6 3
        have d0 := (box5 hx6).1
        obtain ⟨W7, hW7⟩ : ∃ W7, W7 = put4 W6 W4.heap.size (.int .i64 2) (.int .i64 0) (.string x.f2.f2) (.slice none 0 0) := ⟨_, rfl⟩
        have hc7 : W7.heap[W4.heap.size]? = some (.cells #[.int .i64 (valC x.f2).f0, .int .i64 (valC x.f2).f1, .string (valC x.f2).f2, .slice none 0 0] 42 (0, 0)) := by
          rw [HVAL.out, hW7]; exact four_put hc6 _ _ _ _
        have hfar : ∀ k, k ≠ W4.heap.size → W7.heap[k]? = W6.heap[k]? := fun k hk => by rw [hW7]; exact put4_far hk _ _ _ _
        have hx7 := (hfar wr.heap.size (by have := (Array.getElem?_eq_some_iff.1 HX5.out).1; have := HB5.out.size; have := hs34; omega)).trans hx6
        have hb7 : Below wr.heap.size wr W7 := by
          have h1 : Below wr.heap.size wr W6 := HB5.out.trans (hb6.mono HB5.out.size)
          exact ⟨by rw [hW7]; exact h1.os, by rw [hW7]; exact h1.tape, by rw [hW7]; exact h1.output, by rw [hW7, put4_size]; exact h1.size, fun k hk => (hfar k (by omega)).trans (h1.block k hk)⟩
        have HX7 := Lib.hid hx7
        have HC7 := Lib.hid hc7
        have HB7 := Lib.hid hb7
        unfold put4 at hW7
        have HW7 := Lib.hid hW7
        clear hx6 hc6 hc7 hfar hx7 hb7 hW7 hb6
        have d1 : True := trivial
        have d2 : True := trivial
        have d3 : True := trivial
        have d4 : True := trivial
        go_wp2_with fail
        rw [← HW7.out]
        clear z0 z1 z2 z3 f0 f1 f2 f3 d0 d1 d2 d3 d4
        have hcl : ∀ W, Below W7.heap.size W7 W → W.cell? ⟨wr.heap.size, 0, none⟩ = some (.int .i64 x.f0) ∧ W.cell? ⟨wr.heap.size, 1, none⟩ = some (.int .i64 x.f1) ∧ W.cell? ⟨W4.heap.size, 0, none⟩ = some (.int .i64 (valC x.f2).f0) ∧ W.cell? ⟨W4.heap.size, 1, none⟩ = some (.int .i64 (valC x.f2).f1) ∧ W.cell? ⟨W4.heap.size, 2, none⟩ = some (.string (valC x.f2).f2) ∧ W.cell? ⟨W4.heap.size, 3, none⟩ = some (.slice none 0 0) := fun W hW => by
          have hx := (hW.block _ (Array.getElem?_eq_some_iff.1 HX7.out).1).trans HX7.out
          have hc := (hW.block _ (Array.getElem?_eq_some_iff.1 HC7.out).1).trans HC7.out
          refine ⟨?_, ?_, ?_, ?_, ?_, ?_⟩ <;> first | (rw [Lib.cell_of_heap hx]; rfl) | (rw [Lib.cell_of_heap hc]; rfl)
        have HCL := Lib.hid hcl
        have hlo : W7.heap.size ≤ W7.heap.size := Nat.le_refl _
        clear hcl
        refine' wp_region_factsM (S := (fun _ W => Below W7.heap.size W7 W)) (fun _ W W' => Below W.heap.size W W') [eqM _, eqM _, eqM (.int .i64 x.f0), cellF W7.heap.size (numC x.f0), eqM _, eqM (.int .i64 x.f1), cellF W7.heap.size (numC x.f1), cellF W7.heap.size (valC x.f2), litC W7.heap.size [numC x.f0, numC x.f1, valC x.f2], cellF W7.heap.size (rowC x), litC W7.heap.size [rowC x]] (by kernel_rfl) (by kernel_rfl) ?hst ?h0 (Ord.stepsM_cons ?s0 (Ord.stepsM_cons ?s1 (Ord.stepsM_cons ?s2 (Ord.stepsM_cons ?s3 (Ord.stepsM_cons ?s4 (Ord.stepsM_cons ?s5 (Ord.stepsM_cons ?s6 (Ord.stepsM_cons ?s7 (Ord.stepsM_cons ?s8 (Ord.stepsM_cons ?s9 (Ord.stepsM_cons ?s10 (Ord.stepsM_nil)))))))))))) ?fin
        case s0 =>
          intro g W L hL hSW hd
          try simp only [Nat.zero_add, Nat.reduceAdd] at hd ⊢
          with_reducible refine OpGives.pre_reads [] 43 ?_ ?_ ?_
          · rfl
          · kernel_rfl
          simp only [List.map_cons, List.map_nil]
          refine OpGives.val (w' := W) ?_ ⟨Below.refl _ _, rfl, hSW⟩
          go_simp
          try with_reducible rfl
        case s1 =>
          intro g W L hL hSW hd
          try simp only [Nat.zero_add, Nat.reduceAdd] at hd ⊢
          with_reducible refine OpGives.pre_reads [] 43 ?_ ?_ ?_
          · rfl
          · kernel_rfl
          simp only [List.map_cons, List.map_nil]
          refine OpGives.val (w' := W) ?_ ⟨Below.refl _ _, rfl, hSW⟩
          go_simp
          try with_reducible rfl
        case s2 =>
          intro g W L hL hSW hd
          try simp only [Nat.zero_add, Nat.reduceAdd] at hd ⊢
          have h1 : g 1 = _ := hd 1 (by decide) (by kernel_rfl)
          with_reducible refine OpGives.pre_reads [(29, 1)] 43 ?_ ?_ ?_
          · rfl
          · kernel_rfl
          simp only [List.map_cons, List.map_nil]
          obtain ⟨z0, z1, z2, z3, z4, z5⟩ := HCL.out W hSW; refine OpGives.val (v := .int .i64 x.f0) (w' := W) ?_ ⟨Below.refl _ _, rfl, hSW⟩; go_simp
        case s3 =>
          intro g W L hL hSW hd
          try simp only [Nat.zero_add, Nat.reduceAdd] at hd ⊢
          have h2 : g 2 = _ := hd 2 (by decide) (by kernel_rfl)
          with_reducible refine OpGives.pre_reads [(30, 2)] 43 ?_ ?_ ?_
          · rfl
          · kernel_rfl
          simp only [List.map_cons, List.map_nil]
          rw [h2]; refine OpGives.call (f := 60) (args := #[.int .i64 x.f0]) (w' := W) (by go_simp) ((num_R x.f0 0 W).mono fun e W' ⟨he, hb⟩ => ⟨_, he, hb, num_F _ _ _, hSW.trans (hb.mono hSW.size)⟩)
        case s4 =>
          intro g W L hL hSW hd
          try simp only [Nat.zero_add, Nat.reduceAdd] at hd ⊢
          with_reducible refine OpGives.pre_reads [] 43 ?_ ?_ ?_
          · rfl
          · kernel_rfl
          simp only [List.map_cons, List.map_nil]
          refine OpGives.val (w' := W) ?_ ⟨Below.refl _ _, rfl, hSW⟩
          go_simp
          try with_reducible rfl
        case s5 =>
          intro g W L hL hSW hd
          try simp only [Nat.zero_add, Nat.reduceAdd] at hd ⊢
          have h4 : g 4 = _ := hd 4 (by decide) (by kernel_rfl)
          with_reducible refine OpGives.pre_reads [(32, 4)] 43 ?_ ?_ ?_
          · rfl
          · kernel_rfl
          simp only [List.map_cons, List.map_nil]
          obtain ⟨z0, z1, z2, z3, z4, z5⟩ := HCL.out W hSW; refine OpGives.val (v := .int .i64 x.f1) (w' := W) ?_ ⟨Below.refl _ _, rfl, hSW⟩; go_simp
        case s6 =>
          intro g W L hL hSW hd
          try simp only [Nat.zero_add, Nat.reduceAdd] at hd ⊢
          have h5 : g 5 = _ := hd 5 (by decide) (by kernel_rfl)
          with_reducible refine OpGives.pre_reads [(33, 5)] 43 ?_ ?_ ?_
          · rfl
          · kernel_rfl
          simp only [List.map_cons, List.map_nil]
          rw [h5]; refine OpGives.call (f := 60) (args := #[.int .i64 x.f1]) (w' := W) (by go_simp) ((num_R x.f1 0 W).mono fun e W' ⟨he, hb⟩ => ⟨_, he, hb, num_F _ _ _, hSW.trans (hb.mono hSW.size)⟩)
        case s7 =>
          intro g W L hL hSW hd
          try simp only [Nat.zero_add, Nat.reduceAdd] at hd ⊢
          with_reducible refine OpGives.pre_reads [] 43 ?_ ?_ ?_
          · rfl
          · kernel_rfl
          simp only [List.map_cons, List.map_nil]
          obtain ⟨z0, z1, z2, z3, z4, z5⟩ := HCL.out W hSW; refine OpGives.val (v := valV x.f2) (w' := W) ?_ ⟨Below.refl _ _, val_F _ _ _, hSW⟩; unfold valV; go_simp
        case s8 =>
          intro g W L hL hSW hd
          try simp only [Nat.zero_add, Nat.reduceAdd] at hd ⊢
          have h3 := hd 3 (by decide) (by kernel_rfl)
          change (cellF W7.heap.size (numC x.f0)) (g 3) W at h3
          have h6 := hd 6 (by decide) (by kernel_rfl)
          change (cellF W7.heap.size (numC x.f1)) (g 6) W at h6
          have h7 := hd 7 (by decide) (by kernel_rfl)
          change (cellF W7.heap.size (valC x.f2)) (g 7) W at h7
          with_reducible refine OpGives.pre_reads [(31, 3), (34, 6), (35, 7)] 43 ?_ ?_ ?_
          · rfl
          · kernel_rfl
          simp only [List.map_cons, List.map_nil]
          refine OpGives.val (v := .slice (some ⟨W.heap.size, 0, none⟩) 3 3) (w' := W.alloc (.cells ([g 3, g 6, g 7].flatMap fun v => v.cells.toList).toArray 42)) (exec_buildSlice 40 3 _ rfl (lit_run3 h3 h6 h7 _ (by simp [rdl_cons]))) ⟨(Below.refl _ _).alloc (Nat.le_refl _) _, litC_of (repsM_3 h3 h6 h7) hSW.size, hSW.alloc hSW.size _⟩
        case s9 =>
          intro g W L hL hSW hd
          try simp only [Nat.zero_add, Nat.reduceAdd] at hd ⊢
          have h8 := hd 8 (by decide) (by kernel_rfl)
          change (litC W7.heap.size [numC x.f0, numC x.f1, valC x.f2]) (g 8) W at h8
          with_reducible refine OpGives.pre_reads [(36, 8)] 43 ?_ ?_ ?_
          · rfl
          · kernel_rfl
          simp only [List.map_cons, List.map_nil]
          refine OpGives.call (f := 62) (args := #[g 8]) (w' := W) (by go_simp) ((List_lit h8 (by simp) hSW.size).mono fun e W' ⟨u, he, hf, hb⟩ => ⟨u, he, hb, hf, hSW.trans (hb.mono hSW.size)⟩)
        case s10 =>
          intro g W L hL hSW hd
          try simp only [Nat.zero_add, Nat.reduceAdd] at hd ⊢
          have h9 := hd 9 (by decide) (by kernel_rfl)
          change (cellF W7.heap.size (rowC x)) (g 9) W at h9
          with_reducible refine OpGives.pre_reads [(37, 9)] 43 ?_ ?_ ?_
          · rfl
          · kernel_rfl
          simp only [List.map_cons, List.map_nil]
          refine OpGives.val (v := .slice (some ⟨W.heap.size, 0, none⟩) 1 1) (w' := W.alloc (.cells ([g 9].flatMap fun v => v.cells.toList).toArray 42)) (exec_buildSlice 40 1 _ rfl (lit_run1 h9 _ (by simp [rdl_cons]))) ⟨(Below.refl _ _).alloc (Nat.le_refl _) _, litC_of (repsM_1 h9) hSW.size, hSW.alloc hSW.size _⟩
        case hst =>
          refine fun i j v w w' _ h hR => st_of (R := fun W W' => Below W.heap.size W W') ?_ i v w w' h hR
          repeat' first
            | exact trivial
            | with_reducible refine StL.eq ?_
            | refine ⟨fun v w w' h hR => cellF_below h hR, ?_⟩
            | refine ⟨fun v w w' h hR => litC_below h hR, ?_⟩
        case h0 => exact (Below.refl _ _).drew
        case fin =>
          intro v' W L hL hSW hf
          have h10 := hf 10 (Nat.lt_of_lt_of_eq (by decide : 10 < 11) rfl)
          have h0 : v' 0 = _ := hf 0 (Nat.lt_of_lt_of_eq (by decide : 0 < 11) rfl)
          change litC W7.heap.size [rowC x] (v' 10) W at h10
          clear hf
          generalize hF : Ord.pre _ _ v' _ = F
          rw [Ord.pre_lit [some 28, some 29, some 30, some 31, some 32, some 33, some 34, some 35, some 36, some 37, some 38]
            (by kernel_rfl)] at hF
          simp only [Ord.puts, Nat.zero_add, Nat.reduceAdd] at hF
          subst hF
          rw [h0]
          have hb7W := HB7.out.trans (hSW.mono HB7.out.size)
          have hrW := Kd.R_below HROW.out (⟨hb7W.os, hb7W.tape, hb7W.output, hb7W.size, hb7W.block⟩)
          obtain ⟨v8, W8, hr8, hg8, hR8⟩ := append_lit (b0 := W1.heap.size) (lo := W7.heap.size) hrW (fun k hk => Nat.lt_of_lt_of_le (HOWN.out k hk) HB7.out.size) (Nat.le_trans HBE.out.size HB7.out.size) h10 HLEN.out 40
          have hB8 := grown_below hrW hg8 (HBE.out.trans (hb7W.mono HBE.out.size)) (Nat.le_trans HBE.out.size hb7W.size)
          have hR8' : rC W8 W1.heap.size v8 ((l.take (i + 1)).map rowC) := by
            rw [List.take_add_one, HX.out]; simpa using hR8
          have HR8 := Lib.hid hR8'
          have HB8 := Lib.hid hB8
          clear hg8 hR8 hR8' hB8 hrW hb7W hSW h10
          refine any_one (i := 11) (by kernel_rfl) ?_
          refine wpOp_value (v := v8) (w' := W8) rfl rfl ?_ ?_
          · refine exec_append (.tmp 28) (.tmp 38) 40 rfl ?_
            have key : ∀ a b ty, a = u3 → b = v' 10 → ty = 40 → (Builtin.append_ #[40, 40] ty #[a, b]).run Tryd.prog W = .ok v8 W8 := by rintro _ _ _ rfl rfl rfl; exact hr8
            refine key _ _ _ ?_ ?_ rfl
            · go_simp
            · go_simp
          refine any_one (i := 12) (by kernel_rfl) ?_
          refine wpOp_value (v := v8) (w' := W8) rfl rfl (by go_simp) ?_
          refine wpAny_done (by kernel_rfl) ?_ _
          try simp only [List.getElem_toArray, List.getElem_cons_succ, List.getElem_cons_zero]
          go_frame
          clear hr8
          go_wp2_with fail
          go_roundw
          case rel => exact ⟨i + 1, by go_num, hil, HR8.out, HB8.out⟩
          case measure => simp [intOf]; omega
      · have hk2' : (x.f2.f0 == 2) = false := by simpa using hk2
        have hval : valC x.f2 = numC x.f2.f1 := by unfold valC; rw [if_neg hk2]
        have HVAL := Lib.hid hval
        have HC7 := Lib.hid (show W5.heap[W4.heap.size]? = some (.cells #[.int .i64 (valC x.f2).f0, .int .i64 (valC x.f2).f1, .string (valC x.f2).f2, .slice none 0 0] 42 (0, 0)) by rw [hval]; exact HC5.out)
        clear hk2 hval
        go_wp2_with fail
        rw [← HW5.out]
        clear d0 d1 d2 d3 d4
        have hcl : ∀ W, Below W5.heap.size W5 W → W.cell? ⟨wr.heap.size, 0, none⟩ = some (.int .i64 x.f0) ∧ W.cell? ⟨wr.heap.size, 1, none⟩ = some (.int .i64 x.f1) ∧ W.cell? ⟨W4.heap.size, 0, none⟩ = some (.int .i64 (valC x.f2).f0) ∧ W.cell? ⟨W4.heap.size, 1, none⟩ = some (.int .i64 (valC x.f2).f1) ∧ W.cell? ⟨W4.heap.size, 2, none⟩ = some (.string (valC x.f2).f2) ∧ W.cell? ⟨W4.heap.size, 3, none⟩ = some (.slice none 0 0) := fun W hW => by
          have hx := (hW.block _ (Array.getElem?_eq_some_iff.1 HX5.out).1).trans HX5.out
          have hc := (hW.block _ (Array.getElem?_eq_some_iff.1 HC7.out).1).trans HC7.out
          refine ⟨?_, ?_, ?_, ?_, ?_, ?_⟩ <;> first | (rw [Lib.cell_of_heap hx]; rfl) | (rw [Lib.cell_of_heap hc]; rfl)
        have HCL := Lib.hid hcl
        have hlo : W5.heap.size ≤ W5.heap.size := Nat.le_refl _
        clear hcl
        refine' wp_region_factsM (S := (fun _ W => Below W5.heap.size W5 W)) (fun _ W W' => Below W.heap.size W W') [eqM _, eqM _, eqM (.int .i64 x.f0), cellF W5.heap.size (numC x.f0), eqM _, eqM (.int .i64 x.f1), cellF W5.heap.size (numC x.f1), cellF W5.heap.size (valC x.f2), litC W5.heap.size [numC x.f0, numC x.f1, valC x.f2], cellF W5.heap.size (rowC x), litC W5.heap.size [rowC x]] (by kernel_rfl) (by kernel_rfl) ?hst ?h0 (Ord.stepsM_cons ?s0 (Ord.stepsM_cons ?s1 (Ord.stepsM_cons ?s2 (Ord.stepsM_cons ?s3 (Ord.stepsM_cons ?s4 (Ord.stepsM_cons ?s5 (Ord.stepsM_cons ?s6 (Ord.stepsM_cons ?s7 (Ord.stepsM_cons ?s8 (Ord.stepsM_cons ?s9 (Ord.stepsM_cons ?s10 (Ord.stepsM_nil)))))))))))) ?fin
        case s0 =>
          intro g W L hL hSW hd
          try simp only [Nat.zero_add, Nat.reduceAdd] at hd ⊢
          with_reducible refine OpGives.pre_reads [] 43 ?_ ?_ ?_
          · rfl
          · kernel_rfl
          simp only [List.map_cons, List.map_nil]
          refine OpGives.val (w' := W) ?_ ⟨Below.refl _ _, rfl, hSW⟩
          go_simp
          try with_reducible rfl
        case s1 =>
          intro g W L hL hSW hd
          try simp only [Nat.zero_add, Nat.reduceAdd] at hd ⊢
          with_reducible refine OpGives.pre_reads [] 43 ?_ ?_ ?_
          · rfl
          · kernel_rfl
          simp only [List.map_cons, List.map_nil]
          refine OpGives.val (w' := W) ?_ ⟨Below.refl _ _, rfl, hSW⟩
          go_simp
          try with_reducible rfl
        case s2 =>
          intro g W L hL hSW hd
          try simp only [Nat.zero_add, Nat.reduceAdd] at hd ⊢
          have h1 : g 1 = _ := hd 1 (by decide) (by kernel_rfl)
          with_reducible refine OpGives.pre_reads [(29, 1)] 43 ?_ ?_ ?_
          · rfl
          · kernel_rfl
          simp only [List.map_cons, List.map_nil]
          obtain ⟨z0, z1, z2, z3, z4, z5⟩ := HCL.out W hSW; refine OpGives.val (v := .int .i64 x.f0) (w' := W) ?_ ⟨Below.refl _ _, rfl, hSW⟩; go_simp
        case s3 =>
          intro g W L hL hSW hd
          try simp only [Nat.zero_add, Nat.reduceAdd] at hd ⊢
          have h2 : g 2 = _ := hd 2 (by decide) (by kernel_rfl)
          with_reducible refine OpGives.pre_reads [(30, 2)] 43 ?_ ?_ ?_
          · rfl
          · kernel_rfl
          simp only [List.map_cons, List.map_nil]
          rw [h2]; refine OpGives.call (f := 60) (args := #[.int .i64 x.f0]) (w' := W) (by go_simp) ((num_R x.f0 0 W).mono fun e W' ⟨he, hb⟩ => ⟨_, he, hb, num_F _ _ _, hSW.trans (hb.mono hSW.size)⟩)
        case s4 =>
          intro g W L hL hSW hd
          try simp only [Nat.zero_add, Nat.reduceAdd] at hd ⊢
          with_reducible refine OpGives.pre_reads [] 43 ?_ ?_ ?_
          · rfl
          · kernel_rfl
          simp only [List.map_cons, List.map_nil]
          refine OpGives.val (w' := W) ?_ ⟨Below.refl _ _, rfl, hSW⟩
          go_simp
          try with_reducible rfl
        case s5 =>
          intro g W L hL hSW hd
          try simp only [Nat.zero_add, Nat.reduceAdd] at hd ⊢
          have h4 : g 4 = _ := hd 4 (by decide) (by kernel_rfl)
          with_reducible refine OpGives.pre_reads [(32, 4)] 43 ?_ ?_ ?_
          · rfl
          · kernel_rfl
          simp only [List.map_cons, List.map_nil]
          obtain ⟨z0, z1, z2, z3, z4, z5⟩ := HCL.out W hSW; refine OpGives.val (v := .int .i64 x.f1) (w' := W) ?_ ⟨Below.refl _ _, rfl, hSW⟩; go_simp
        case s6 =>
          intro g W L hL hSW hd
          try simp only [Nat.zero_add, Nat.reduceAdd] at hd ⊢
          have h5 : g 5 = _ := hd 5 (by decide) (by kernel_rfl)
          with_reducible refine OpGives.pre_reads [(33, 5)] 43 ?_ ?_ ?_
          · rfl
          · kernel_rfl
          simp only [List.map_cons, List.map_nil]
          rw [h5]; refine OpGives.call (f := 60) (args := #[.int .i64 x.f1]) (w' := W) (by go_simp) ((num_R x.f1 0 W).mono fun e W' ⟨he, hb⟩ => ⟨_, he, hb, num_F _ _ _, hSW.trans (hb.mono hSW.size)⟩)
        case s7 =>
          intro g W L hL hSW hd
          try simp only [Nat.zero_add, Nat.reduceAdd] at hd ⊢
          with_reducible refine OpGives.pre_reads [] 43 ?_ ?_ ?_
          · rfl
          · kernel_rfl
          simp only [List.map_cons, List.map_nil]
          obtain ⟨z0, z1, z2, z3, z4, z5⟩ := HCL.out W hSW; refine OpGives.val (v := valV x.f2) (w' := W) ?_ ⟨Below.refl _ _, val_F _ _ _, hSW⟩; unfold valV; go_simp
        case s8 =>
          intro g W L hL hSW hd
          try simp only [Nat.zero_add, Nat.reduceAdd] at hd ⊢
          have h3 := hd 3 (by decide) (by kernel_rfl)
          change (cellF W5.heap.size (numC x.f0)) (g 3) W at h3
          have h6 := hd 6 (by decide) (by kernel_rfl)
          change (cellF W5.heap.size (numC x.f1)) (g 6) W at h6
          have h7 := hd 7 (by decide) (by kernel_rfl)
          change (cellF W5.heap.size (valC x.f2)) (g 7) W at h7
          with_reducible refine OpGives.pre_reads [(31, 3), (34, 6), (35, 7)] 43 ?_ ?_ ?_
          · rfl
          · kernel_rfl
          simp only [List.map_cons, List.map_nil]
          refine OpGives.val (v := .slice (some ⟨W.heap.size, 0, none⟩) 3 3) (w' := W.alloc (.cells ([g 3, g 6, g 7].flatMap fun v => v.cells.toList).toArray 42)) (exec_buildSlice 40 3 _ rfl (lit_run3 h3 h6 h7 _ (by simp [rdl_cons]))) ⟨(Below.refl _ _).alloc (Nat.le_refl _) _, litC_of (repsM_3 h3 h6 h7) hSW.size, hSW.alloc hSW.size _⟩
        case s9 =>
          intro g W L hL hSW hd
          try simp only [Nat.zero_add, Nat.reduceAdd] at hd ⊢
          have h8 := hd 8 (by decide) (by kernel_rfl)
          change (litC W5.heap.size [numC x.f0, numC x.f1, valC x.f2]) (g 8) W at h8
          with_reducible refine OpGives.pre_reads [(36, 8)] 43 ?_ ?_ ?_
          · rfl
          · kernel_rfl
          simp only [List.map_cons, List.map_nil]
          refine OpGives.call (f := 62) (args := #[g 8]) (w' := W) (by go_simp) ((List_lit h8 (by simp) hSW.size).mono fun e W' ⟨u, he, hf, hb⟩ => ⟨u, he, hb, hf, hSW.trans (hb.mono hSW.size)⟩)
        case s10 =>
          intro g W L hL hSW hd
          try simp only [Nat.zero_add, Nat.reduceAdd] at hd ⊢
          have h9 := hd 9 (by decide) (by kernel_rfl)
          change (cellF W5.heap.size (rowC x)) (g 9) W at h9
          with_reducible refine OpGives.pre_reads [(37, 9)] 43 ?_ ?_ ?_
          · rfl
          · kernel_rfl
          simp only [List.map_cons, List.map_nil]
          refine OpGives.val (v := .slice (some ⟨W.heap.size, 0, none⟩) 1 1) (w' := W.alloc (.cells ([g 9].flatMap fun v => v.cells.toList).toArray 42)) (exec_buildSlice 40 1 _ rfl (lit_run1 h9 _ (by simp [rdl_cons]))) ⟨(Below.refl _ _).alloc (Nat.le_refl _) _, litC_of (repsM_1 h9) hSW.size, hSW.alloc hSW.size _⟩
        case hst =>
          refine fun i j v w w' _ h hR => st_of (R := fun W W' => Below W.heap.size W W') ?_ i v w w' h hR
          repeat' first
            | exact trivial
            | with_reducible refine StL.eq ?_
            | refine ⟨fun v w w' h hR => cellF_below h hR, ?_⟩
            | refine ⟨fun v w w' h hR => litC_below h hR, ?_⟩
        case h0 => exact (Below.refl _ _).drew
        case fin =>
          intro v' W L hL hSW hf
          have h10 := hf 10 (Nat.lt_of_lt_of_eq (by decide : 10 < 11) rfl)
          have h0 : v' 0 = _ := hf 0 (Nat.lt_of_lt_of_eq (by decide : 0 < 11) rfl)
          change litC W5.heap.size [rowC x] (v' 10) W at h10
          clear hf
          generalize hF : Ord.pre _ _ v' _ = F
          rw [Ord.pre_lit [some 28, some 29, some 30, some 31, some 32, some 33, some 34, some 35, some 36, some 37, some 38]
            (by kernel_rfl)] at hF
          simp only [Ord.puts, Nat.zero_add, Nat.reduceAdd] at hF
          subst hF
          rw [h0]
          have hb7W := HB5.out.trans (hSW.mono HB5.out.size)
          have hrW := Kd.R_below HROW.out (⟨hb7W.os, hb7W.tape, hb7W.output, hb7W.size, hb7W.block⟩)
          obtain ⟨v8, W8, hr8, hg8, hR8⟩ := append_lit (b0 := W1.heap.size) (lo := W5.heap.size) hrW (fun k hk => Nat.lt_of_lt_of_le (HOWN.out k hk) HB5.out.size) (Nat.le_trans HBE.out.size HB5.out.size) h10 HLEN.out 40
          have hB8 := grown_below hrW hg8 (HBE.out.trans (hb7W.mono HBE.out.size)) (Nat.le_trans HBE.out.size hb7W.size)
          have hR8' : rC W8 W1.heap.size v8 ((l.take (i + 1)).map rowC) := by
            rw [List.take_add_one, HX.out]; simpa using hR8
          have HR8 := Lib.hid hR8'
          have HB8 := Lib.hid hB8
          clear hg8 hR8 hR8' hB8 hrW hb7W hSW h10
          refine any_one (i := 11) (by kernel_rfl) ?_
          refine wpOp_value (v := v8) (w' := W8) rfl rfl ?_ ?_
          · refine exec_append (.tmp 28) (.tmp 38) 40 rfl ?_
            have key : ∀ a b ty, a = u3 → b = v' 10 → ty = 40 → (Builtin.append_ #[40, 40] ty #[a, b]).run Tryd.prog W = .ok v8 W8 := by rintro _ _ _ rfl rfl rfl; exact hr8
            refine key _ _ _ ?_ ?_ rfl
            · go_simp
            · go_simp
          refine any_one (i := 12) (by kernel_rfl) ?_
          refine wpOp_value (v := v8) (w' := W8) rfl rfl (by go_simp) ?_
          refine wpAny_done (by kernel_rfl) ?_ _
          try simp only [List.getElem_toArray, List.getElem_cons_succ, List.getElem_cons_zero]
          go_frame
          clear hr8
          go_wp2_with fail
          go_roundw
          case rel => exact ⟨i + 1, by go_num, hil, HR8.out, HB8.out⟩
          case measure => simp [intOf]; omega
    · have hie : i = l.length := by omega
      have hrow := HROW.out
      rw [hie, List.take_length] at hrow
      have hL := List_own hrow (by rw [List.length_map]; exact hl) HBE.out.size
      have HL := Lib.hid hL
      clear hrow hie hL
      go_wp2_with fail
      refine HL.out.mono ?_
      rintro e W2' ⟨u, rfl, ⟨v3, rfl, hR3⟩, hb3⟩
      obtain ⟨A3, c3, rfl⟩ := R_slice hR3
      have hb1' : Below W1.heap.size W1 W2' := HBE.out.trans (hb3.mono HBE.out.size)
      have hgb := (hb1'.block w.heap.size (by have := HS1.out; omega)).trans HG1.out
      have hbw : Below w.heap.size w W2' := HN1.out.trans (hb1'.mono HN1.out.size)
      have z0 : W2'.cell? ⟨w.heap.size, 0, none⟩ = some (.int .i64 0) := by rw [Lib.cell_of_heap hgb]; rfl
      have z1 : W2'.cell? ⟨w.heap.size, 1, none⟩ = some (.int .i64 0) := by rw [Lib.cell_of_heap hgb]; rfl
      have z2 : W2'.cell? ⟨w.heap.size, 2, none⟩ = some (.string (⟨#[]⟩ : ByteArray)) := by rw [Lib.cell_of_heap hgb]; rfl
      have z3 : W2'.cell? ⟨w.heap.size, 3, none⟩ = some (.slice none 0 0) := by rw [Lib.cell_of_heap hgb]; rfl
      have f0 := Lib.frozen_of_heap hgb 0
      have f1 := Lib.frozen_of_heap hgb 1
      have f2 := Lib.frozen_of_heap hgb 2
      have f3 := Lib.frozen_of_heap hgb 3
      have HGB := Lib.hid hgb
      have HBW := Lib.hid hbw
      have HR3 := Lib.hid hR3
      clear hb1' hgb hbw hR3 hb3
      go_wp2_with fail
      refine bodyPost_ret (results_cell_row rfl _ _ w.heap.size 42 #[.int .i64 3, .int .i64 0, .string (⟨#[]⟩ : ByteArray), .slice A3 (listC (l.map rowC)).f3.length c3] (0, 0) _ rfl (four_put HGB.out _ _ _ _) Tryd.underlying42 rfl (by kernel_rfl)) rfl ?_
      exact ⟨_, rfl, ⟨_, rfl, rC_put HR3.out (by have := HS1.out; omega) (by have := HS1.out; omega) _ _ _ _⟩, put4_below HBW.out _ _ _ _⟩
end Go.Proofs.YtgjlchcfdbmmlaaDoor.PObjectTakes
