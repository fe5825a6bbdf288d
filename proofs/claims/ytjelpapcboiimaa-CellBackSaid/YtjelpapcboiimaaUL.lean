/- cell.Take walked. -/
import Derived.Test.YtjelpapcboiimaaUK
namespace Go.Proofs.Ytjelpapcboiimaa.PCellPuts
open Go.RowKit Go.Proofs.Ytjelpapcboiimaa.Ord Go.Proofs.YtjelpapcboiimaaW.PrintWords Go.Proofs.YtjelpapcboiimaaW.PrintLast Go.Proofs.YtjelpapcboiimaaW.PrintMore
set_option linter.unusedVariables false
set_option linter.unusedSimpArgs false

/-- What Take answers. -/
def takeR (s : ByteArray) : S25 × Nat := if (nextR s 0).2.2 ≠ 0 then (z25, (nextR s 0).2.2) else if (nextR s 0).2.1 < s.size then (z25, 4) else ((nextR s 0).1, 0)
def TakePost (r : S25 × Nat) (w : World) (e : Ending) (w' : World) : Prop :=
  ∃ v3, e = .returned (.tuple #[.agg #[.int .i64 r.1.f0, .int .i64 r.1.f1, .string r.1.f2, v3], .int .i64 (r.2 : Int)]) ∧ Kd.R k25 25 w' w.heap.size (fun _ => True) v3 r.1.f3 ∧ Below w.heap.size w w'
theorem results_take (tmps : Array Value) (w : World) (c : Nat) (a0 a1 a2 a3 : Value) (h2 : tmps.getD 2 undef = .pointer (some ⟨c, 0, none⟩))
    (hc : w.heap[c]? = some (.cells #[a0, a1, a2, a3] 25 (0, 0))) :
    (results Try.f21 tmps).run Try.prog w = .ok (.tuple #[.agg #[a0, a1, a2, a3], tmps.getD 3 undef]) w := by
  have h2' : tmps[2]?.getD undef = .pointer (some ⟨c, 0, none⟩) := by simpa using h2
  have k0 : w.cell? ⟨c, 0, none⟩ = some a0 := by rw [Lib.cell_of_heap hc]; rfl
  have k1 : w.cell? ⟨c, 1, none⟩ = some a1 := by rw [Lib.cell_of_heap hc]; rfl
  have k2 : w.cell? ⟨c, 2, none⟩ = some a2 := by rw [Lib.cell_of_heap hc]; rfl
  have k3 : w.cell? ⟨c, 3, none⟩ = some a3 := by rw [Lib.cell_of_heap hc]; rfl
  simp [results, Try.results21, h2', asAddr, k0, k1, k2, k3, go_sem]
theorem fin_take {w W3 : World} {base : Nat} {v : Value} {xs : List S25} (hb3 : Below w.heap.size w W3) (hbase : w.heap.size ≤ base) (hR : Kd.R k25 25 W3 base (fun k => k ≠ w.heap.size) v xs) (u0 u1 u2 u3 : Value) :
    Kd.R k25 25 (put4 W3 w.heap.size u0 u1 u2 u3) w.heap.size (fun _ => True) v xs ∧ Below w.heap.size w (put4 W3 w.heap.size u0 u1 u2 u3) := by
  refine ⟨Kd.R_mono (Kd.R_lower (Kd.R_step (w1 := put4 W3 w.heap.size u0 u1 u2 u3) hR (fun k hk _ => put4_far hk _ _ _ _)) hbase) (fun _ _ => trivial), ?_⟩
  exact ⟨hb3.os, hb3.tape, hb3.output, by rw [put4_size]; exact hb3.size, fun k hk => (put4_far (by omega) _ _ _ _).trans (hb3.block k hk)⟩

set_option maxHeartbeats 8000000 in
set_option maxRecDepth 100000 in
theorem Take_calls (s : ByteArray) (w : World) (hs : s.size ≤ 140737488355328) :
    Calls Try.prog 21 #[.string s] w (TakePost (takeR s) w) := by
  obtain ⟨W1, hW1⟩ : ∃ W1, W1 = w.alloc (.cells #[.int .i64 0, .int .i64 0, .string (⟨#[]⟩ : ByteArray), .slice none 0 0] 25) := ⟨_, rfl⟩
  have hn1 : Below w.heap.size w W1 := by rw [hW1]; exact (Below.refl _ _).alloc (Nat.le_refl _) _
  have hg1 : W1.heap[w.heap.size]? = some (.cells #[.int .i64 0, .int .i64 0, .string (⟨#[]⟩ : ByteArray), .slice none 0 0] 25 (0, 0)) := by rw [hW1]; exact heap_alloc_last _ _
  obtain ⟨rr, hrr⟩ : ∃ rr, rr = takeR s := ⟨_, rfl⟩
  rw [← hrr]
  unfold takeR at hrr
  obtain ⟨⟨x, tq, f⟩, hnx⟩ : ∃ nx, nx = nextR s 0 := ⟨_, rfl⟩
  rw [← hnx] at hrr
  simp only at hrr
  have hcall := Next_calls s 0 W1 hs (by decide) (by decide)
  rw [← hnx] at hcall
  have HC := Lib.hid hcall
  have HRR := Lib.hid hrr
  have HW1 := Lib.hid hW1
  have HN1 := Lib.hid hn1
  have HG1 := Lib.hid hg1
  clear hcall hrr hW1 hn1 hg1 hnx
  go_enter Try.func21, Try.ntmps21
  go_wp2_with fail
  rw [← HW1.out]
  refine HC.out.mono ?_
  rintro e W2 ⟨v3, rfl, hR, hb2⟩
  simp only at hR ⊢
  obtain ⟨A3, c3, rfl⟩ := R_slice hR
  have hs1 := (Array.getElem?_eq_some_iff.1 HG1.out).1
  obtain ⟨W3, hW3⟩ : ∃ W3, W3 = W2.alloc (.cells #[.int .i64 x.f0, .int .i64 x.f1, .string x.f2, .slice A3 x.f3.length c3] 25) := ⟨_, rfl⟩
  have hn3 : Below W2.heap.size W2 W3 := by rw [hW3]; exact (Below.refl _ _).alloc (Nat.le_refl _) _
  have hg3 : W3.heap[W2.heap.size]? = some (.cells #[.int .i64 x.f0, .int .i64 x.f1, .string x.f2, .slice A3 x.f3.length c3] 25 (0, 0)) := by rw [hW3]; exact heap_alloc_last _ _
  have hg2 := (hb2.block _ hs1).trans HG1.out
  have hs2 := hb2.size
  have hc3 := (hn3.block _ (Array.getElem?_eq_some_iff.1 hg2).1).trans hg2
  have hb3 : Below w.heap.size w W3 := (HN1.out.trans (hb2.mono HN1.out.size)).trans (hn3.mono (Nat.le_trans HN1.out.size hs2))
  have hR3 := Kd.R_mono (ok' := fun k => k ≠ w.heap.size) (Kd.R_bound (Kd.R_below hR hn3)) (fun k hk => by have := hk.2.1; omega)
  have HC33 := Lib.hid hc3
  have hbs := HN1.out.size
  rw [hW3] at hc3 hg3
  have z0 : (W2.alloc (.cells #[.int .i64 x.f0, .int .i64 x.f1, .string x.f2, .slice A3 x.f3.length c3] 25)).cell? ⟨w.heap.size, 0, none⟩ = some (.int .i64 0) := by rw [Lib.cell_of_heap hc3]; rfl
  have z1 : (W2.alloc (.cells #[.int .i64 x.f0, .int .i64 x.f1, .string x.f2, .slice A3 x.f3.length c3] 25)).cell? ⟨w.heap.size, 1, none⟩ = some (.int .i64 0) := by rw [Lib.cell_of_heap hc3]; rfl
  have z2 : (W2.alloc (.cells #[.int .i64 x.f0, .int .i64 x.f1, .string x.f2, .slice A3 x.f3.length c3] 25)).cell? ⟨w.heap.size, 2, none⟩ = some (.string (⟨#[]⟩ : ByteArray)) := by rw [Lib.cell_of_heap hc3]; rfl
  have z3 : (W2.alloc (.cells #[.int .i64 x.f0, .int .i64 x.f1, .string x.f2, .slice A3 x.f3.length c3] 25)).cell? ⟨w.heap.size, 3, none⟩ = some (.slice none 0 0) := by rw [Lib.cell_of_heap hc3]; rfl
  have f0 := Lib.frozen_of_heap hc3 0
  have f1 := Lib.frozen_of_heap hc3 1
  have f2 := Lib.frozen_of_heap hc3 2
  have f3 := Lib.frozen_of_heap hc3 3
  have HR3 := Lib.hid hR3
  have HB3 := Lib.hid hb3
  have HC3 := Lib.hid hc3
  have HW3 := Lib.hid hW3
  clear hR3 hb3 hc3 hg3 hn3 hR hW3 hg2 hb2
  by_cases he : f ≠ 0
  · have he' : ((f : Int) != 0) = true := by simp; omega
    go_wp2_with fail
    rw [← HW3.out]
    obtain ⟨e1, e2⟩ := fin_take HB3.out (Nat.le_refl _) (Kd.R_nil k25 25 W3 w.heap.size (fun k => k ≠ w.heap.size)) (.int .i64 0) (.int .i64 0) (.string (⟨#[]⟩ : ByteArray)) (.slice none 0 0)
    refine bodyPost_ret (results_take _ _ w.heap.size (.int .i64 0) (.int .i64 0) (.string (⟨#[]⟩ : ByteArray)) (.slice none 0 0) rfl (four_put HC33.out _ _ _ _)) rfl ?_
    rw [HRR.out, if_pos he]
    exact ⟨_, rfl, e1, e2⟩
  · have he' : ((f : Int) != 0) = false := by simp; omega
    by_cases hto : tq < s.size
    · go_wp2_with fail
      rw [← HW3.out]
      obtain ⟨e1, e2⟩ := fin_take HB3.out (Nat.le_refl _) (Kd.R_nil k25 25 W3 w.heap.size (fun k => k ≠ w.heap.size)) (.int .i64 0) (.int .i64 0) (.string (⟨#[]⟩ : ByteArray)) (.slice none 0 0)
      refine bodyPost_ret (results_take _ _ w.heap.size (.int .i64 0) (.int .i64 0) (.string (⟨#[]⟩ : ByteArray)) (.slice none 0 0) rfl (four_put HC33.out _ _ _ _)) rfl ?_
      rw [HRR.out, if_neg he, if_pos hto]
      exact ⟨_, rfl, e1, e2⟩
    · go_wp2_with fail
      rw [← HW3.out]
      obtain ⟨e1, e2⟩ := fin_take HB3.out hbs HR3.out (.int .i64 x.f0) (.int .i64 x.f1) (.string x.f2) (.slice A3 x.f3.length c3)
      refine bodyPost_ret (results_take _ _ w.heap.size (.int .i64 x.f0) (.int .i64 x.f1) (.string x.f2) (.slice A3 x.f3.length c3) rfl (four_put HC33.out _ _ _ _)) rfl ?_
      rw [HRR.out, if_neg he, if_neg hto]
      exact ⟨_, rfl, e1, e2⟩
end Go.Proofs.Ytjelpapcboiimaa.PCellPuts
