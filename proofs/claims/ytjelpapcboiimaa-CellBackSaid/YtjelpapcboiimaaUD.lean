/- cell.Put and cell.Size over a cell in memory. -/
import Derived.Test.YtjelpapcboiimaaUC
import Derived.Test.YtjelpapcboiimaaPCellPutsx1
namespace Go.Proofs.Ytjelpapcboiimaa.PCellPuts
open Go.RowKit Go.Proofs.YtjelpapcboiimaaW.PrintWords Go.Proofs.YtjelpapcboiimaaW.PrintLast Go.Proofs.YtjelpapcboiimaaW.PrintMore
set_option linter.unusedVariables false
set_option linter.unusedSimpArgs false

/-- What Put answers, r being what Check does. -/
def putB (r : Int) (x : S25) : List UInt8 := if r = 0 then encS x else []
theorem headB_ne (k n : Nat) : headB k n ≠ [] := by simp [headB]
theorem encS_ne : ∀ x : S25, encS x ≠ []
  | ⟨k, n, s, l⟩ => by
    rw [encS]
    split
    · split <;> exact headB_ne _ _
    · split <;> simp [headB]

set_option maxHeartbeats 4000000 in
set_option maxRecDepth 100000 in
theorem Put_calls (fuel : Nat) (x : S25) (A : Option Addr) (c : Nat) (r : Int) (w : World) (hA : Kd.C k25 w A x.f3.length x.f3) (hc : x.f3.length ≤ c) (hx : wfS x) (hr : cell_Check.f fuel x.f0 x.f1 x.f2 x.f3 = some r)
    (hlen : r = 0 → (encS x).length + 16 ≤ 140737488355328) :
    Calls Try.prog 9 #[.agg #[.int .i64 x.f0, .int .i64 x.f1, .string x.f2, .slice A x.f3.length c]] w fun e w' => e = .returned (.tuple #[.string ⟨(putB r x).toArray⟩, .int .i64 r]) ∧ Below w.heap.size w w' := by
  have HA := Lib.hid hA
  have HL := Lib.hid hlen
  obtain ⟨W1, hW1⟩ : ∃ W1, W1 = w.alloc (.cells #[.int .i64 x.f0, .int .i64 x.f1, .string x.f2, .slice A x.f3.length c] 25) := ⟨_, rfl⟩
  have hn1 : Below w.heap.size w W1 := by rw [hW1]; exact (Below.refl _ _).alloc (Nat.le_refl _) _
  have hg1 : W1.heap[w.heap.size]? = some (.cells #[.int .i64 x.f0, .int .i64 x.f1, .string x.f2, .slice A x.f3.length c] 25 (0, 0)) := by rw [hW1]; exact heap_alloc_last _ _
  have hgs : w.heap.size < W1.heap.size := (Array.getElem?_eq_some_iff.1 hg1).1
  have HC := Lib.hid (cell_Check.calls fuel x.f0 x.f1 x.f2 A c x.f3 r W1 (Kd.C_below hA hn1) hc hr)
  have HW1 := Lib.hid hW1
  have HG1 := Lib.hid hg1
  have HN1 := Lib.hid hn1
  clear hA hlen hW1 hg1 hn1
  go_enter Try.func9, Try.ntmps9
  go_wp2_with fail
  rw [← HW1.out]
  have c0 : W1.cell? ⟨w.heap.size, 0, none⟩ = some (.int .i64 x.f0) := by rw [Lib.cell_of_heap HG1.out]; rfl
  have c1 : W1.cell? ⟨w.heap.size, 1, none⟩ = some (.int .i64 x.f1) := by rw [Lib.cell_of_heap HG1.out]; rfl
  have c2 : W1.cell? ⟨w.heap.size, 2, none⟩ = some (.string x.f2) := by rw [Lib.cell_of_heap HG1.out]; rfl
  have c3 : W1.cell? ⟨w.heap.size, 3, none⟩ = some (.slice A x.f3.length c) := by rw [Lib.cell_of_heap HG1.out]; rfl
  clear c0 c1 c2 c3
  refine HC.out.mono ?_
  rintro e W2 ⟨rfl, hb2⟩
  have hB2 := HN1.out.trans (hb2.mono (Nat.le_of_lt hgs))
  have hg2 := (hb2.block _ hgs).trans HG1.out
  by_cases hr0 : r = 0
  · subst hr0
    obtain ⟨W3, hW3⟩ : ∃ W3, W3 = W2.alloc (.cells #[.pointer none, .slice none 0 0] 59) := ⟨_, rfl⟩
    have hn3 : Below W2.heap.size W2 W3 := by rw [hW3]; exact (Below.refl _ _).alloc (Nat.le_refl _) _
    have hi3 : IsWr W2.heap.size W2.heap.size [] W3 := by rw [hW3]; exact Lib.fresh_isBuilder _ _ _
    have hs2 := (Array.getElem?_eq_some_iff.1 hg2).1
    have hg3 := (hn3.block _ hs2).trans hg2
    have d0 : (W2.alloc (.cells #[.pointer none, .slice none 0 0] 59)).cell? ⟨w.heap.size, 0, none⟩ = some (.int .i64 x.f0) := by rw [← hW3, Lib.cell_of_heap hg3]; rfl
    have d1 : (W2.alloc (.cells #[.pointer none, .slice none 0 0] 59)).cell? ⟨w.heap.size, 1, none⟩ = some (.int .i64 x.f1) := by rw [← hW3, Lib.cell_of_heap hg3]; rfl
    have d2 : (W2.alloc (.cells #[.pointer none, .slice none 0 0] 59)).cell? ⟨w.heap.size, 2, none⟩ = some (.string x.f2) := by rw [← hW3, Lib.cell_of_heap hg3]; rfl
    have d3 : (W2.alloc (.cells #[.pointer none, .slice none 0 0] 59)).cell? ⟨w.heap.size, 3, none⟩ = some (.slice A x.f3.length c) := by rw [← hW3, Lib.cell_of_heap hg3]; rfl
    have hput := put_calls (SizeOf.sizeOf x + 1) x (Nat.lt_succ_self _) W2 W2.heap.size [] A c W3 hi3 (Kd.C_below HA.out hB2) hx (by have := HL.out rfl; simpa using this) hn3
    have HP := Lib.hid hput
    have HB2 := Lib.hid hB2
    have HW3 := Lib.hid hW3
    clear hput hB2 hb2 hg2 hg3 hs2 hn3 hi3
    go_wp2_with fail
    rw [← HW3.out]
    clear d0 d1 d2 d3
    refine HP.out.mono ?_
    rintro e W4 ⟨rfl, hw4, hb4, hm4⟩
    have hst := builderString W2.heap.size W2.heap.size (encS x) W4 (.inr (by simpa using hw4)) (encS_ne x)
    have HS := Lib.hid hst
    have HB4 := Lib.hid hb4
    clear hw4 hm4 hst hb4
    go_wp2_with fail
    refine HS.out.mono ?_
    rintro e W5 ⟨rfl, hb5⟩
    have hfin := HB2.out.trans ((HB4.out.trans hb5).mono HB2.out.size)
    go_wp2_with fail
    go_ret2
    exact ⟨rfl, hfin⟩
  · have HB2 := Lib.hid hB2
    clear hB2 hb2 hg2 HG1
    go_wp2_with fail
    go_ret2
    exact ⟨by rw [show putB r x = [] by unfold putB; rw [if_neg hr0]]; rfl, HB2.out⟩
set_option maxHeartbeats 4000000 in
set_option maxRecDepth 100000 in
theorem Size_calls (fuel : Nat) (x : S25) (A : Option Addr) (c : Nat) (r : Int) (w : World) (hA : Kd.C k25 w A x.f3.length x.f3) (hc : x.f3.length ≤ c) (hx : wfS x) (hr : cell_Check.f fuel x.f0 x.f1 x.f2 x.f3 = some r)
    (hlen : r = 0 → (encS x).length + 16 ≤ 140737488355328) :
    Calls Try.prog 13 #[.agg #[.int .i64 x.f0, .int .i64 x.f1, .string x.f2, .slice A x.f3.length c]] w fun e w' => e = .returned (.int .i64 ((putB r x).length : Int)) ∧ Below w.heap.size w w' := by
  obtain ⟨W1, hW1⟩ : ∃ W1, W1 = w.alloc (.cells #[.int .i64 x.f0, .int .i64 x.f1, .string x.f2, .slice A x.f3.length c] 25) := ⟨_, rfl⟩
  have hn1 : Below w.heap.size w W1 := by rw [hW1]; exact (Below.refl _ _).alloc (Nat.le_refl _) _
  have hg1 : W1.heap[w.heap.size]? = some (.cells #[.int .i64 x.f0, .int .i64 x.f1, .string x.f2, .slice A x.f3.length c] 25 (0, 0)) := by rw [hW1]; exact heap_alloc_last _ _
  have HP := Lib.hid (Put_calls fuel x A c r W1 (Kd.C_below hA hn1) hc hx hr hlen)
  have HW1 := Lib.hid hW1
  have HN1 := Lib.hid hn1
  have HG1 := Lib.hid hg1
  clear hA hlen hW1 hg1 hn1
  go_enter Try.func13, Try.ntmps13
  go_wp2_with fail
  rw [← HW1.out]
  have c0 : W1.cell? ⟨w.heap.size, 0, none⟩ = some (.int .i64 x.f0) := by rw [Lib.cell_of_heap HG1.out]; rfl
  have c1 : W1.cell? ⟨w.heap.size, 1, none⟩ = some (.int .i64 x.f1) := by rw [Lib.cell_of_heap HG1.out]; rfl
  have c2 : W1.cell? ⟨w.heap.size, 2, none⟩ = some (.string x.f2) := by rw [Lib.cell_of_heap HG1.out]; rfl
  have c3 : W1.cell? ⟨w.heap.size, 3, none⟩ = some (.slice A x.f3.length c) := by rw [Lib.cell_of_heap HG1.out]; rfl
  clear c0 c1 c2 c3
  refine HP.out.mono ?_
  rintro e W2 ⟨rfl, hb2⟩
  have hfin := HN1.out.trans (hb2.mono HN1.out.size)
  go_wp2_with fail
  go_ret
  exact ⟨by simp [ByteArray.size], hfin⟩
end Go.Proofs.Ytjelpapcboiimaa.PCellPuts
