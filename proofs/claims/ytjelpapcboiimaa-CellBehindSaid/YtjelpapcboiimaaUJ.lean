/- cell.Next: the deferred closure recovers what 'need' raised. -/
import Derived.Test.YtjelpapcboiimaaUH
import Derived.Defers
import Derived.Recover
import Derived.Laws.Pointers
import Derived.Tactics2
namespace Go.Proofs.Ytjelpapcboiimaa.PCellPuts
open Go.RowKit Go.Proofs.Ytjelpapcboiimaa.Ord Go.Proofs.YtjelpapcboiimaaW.PrintWords Go.Proofs.YtjelpapcboiimaaW.PrintLast Go.Proofs.YtjelpapcboiimaaW.PrintMore
set_option linter.unusedVariables false
set_option linter.unusedSimpArgs false
attribute [local irreducible] OpGives
attribute [local go_sem] rdl_const rdl_func rdl_global rdl_nil rdl_cons

/-- The three results hold what the panic told; of the rest nothing has turned. -/
structure Caught (c t f : Nat) (p e0 : Int) (w w' : World) : Prop where
  os : w'.os = w.os
  tape : w'.tape = w.tape
  output : w'.output = w.output
  size : w.heap.size ≤ w'.heap.size
  block : ∀ k, k < w.heap.size → k ≠ c → k ≠ t → k ≠ f → w'.heap[k]? = w.heap[k]?
  cc : w'.heap[c]? = some (.cells #[.int .i64 0, .int .i64 0, .string (⟨#[]⟩ : ByteArray), .slice none 0 0] 25 (0, 0))
  ct : w'.heap[t]? = some (.cells #[.int .i64 p] 3 (0, 0))
  cf : w'.heap[f]? = some (.cells #[.int .i64 e0] 28 (0, 0))
/-- Four cells of a block written. -/
def put4 (W : World) (g : Nat) (a b c d : Value) : World := (((W.setCell ⟨g, 0, none⟩ a).setCell ⟨g, 1, none⟩ b).setCell ⟨g, 2, none⟩ c).setCell ⟨g, 3, none⟩ d
theorem put4_same {W : World} {g : Nat} {ty : TypeId} {a b c d : Value} (h : W.heap[g]? = some (.cells #[a, b, c, d] ty (0, 0))) (a' b' c' d' : Value) : (put4 W g a' b' c' d').heap[g]? = some (.cells #[a', b', c', d'] ty (0, 0)) := four_put h a' b' c' d'
theorem set_far (W : World) (k b j : Nat) (v : Value) (h : k ≠ b) : (W.setCell ⟨b, j, none⟩ v).heap[k]? = W.heap[k]? := Below.heap_setCell W ⟨b, j, none⟩ v k h
theorem put4_far {W : World} {g k : Nat} (h : k ≠ g) (a b c d : Value) : (put4 W g a b c d).heap[k]? = W.heap[k]? := by
  unfold put4
  rw [set_far _ _ _ _ _ h, set_far _ _ _ _ _ h, set_far _ _ _ _ _ h, set_far _ _ _ _ _ h]
theorem put4_size (W : World) (g : Nat) (a b c d : Value) : (put4 W g a b c d).heap.size = W.heap.size := by simp [put4, World.setCell]
/-- The closure's stores. -/
def caughtW (c t f : Nat) (p e0 : Int) (W : World) : World := World.setCell (World.setCell (put4 W c (.int .i64 0) (.int .i64 0) (.string (⟨#[]⟩ : ByteArray)) (.slice none 0 0)) ⟨t, 0, none⟩ (.int .i64 p)) ⟨f, 0, none⟩ (.int .i64 e0)
theorem caught_of {c t f : Nat} {p e0 : Int} {a0 a1 a2 a3 b0 d0 : Value} {w W1 : World} (hct : c ≠ t) (hcf : c ≠ f) (htf : t ≠ f) (hn : Below w.heap.size w W1)
    (hc : W1.heap[c]? = some (.cells #[a0, a1, a2, a3] 25 (0, 0))) (ht : W1.heap[t]? = some (.cells #[b0] 3 (0, 0))) (hf : W1.heap[f]? = some (.cells #[d0] 28 (0, 0))) : Caught c t f p e0 w (caughtW c t f p e0 W1) := by
  obtain ⟨W2, hW2⟩ : ∃ W2, W2 = put4 W1 c (.int .i64 0) (.int .i64 0) (.string (⟨#[]⟩ : ByteArray)) (.slice none 0 0) := ⟨_, rfl⟩
  have h4 : W2.heap[c]? = some (.cells #[.int .i64 0, .int .i64 0, .string (⟨#[]⟩ : ByteArray), .slice none 0 0] 25 (0, 0)) := by rw [hW2]; exact put4_same hc _ _ _ _
  have far : ∀ k, k ≠ c → W2.heap[k]? = W1.heap[k]? := fun k hk => by rw [hW2]; exact put4_far hk _ _ _ _
  have hsz : W2.heap.size = W1.heap.size := by rw [hW2]; exact put4_size _ _ _ _ _ _
  have hos : W2.os = W1.os := by rw [hW2]; rfl
  have htp : W2.tape = W1.tape := by rw [hW2]; rfl
  have hou : W2.output = W1.output := by rw [hW2]; rfl
  have t1 := (far t (Ne.symm hct)).trans ht
  have f1 := (far f (Ne.symm hcf)).trans hf
  obtain ⟨W3, hW3⟩ : ∃ W3, W3 = W2.setCell ⟨t, 0, none⟩ (.int .i64 p) := ⟨_, rfl⟩
  have hfin : caughtW c t f p e0 W1 = W3.setCell ⟨f, 0, none⟩ (.int .i64 e0) := by rw [hW3, hW2]; rfl
  have t3 : W3.heap[t]? = some (.cells #[.int .i64 p] 3 (0, 0)) := by rw [hW3]; exact blk_put (cs := #[b0]) t1 0 _ rfl
  have far3 : ∀ k, k ≠ t → W3.heap[k]? = W2.heap[k]? := fun k hk => by rw [hW3]; exact set_far _ _ _ _ _ hk
  have hs3 : W3.heap.size = W1.heap.size := by rw [hW3, ← hsz]; simp [World.setCell]
  rw [hfin]
  refine ⟨?_, ?_, ?_, ?_, fun k hk h1 h2 h3 => ?_, ?_, ?_, ?_⟩
  · show W3.os = _; rw [hW3]; show W2.os = _; rw [hos]; exact hn.os
  · show W3.tape = _; rw [hW3]; show W2.tape = _; rw [htp]; exact hn.tape
  · show W3.output = _; rw [hW3]; show W2.output = _; rw [hou]; exact hn.output
  · have := hn.size
    simp only [World.setCell, Array.size_modify]; omega
  · rw [set_far _ _ _ _ _ h3, far3 k h2, far k h1]; exact hn.block k hk
  · rw [set_far _ _ _ _ _ hcf, far3 c hct]; exact h4
  · rw [set_far _ _ _ _ _ htf]; exact t3
  · exact blk_put (cs := #[d0]) ((far3 f (Ne.symm htf)).trans f1) 0 _ rfl
theorem Caught.drew {c t f : Nat} {p e0 : Int} {w W : World} (h : Caught c t f p e0 w W) : Caught c t f p e0 w W.drew := ⟨h.os, h.tape, h.output, h.size, h.block, h.cc, h.ct, h.cf⟩
theorem as_wrong (v : Value) (W : World) : (Instr.typeAssert (.iface 65 v) 20 65 false).run Try.prog W = .ok v W := by kernel_rfl
set_option maxHeartbeats 4000000 in
set_option maxRecDepth 100000 in
theorem catch_idle (v0 v1 v2 : Value) (w : World) :
    CallsD Try.prog 29 #[v0, v1, v2] .returning w fun e u' w' => e = .returned (.tuple #[]) ∧ u' = .returning ∧ w' = w := by
  refine callsD_of_wpS Try.func29 rfl fun c₀ cs hu => ?_
  apply wpS_seq
  apply wpS_region
  simp [wpOpsS, go_sem, recoverD, hu, Try.ntmps29, Exit.thenS]
  rw [show (#[v0, v1, v2] ++ ((Array.replicate 12 undef).setIfInBounds 2 Value.nilIface).setIfInBounds 0 Value.nilIface) = #[v0, v1, v2, .nilIface, undef, .nilIface, undef, undef, undef, undef, undef, undef, undef, undef, undef] from rfl]
  refine wpS_of_wp ?_
  go_wp2
  cases c₀
  simp_all [bodyPostS, results, Try.results29]

set_option maxHeartbeats 4000000 in
set_option maxRecDepth 100000 in
theorem catch_wrong (c t f : Nat) (p e0 : Int) (older : List PanicEntry) (a0 a1 a2 a3 b0 d0 : Value) (w : World) (hct : c ≠ t) (hcf : c ≠ f) (htf : t ≠ f)
    (hc : w.heap[c]? = some (.cells #[a0, a1, a2, a3] 25 (0, 0))) (ht : w.heap[t]? = some (.cells #[b0] 3 (0, 0))) (hf : w.heap[f]? = some (.cells #[d0] 28 (0, 0))) :
    CallsD Try.prog 29 #[.pointer (some ⟨c, 0, none⟩), .pointer (some ⟨t, 0, none⟩), .pointer (some ⟨f, 0, none⟩)] (.panicking ({ v := .iface 65 (.agg #[.int .i64 p, .int .i64 e0]), recovered := false } :: older)) w fun e u' w' =>
      e = .returned (.tuple #[]) ∧ u' = .panicking ({ v := .iface 65 (.agg #[.int .i64 p, .int .i64 e0]), recovered := true } :: older) ∧ Caught c t f p e0 w w' := by
  have q1 := as_wrong
  refine callsD_of_wpS Try.func29 rfl fun c₀ cs hu => ?_
  apply wpS_seq
  apply wpS_region
  simp [wpOpsS, go_sem, recoverD, hu, Try.ntmps29, Exit.thenS]
  rw [show ∀ (v0 v1 v2 v : Value), (#[v0, v1, v2] ++ ((Array.replicate 12 undef).setIfInBounds 2 v).setIfInBounds 0 v) = #[v0, v1, v2, v, undef, v, undef, undef, undef, undef, undef, undef, undef, undef, undef] from fun _ _ _ _ => rfl]
  refine wpS_of_wp ?_
  have n1 : c < w.heap.size := (Array.getElem?_eq_some_iff.1 hc).1
  have n2 : t < w.heap.size := (Array.getElem?_eq_some_iff.1 ht).1
  have n3 : f < w.heap.size := (Array.getElem?_eq_some_iff.1 hf).1
  obtain ⟨W1, hW1⟩ : ∃ W1, W1 = w.alloc (.cells #[.int .i64 p, .int .i64 e0] 65) := ⟨_, rfl⟩
  have HW1 := Lib.hid hW1
  have hn : Below w.heap.size w W1 := by rw [hW1]; exact (Below.refl _ _).alloc (Nat.le_refl _) _
  have hg : W1.heap[w.heap.size]? = some (.cells #[.int .i64 p, .int .i64 e0] 65 (0, 0)) := by rw [hW1]; exact heap_alloc_last _ _
  have hc1 := (hn.block c n1).trans hc
  have ht1 := (hn.block t n2).trans ht
  have hf1 := (hn.block f n3).trans hf
  clear hW1 hc ht hf hn
  go_wp2
  rw [← HW1.out]
  have z0 : W1.cell? ⟨c, 0, none⟩ = some a0 := by rw [Lib.cell_of_heap hc1]; rfl
  have z1 : W1.cell? ⟨c, 1, none⟩ = some a1 := by rw [Lib.cell_of_heap hc1]; rfl
  have z2 : W1.cell? ⟨c, 2, none⟩ = some a2 := by rw [Lib.cell_of_heap hc1]; rfl
  have z3 : W1.cell? ⟨c, 3, none⟩ = some a3 := by rw [Lib.cell_of_heap hc1]; rfl
  have f0 := Lib.frozen_of_heap hc1 0
  have f1 := Lib.frozen_of_heap hc1 1
  have f2 := Lib.frozen_of_heap hc1 2
  have f3 := Lib.frozen_of_heap hc1 3
  have y0 : W1.cell? ⟨t, 0, none⟩ = some b0 := by rw [Lib.cell_of_heap ht1]; rfl
  have y1 : W1.cell? ⟨f, 0, none⟩ = some d0 := by rw [Lib.cell_of_heap hf1]; rfl
  have g0 := Lib.frozen_of_heap ht1 0
  have g1 := Lib.frozen_of_heap hf1 0
  have x0 : W1.cell? ⟨w.heap.size, 0, none⟩ = some (.int .i64 p) := by rw [Lib.cell_of_heap hg]; rfl
  have x1 : W1.cell? ⟨w.heap.size, 1, none⟩ = some (.int .i64 e0) := by rw [Lib.cell_of_heap hg]; rfl
  have hne1 : w.heap.size ≠ c := by omega
  have hne2 : w.heap.size ≠ t := by omega
  have hne3 : w.heap.size ≠ f := by omega
  have hd := (caught_of (p := p) (e0 := e0) (w := w) (W1 := W1) hct hcf htf (by rw [HW1.out]; exact (Below.refl _ _).alloc (Nat.le_refl _) _) hc1 ht1 hf1).drew
  have HD := Lib.hid hd
  clear hd hg hc1 ht1 hf1
  go_region
  have hfin := HD.out
  obtain ⟨WF, hWF⟩ : ∃ WF, WF = (caughtW c t f p e0 W1).drew := ⟨_, rfl⟩
  rw [← hWF] at hfin
  unfold caughtW put4 at hWF
  rw [← hWF]
  clear hWF HD
  exact ⟨rfl, _, rfl, _, results_none rfl _ _ _, rfl, rfl, hfin⟩
end Go.Proofs.Ytjelpapcboiimaa.PCellPuts
