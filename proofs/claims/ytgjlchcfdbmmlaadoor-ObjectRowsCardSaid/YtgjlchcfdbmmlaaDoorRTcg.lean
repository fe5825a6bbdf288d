/- Texts of one proof, joined: TJ, TK, TL, TM. -/
import Derived.Test.YtgjlchcfdbmmlaaDoorRTbg
import Derived.Defers
import Derived.Recover
import Derived.Laws.Pointers
import Derived.Tactics2
import Derived.Maps.AppendAt
set_option linter.unusedSimpArgs false
set_option linter.unusedVariables false
/- cell.Next: the deferred closure recovers what 'need' raised. -/
namespace Go.Proofs.YtgjlchcfdbmmlaaDoor.PObjectTakes
open Go.RowKit Go.Proofs.YtgjlchcfdbmmlaaDoor.Ord Go.Proofs.YtgjlchcfdbmmlaaDoorW.PrintWords Go.Proofs.YtgjlchcfdbmmlaaDoorW.PrintLast Go.Proofs.YtgjlchcfdbmmlaaDoorW.PrintMore
set_option linter.unusedVariables false
set_option linter.unusedSimpArgs false
attribute [local irreducible] OpGives
attribute [local go_sem] rdl_const rdl_func rdl_global rdl_nil rdl_cons

/-- The three results hold what the panic told; of the rest nothing has turned. -/
structure Caught (c t f : Nat) (p e0 : Int) (w w' : World) : Prop where
  os : w'.os = w.os
  tape : w'.tape = w.tape
  output : w'.output = w.output
  size : w.heap.size ≤ w'.heap.size
  block : ∀ k, k < w.heap.size → k ≠ c → k ≠ t → k ≠ f → w'.heap[k]? = w.heap[k]?
  cc : w'.heap[c]? = some (.cells #[.int .i64 0, .int .i64 0, .string (⟨#[]⟩ : ByteArray), .slice none 0 0] 42 (0, 0))
  ct : w'.heap[t]? = some (.cells #[.int .i64 p] 3 (0, 0))
  cf : w'.heap[f]? = some (.cells #[.int .i64 e0] 30 (0, 0))
/-- Four cells of a block written. -/
def put4 (W : World) (g : Nat) (a b c d : Value) : World := (((W.setCell ⟨g, 0, none⟩ a).setCell ⟨g, 1, none⟩ b).setCell ⟨g, 2, none⟩ c).setCell ⟨g, 3, none⟩ d
theorem put4_same {W : World} {g : Nat} {ty : TypeId} {a b c d : Value} (h : W.heap[g]? = some (.cells #[a, b, c, d] ty (0, 0))) (a' b' c' d' : Value) : (put4 W g a' b' c' d').heap[g]? = some (.cells #[a', b', c', d'] ty (0, 0)) := four_put h a' b' c' d'
theorem set_far (W : World) (k b j : Nat) (v : Value) (h : k ≠ b) : (W.setCell ⟨b, j, none⟩ v).heap[k]? = W.heap[k]? := Below.heap_setCell W ⟨b, j, none⟩ v k h
theorem put4_far {W : World} {g k : Nat} (h : k ≠ g) (a b c d : Value) : (put4 W g a b c d).heap[k]? = W.heap[k]? := by
  unfold put4
  rw [set_far _ _ _ _ _ h, set_far _ _ _ _ _ h, set_far _ _ _ _ _ h, set_far _ _ _ _ _ h]
theorem put4_size (W : World) (g : Nat) (a b c d : Value) : (put4 W g a b c d).heap.size = W.heap.size := by simp [put4, World.setCell]
/-- The closure's stores. -/
def caughtW (c t f : Nat) (p e0 : Int) (W : World) : World := World.setCell (World.setCell (put4 W c (.int .i64 0) (.int .i64 0) (.string (⟨#[]⟩ : ByteArray)) (.slice none 0 0)) ⟨t, 0, none⟩ (.int .i64 p)) ⟨f, 0, none⟩ (.int .i64 e0)
theorem caught_of {c t f : Nat} {p e0 : Int} {a0 a1 a2 a3 b0 d0 : Value} {w W1 : World} (hct : c ≠ t) (hcf : c ≠ f) (htf : t ≠ f) (hn : Below w.heap.size w W1)
    (hc : W1.heap[c]? = some (.cells #[a0, a1, a2, a3] 42 (0, 0))) (ht : W1.heap[t]? = some (.cells #[b0] 3 (0, 0))) (hf : W1.heap[f]? = some (.cells #[d0] 30 (0, 0))) : Caught c t f p e0 w (caughtW c t f p e0 W1) := by
  obtain ⟨W2, hW2⟩ : ∃ W2, W2 = put4 W1 c (.int .i64 0) (.int .i64 0) (.string (⟨#[]⟩ : ByteArray)) (.slice none 0 0) := ⟨_, rfl⟩
  have h4 : W2.heap[c]? = some (.cells #[.int .i64 0, .int .i64 0, .string (⟨#[]⟩ : ByteArray), .slice none 0 0] 42 (0, 0)) := by rw [hW2]; exact put4_same hc _ _ _ _
  have far : ∀ k, k ≠ c → W2.heap[k]? = W1.heap[k]? := fun k hk => by rw [hW2]; exact put4_far hk _ _ _ _
  have hsz : W2.heap.size = W1.heap.size := by rw [hW2]; exact put4_size _ _ _ _ _ _
  have hos : W2.os = W1.os := by rw [hW2]; rfl
  have htp : W2.tape = W1.tape := by rw [hW2]; rfl
  have hou : W2.output = W1.output := by rw [hW2]; rfl
  have t1 := (far t (Ne.symm hct)).trans ht
  have f1 := (far f (Ne.symm hcf)).trans hf
  obtain ⟨W3, hW3⟩ : ∃ W3, W3 = W2.setCell ⟨t, 0, none⟩ (.int .i64 p) := ⟨_, rfl⟩
  have hfin : caughtW c t f p e0 W1 = W3.setCell ⟨f, 0, none⟩ (.int .i64 e0) := by rw [hW3, hW2]; rfl
  have t3 : W3.heap[t]? = some (.cells #[.int .i64 p] 3 (0, 0)) := by rw [hW3]; exact blk_put (cs := #[b0]) t1 0 _ rfl
  have far3 : ∀ k, k ≠ t → W3.heap[k]? = W2.heap[k]? := fun k hk => by rw [hW3]; exact set_far _ _ _ _ _ hk
  have hs3 : W3.heap.size = W1.heap.size := by rw [hW3, ← hsz]; simp [World.setCell]
  rw [hfin]
  refine ⟨?_, ?_, ?_, ?_, fun k hk h1 h2 h3 => ?_, ?_, ?_, ?_⟩
  · show W3.os = _; rw [hW3]; show W2.os = _; rw [hos]; exact hn.os
  · show W3.tape = _; rw [hW3]; show W2.tape = _; rw [htp]; exact hn.tape
  · show W3.output = _; rw [hW3]; show W2.output = _; rw [hou]; exact hn.output
  · have := hn.size
    simp only [World.setCell, Array.size_modify]; omega
  · rw [set_far _ _ _ _ _ h3, far3 k h2, far k h1]; exact hn.block k hk
  · rw [set_far _ _ _ _ _ hcf, far3 c hct]; exact h4
  · rw [set_far _ _ _ _ _ htf]; exact t3
  · exact blk_put (cs := #[d0]) ((far3 f (Ne.symm htf)).trans f1) 0 _ rfl
theorem Caught.drew {c t f : Nat} {p e0 : Int} {w W : World} (h : Caught c t f p e0 w W) : Caught c t f p e0 w W.drew := ⟨h.os, h.tape, h.output, h.size, h.block, h.cc, h.ct, h.cf⟩
theorem as_wrong (v : Value) (W : World) : (Instr.typeAssert (.iface 132 v) 20 132 false).run Tryd.prog W = .ok v W := by kernel_rfl
set_option maxHeartbeats 4000000 in
set_option maxRecDepth 100000 in
theorem catch_idle (v0 v1 v2 : Value) (w : World) :
    CallsD Tryd.prog 65 #[v0, v1, v2] .returning w fun e u' w' => e = .returned (.tuple #[]) ∧ u' = .returning ∧ w' = w := by
  refine callsD_of_wpS Tryd.func65 rfl fun c₀ cs hu => ?_
  apply wpS_seq
  apply wpS_region
  simp [wpOpsS, go_sem, recoverD, hu, Tryd.ntmps65, Exit.thenS]
  rw [show (#[v0, v1, v2] ++ ((Array.replicate 12 undef).setIfInBounds 2 Value.nilIface).setIfInBounds 0 Value.nilIface) = #[v0, v1, v2, .nilIface, undef, .nilIface, undef, undef, undef, undef, undef, undef, undef, undef, undef] from rfl]
  refine wpS_of_wp ?_
  go_wp2
  cases c₀
  simp_all [bodyPostS, results, Tryd.results65]

set_option maxHeartbeats 4000000 in
set_option maxRecDepth 100000 in
theorem catch_wrong (c t f : Nat) (p e0 : Int) (older : List PanicEntry) (a0 a1 a2 a3 b0 d0 : Value) (w : World) (hct : c ≠ t) (hcf : c ≠ f) (htf : t ≠ f)
    (hc : w.heap[c]? = some (.cells #[a0, a1, a2, a3] 42 (0, 0))) (ht : w.heap[t]? = some (.cells #[b0] 3 (0, 0))) (hf : w.heap[f]? = some (.cells #[d0] 30 (0, 0))) :
    CallsD Tryd.prog 65 #[.pointer (some ⟨c, 0, none⟩), .pointer (some ⟨t, 0, none⟩), .pointer (some ⟨f, 0, none⟩)] (.panicking ({ v := .iface 132 (.agg #[.int .i64 p, .int .i64 e0]), recovered := false } :: older)) w fun e u' w' =>
      e = .returned (.tuple #[]) ∧ u' = .panicking ({ v := .iface 132 (.agg #[.int .i64 p, .int .i64 e0]), recovered := true } :: older) ∧ Caught c t f p e0 w w' := by
  have q1 := as_wrong
  refine callsD_of_wpS Tryd.func65 rfl fun c₀ cs hu => ?_
  apply wpS_seq
  apply wpS_region
  simp [wpOpsS, go_sem, recoverD, hu, Tryd.ntmps65, Exit.thenS]
  rw [show ∀ (v0 v1 v2 v : Value), (#[v0, v1, v2] ++ ((Array.replicate 12 undef).setIfInBounds 2 v).setIfInBounds 0 v) = #[v0, v1, v2, v, undef, v, undef, undef, undef, undef, undef, undef, undef, undef, undef] from fun _ _ _ _ => rfl]
  refine wpS_of_wp ?_
  have n1 : c < w.heap.size := (Array.getElem?_eq_some_iff.1 hc).1
  have n2 : t < w.heap.size := (Array.getElem?_eq_some_iff.1 ht).1
  have n3 : f < w.heap.size := (Array.getElem?_eq_some_iff.1 hf).1
  obtain ⟨W1, hW1⟩ : ∃ W1, W1 = w.alloc (.cells #[.int .i64 p, .int .i64 e0] 132) := ⟨_, rfl⟩
  have HW1 := Lib.hid hW1
  have hn : Below w.heap.size w W1 := by rw [hW1]; exact (Below.refl _ _).alloc (Nat.le_refl _) _
  have hg : W1.heap[w.heap.size]? = some (.cells #[.int .i64 p, .int .i64 e0] 132 (0, 0)) := by rw [hW1]; exact heap_alloc_last _ _
  have hc1 := (hn.block c n1).trans hc
  have ht1 := (hn.block t n2).trans ht
  have hf1 := (hn.block f n3).trans hf
  clear hW1 hc ht hf hn
  go_wp2
  rw [← HW1.out]
  have z0 : W1.cell? ⟨c, 0, none⟩ = some a0 := by rw [Lib.cell_of_heap hc1]; rfl
  have z1 : W1.cell? ⟨c, 1, none⟩ = some a1 := by rw [Lib.cell_of_heap hc1]; rfl
  have z2 : W1.cell? ⟨c, 2, none⟩ = some a2 := by rw [Lib.cell_of_heap hc1]; rfl
  have z3 : W1.cell? ⟨c, 3, none⟩ = some a3 := by rw [Lib.cell_of_heap hc1]; rfl
  have f0 := Lib.frozen_of_heap hc1 0
  have f1 := Lib.frozen_of_heap hc1 1
  have f2 := Lib.frozen_of_heap hc1 2
  have f3 := Lib.frozen_of_heap hc1 3
  have y0 : W1.cell? ⟨t, 0, none⟩ = some b0 := by rw [Lib.cell_of_heap ht1]; rfl
  have y1 : W1.cell? ⟨f, 0, none⟩ = some d0 := by rw [Lib.cell_of_heap hf1]; rfl
  have g0 := Lib.frozen_of_heap ht1 0
  have g1 := Lib.frozen_of_heap hf1 0
  have x0 : W1.cell? ⟨w.heap.size, 0, none⟩ = some (.int .i64 p) := by rw [Lib.cell_of_heap hg]; rfl
  have x1 : W1.cell? ⟨w.heap.size, 1, none⟩ = some (.int .i64 e0) := by rw [Lib.cell_of_heap hg]; rfl
  have hne1 : w.heap.size ≠ c := by omega
  have hne2 : w.heap.size ≠ t := by omega
  have hne3 : w.heap.size ≠ f := by omega
  have hd := (caught_of (p := p) (e0 := e0) (w := w) (W1 := W1) hct hcf htf (by rw [HW1.out]; exact (Below.refl _ _).alloc (Nat.le_refl _) _) hc1 ht1 hf1).drew
  have HD := Lib.hid hd
  clear hd hg hc1 ht1 hf1
  go_region
  have hfin := HD.out
  obtain ⟨WF, hWF⟩ : ∃ WF, WF = (caughtW c t f p e0 W1).drew := ⟨_, rfl⟩
  rw [← hWF] at hfin
  unfold caughtW put4 at hWF
  rw [← hWF]
  clear hWF HD
  exact ⟨rfl, _, rfl, _, results_none rfl _ _ _, rfl, rfl, hfin⟩
end Go.Proofs.YtgjlchcfdbmmlaaDoor.PObjectTakes
/- cell.Next walked. -/
namespace Go.Proofs.YtgjlchcfdbmmlaaDoor.PObjectTakes
open Go.RowKit Go.Proofs.YtgjlchcfdbmmlaaDoor.Ord Go.Proofs.YtgjlchcfdbmmlaaDoorW.PrintWords Go.Proofs.YtgjlchcfdbmmlaaDoorW.PrintLast Go.Proofs.YtgjlchcfdbmmlaaDoorW.PrintMore
set_option linter.unusedVariables false
set_option linter.unusedSimpArgs false
attribute [local irreducible] OpGives
attribute [local go_sem] rdl_const rdl_func rdl_global rdl_nil rdl_cons

/-- What Next answers. -/
def nextR (s : ByteArray) (a : Int) : S42 × Nat × Nat :=
  if a < 0 ∨ (s.size : Int) < a then (z42, 0, 2) else match cellD s 16 a.toNat with
  | .ok x q => (x, q, 0)
  | .bad p e => (z42, p, e)
def NextPost (r : S42 × Nat × Nat) (w : World) (e : Ending) (w' : World) : Prop :=
  ∃ v3, e = .returned (.tuple #[.agg #[.int .i64 r.1.f0, .int .i64 r.1.f1, .string r.1.f2, v3], .int .i64 (r.2.1 : Int), .int .i64 (r.2.2 : Int)]) ∧ Kd.R k42 42 w' w.heap.size (fun _ => True) v3 r.1.f3 ∧ Below w.heap.size w w'

/-- The three results hold what the panic told; of the rest nothing has turned. -/
structure Stored (c t f : Nat) (u0 u1 u2 u3 : Value) (p e0 : Int) (w w' : World) : Prop where
  os : w'.os = w.os
  tape : w'.tape = w.tape
  output : w'.output = w.output
  size : w.heap.size ≤ w'.heap.size
  block : ∀ k, k < w.heap.size → k ≠ c → k ≠ t → k ≠ f → w'.heap[k]? = w.heap[k]?
  cc : w'.heap[c]? = some (.cells #[u0, u1, u2, u3] 42 (0, 0))
  ct : w'.heap[t]? = some (.cells #[.int .i64 p] 3 (0, 0))
  cf : w'.heap[f]? = some (.cells #[.int .i64 e0] 30 (0, 0))
/-- The closure's stores. -/
def storeW (c t f : Nat) (u0 u1 u2 u3 : Value) (p e0 : Int) (W : World) : World := World.setCell (World.setCell (put4 W c u0 u1 u2 u3) ⟨t, 0, none⟩ (.int .i64 p)) ⟨f, 0, none⟩ (.int .i64 e0)
theorem stored_of {c t f : Nat} {u0 u1 u2 u3 : Value} {p e0 : Int} {a0 a1 a2 a3 b0 d0 : Value} {w W1 : World} (hct : c ≠ t) (hcf : c ≠ f) (htf : t ≠ f) (hn : Below w.heap.size w W1)
    (hc : W1.heap[c]? = some (.cells #[a0, a1, a2, a3] 42 (0, 0))) (ht : W1.heap[t]? = some (.cells #[b0] 3 (0, 0))) (hf : W1.heap[f]? = some (.cells #[d0] 30 (0, 0))) : Stored c t f u0 u1 u2 u3 p e0 w (storeW c t f u0 u1 u2 u3 p e0 W1) := by
  obtain ⟨W2, hW2⟩ : ∃ W2, W2 = put4 W1 c u0 u1 u2 u3 := ⟨_, rfl⟩
  have h4 : W2.heap[c]? = some (.cells #[u0, u1, u2, u3] 42 (0, 0)) := by rw [hW2]; exact put4_same hc _ _ _ _
  have far : ∀ k, k ≠ c → W2.heap[k]? = W1.heap[k]? := fun k hk => by rw [hW2]; exact put4_far hk _ _ _ _
  have hsz : W2.heap.size = W1.heap.size := by rw [hW2]; exact put4_size _ _ _ _ _ _
  have hos : W2.os = W1.os := by rw [hW2]; rfl
  have htp : W2.tape = W1.tape := by rw [hW2]; rfl
  have hou : W2.output = W1.output := by rw [hW2]; rfl
  have t1 := (far t (Ne.symm hct)).trans ht
  have f1 := (far f (Ne.symm hcf)).trans hf
  obtain ⟨W3, hW3⟩ : ∃ W3, W3 = W2.setCell ⟨t, 0, none⟩ (.int .i64 p) := ⟨_, rfl⟩
  have hfin : storeW c t f u0 u1 u2 u3 p e0 W1 = W3.setCell ⟨f, 0, none⟩ (.int .i64 e0) := by rw [hW3, hW2]; rfl
  have t3 : W3.heap[t]? = some (.cells #[.int .i64 p] 3 (0, 0)) := by rw [hW3]; exact blk_put (cs := #[b0]) t1 0 _ rfl
  have far3 : ∀ k, k ≠ t → W3.heap[k]? = W2.heap[k]? := fun k hk => by rw [hW3]; exact set_far _ _ _ _ _ hk
  have hs3 : W3.heap.size = W1.heap.size := by rw [hW3, ← hsz]; simp [World.setCell]
  rw [hfin]
  refine ⟨?_, ?_, ?_, ?_, fun k hk h1 h2 h3 => ?_, ?_, ?_, ?_⟩
  · show W3.os = _; rw [hW3]; show W2.os = _; rw [hos]; exact hn.os
  · show W3.tape = _; rw [hW3]; show W2.tape = _; rw [htp]; exact hn.tape
  · show W3.output = _; rw [hW3]; show W2.output = _; rw [hou]; exact hn.output
  · have := hn.size
    simp only [World.setCell, Array.size_modify]; omega
  · rw [set_far _ _ _ _ _ h3, far3 k h2, far k h1]; exact hn.block k hk
  · rw [set_far _ _ _ _ _ hcf, far3 c hct]; exact h4
  · rw [set_far _ _ _ _ _ htf]; exact t3
  · exact blk_put (cs := #[d0]) ((far3 f (Ne.symm htf)).trans f1) 0 _ rfl
theorem Stored.drew {c t f : Nat} {u0 u1 u2 u3 : Value} {p e0 : Int} {w W : World} (h : Stored c t f u0 u1 u2 u3 p e0 w W) : Stored c t f u0 u1 u2 u3 p e0 w W.drew := ⟨h.os, h.tape, h.output, h.size, h.block, h.cc, h.ct, h.cf⟩
theorem allocs3 (w : World) (o1 o2 o3 : Obj) : (((w.alloc o1).alloc o2).alloc o3).heap[w.heap.size]? = some o1 ∧ (((w.alloc o1).alloc o2).alloc o3).heap[w.heap.size + 1]? = some o2 ∧ (((w.alloc o1).alloc o2).alloc o3).heap[w.heap.size + 1 + 1]? = some o3 ∧ (((w.alloc o1).alloc o2).alloc o3).heap.size = w.heap.size + 1 + 1 + 1 := by
  have s1 : (w.alloc o1).heap.size = w.heap.size + 1 := by simp
  have s2 : ((w.alloc o1).alloc o2).heap.size = w.heap.size + 1 + 1 := by simp
  have e2 := heap_alloc_last (w.alloc o1) o2
  have e3 := heap_alloc_last ((w.alloc o1).alloc o2) o3
  rw [s1] at e2
  rw [s2] at e3
  exact ⟨(Lib.alloc_old _ _ _ (by omega)).trans ((Lib.alloc_old _ _ _ (by omega)).trans (heap_alloc_last _ _)), (Lib.alloc_old _ _ _ (by omega)).trans e2, e3, by simp⟩
theorem allocs4 (w : World) (o1 o2 o3 o4 : Obj) : ((((w.alloc o1).alloc o2).alloc o3).alloc o4).heap[w.heap.size]? = some o1 ∧ ((((w.alloc o1).alloc o2).alloc o3).alloc o4).heap[w.heap.size + 1]? = some o2 ∧ ((((w.alloc o1).alloc o2).alloc o3).alloc o4).heap[w.heap.size + 1 + 1]? = some o3 ∧
    ((((w.alloc o1).alloc o2).alloc o3).alloc o4).heap[w.heap.size + 1 + 1 + 1]? = some o4 ∧ ((((w.alloc o1).alloc o2).alloc o3).alloc o4).heap.size = w.heap.size + 1 + 1 + 1 + 1 := by
  obtain ⟨h1, h2, h3, hs⟩ := allocs3 w o1 o2 o3
  have e4 := heap_alloc_last (((w.alloc o1).alloc o2).alloc o3) o4
  rw [hs] at e4
  exact ⟨(Lib.alloc_old _ _ _ (by omega)).trans h1, (Lib.alloc_old _ _ _ (by omega)).trans h2, (Lib.alloc_old _ _ _ (by omega)).trans h3, e4, by simp⟩
theorem results_next (tmps : Array Value) (w : World) (c t f : Nat) (a0 a1 a2 a3 : Value) (p e : Int) (h4 : tmps.getD 4 undef = .pointer (some ⟨c, 0, none⟩)) (h5 : tmps.getD 5 undef = .pointer (some ⟨t, 0, none⟩)) (h6 : tmps.getD 6 undef = .pointer (some ⟨f, 0, none⟩))
    (hc : w.heap[c]? = some (.cells #[a0, a1, a2, a3] 42 (0, 0))) (ht : w.heap[t]? = some (.cells #[.int .i64 p] 3 (0, 0))) (hf : w.heap[f]? = some (.cells #[.int .i64 e] 30 (0, 0))) :
    (results Tryd.f40 tmps).run Tryd.prog w = .ok (.tuple #[.agg #[a0, a1, a2, a3], .int .i64 p, .int .i64 e]) w := by
  have h4' : tmps[4]?.getD undef = .pointer (some ⟨c, 0, none⟩) := by simpa using h4
  have h5' : tmps[5]?.getD undef = .pointer (some ⟨t, 0, none⟩) := by simpa using h5
  have h6' : tmps[6]?.getD undef = .pointer (some ⟨f, 0, none⟩) := by simpa using h6
  have c5 : w.cell? ⟨t, 0, none⟩ = some (.int .i64 p) := by rw [Lib.cell_of_heap ht]; rfl
  have c6 : w.cell? ⟨f, 0, none⟩ = some (.int .i64 e) := by rw [Lib.cell_of_heap hf]; rfl
  have k0 : w.cell? ⟨c, 0, none⟩ = some a0 := by rw [Lib.cell_of_heap hc]; rfl
  have k1 : w.cell? ⟨c, 1, none⟩ = some a1 := by rw [Lib.cell_of_heap hc]; rfl
  have k2 : w.cell? ⟨c, 2, none⟩ = some a2 := by rw [Lib.cell_of_heap hc]; rfl
  have k3 : w.cell? ⟨c, 3, none⟩ = some a3 := by rw [Lib.cell_of_heap hc]; rfl
  simp [results, Tryd.results40, h4', h5', h6', asAddr, k0, k1, k2, k3, c5, c6, go_sem]
theorem nextR_out {s : ByteArray} {a : Int} (h : a < 0 ∨ (s.size : Int) < a) : nextR s a = (z42, 0, 2) := if_pos h
theorem nextR_ok {s : ByteArray} {p q : Nat} {x : S42} (h : p ≤ s.size) (hc : cellD s 16 p = .ok x q) : nextR s (p : Int) = (x, q, 0) := by
  unfold nextR
  rw [if_neg (by omega), Int.toNat_natCast, hc]
theorem nextR_bad {s : ByteArray} {p p' e' : Nat} (h : p ≤ s.size) (hc : cellD s 16 p = .bad p' e') : nextR s (p : Int) = (z42, p', e') := by
  unfold nextR
  rw [if_neg (by omega), Int.toNat_natCast, hc]
set_option maxHeartbeats 8000000 in
set_option maxRecDepth 100000 in
theorem Next_calls (s : ByteArray) (a : Int) (w : World) (hs : s.size ≤ 140737488355328) (ha0 : -9223372036854775808 ≤ a) (ha1 : a ≤ 9223372036854775807) :
    Calls Tryd.prog 40 #[.string s, .int .i64 a] w (NextPost (nextR s a) w) := by
  have hmf : ∀ (fn : Fn) (first cap : Array Value) (w : World), (Instr.makeFunc fn first cap).run Tryd.prog w = .ok (.func fn first cap) w := fun _ _ _ _ => rfl
  obtain ⟨W3, hW3⟩ : ∃ W3 : World, W3 = ((w.alloc (.cells #[.int .i64 0, .int .i64 0, .string (⟨#[]⟩ : ByteArray), .slice none 0 0] 42)).alloc (.cells #[.int .i64 0] 3)).alloc (.cells #[.int .i64 2] 30) := ⟨_, rfl⟩
  have b3 : Below w.heap.size w W3 := by rw [hW3]; exact (((Below.refl _ _).alloc (Nat.le_refl _) _).alloc (by simp) _).alloc (by simp; omega) _
  have h3 := allocs3 w (.cells #[.int .i64 0, .int .i64 0, .string (⟨#[]⟩ : ByteArray), .slice none 0 0] 42) (.cells #[.int .i64 0] 3) (.cells #[.int .i64 2] 30)
  rw [← hW3] at h3
  obtain ⟨hc3, ht3, hf3, _⟩ := h3
  by_cases hbad : a < 0 ∨ (s.size : Int) < a
  · rw [nextR_out hbad]
    have HW3 := Lib.hid hW3
    have fin : ∀ tmps : Array Value, tmps.getD 4 undef = .pointer (some ⟨w.heap.size, 0, none⟩) → tmps.getD 5 undef = .pointer (some ⟨w.heap.size + 1, 0, none⟩) → tmps.getD 6 undef = .pointer (some ⟨w.heap.size + 1 + 1, 0, none⟩) →
        bodyPostD Tryd.prog Tryd.f40 (NextPost (z42, 0, 2) w) Exit.ret { tmps := tmps, defers := [] } W3 := fun tmps h4 h5 h6 =>
      ⟨_, results_next tmps W3 _ _ _ _ _ _ _ _ _ h4 h5 h6 hc3 ht3 hf3, _, rfl, Kd.R_nil _ _ _ _ _, b3⟩
    have FIN := Lib.hid fin
    clear hW3 b3 hc3 ht3 hf3 fin
    by_cases h0 : a < 0
    · go_enter_defers Tryd.func40, Tryd.ntmps40
      go_wp2
      rw [← HW3.out]
      exact FIN.out _ rfl rfl rfl
    · have h2 : (s.size : Int) < a := by omega
      clear hbad
      go_enter_defers Tryd.func40, Tryd.ntmps40
      go_wp2
      rw [← HW3.out]
      exact FIN.out _ rfl rfl rfl
  · clear hW3 b3 hc3 ht3 hf3
    obtain ⟨p, rfl⟩ : ∃ p : Nat, a = (p : Int) := ⟨a.toNat, by omega⟩
    have hle : p ≤ s.size := by omega
    obtain ⟨rr, hrr⟩ : ∃ rr, rr = nextR s (p : Int) := ⟨_, rfl⟩
    rw [← hrr]
    have HRRR := Lib.hid hrr
    have HLE := Lib.hid hle
    clear hrr
    have h1 : ¬ ((p : Int) < 0) := by omega
    have h2 : ¬ ((s.size : Int) < (p : Int)) := by omega
    obtain ⟨W4, hW4⟩ : ∃ W4 : World, W4 = (((w.alloc (.cells #[.int .i64 0, .int .i64 0, .string (⟨#[]⟩ : ByteArray), .slice none 0 0] 42)).alloc (.cells #[.int .i64 0] 3)).alloc (.cells #[.int .i64 0] 30)).alloc (.cells #[.string s, .int .i64 (p : Int)] 135) := ⟨_, rfl⟩
    have b4 : Below w.heap.size w W4 := by rw [hW4]; exact ((((Below.refl _ _).alloc (Nat.le_refl _) _).alloc (by simp) _).alloc (by simp; omega) _).alloc (by simp; omega) _
    have h4 := allocs4 w (.cells #[.int .i64 0, .int .i64 0, .string (⟨#[]⟩ : ByteArray), .slice none 0 0] 42) (.cells #[.int .i64 0] 3) (.cells #[.int .i64 0] 30) (.cells #[.string s, .int .i64 (p : Int)] 135)
    rw [← hW4] at h4
    obtain ⟨hc4, ht4, hf4, hr4, hsz4⟩ := h4
    have HCALL := Lib.hid (cell_calls s hs (w.heap.size + 1 + 1 + 1) 16 (by decide) p W4 hr4 hle)
    have HW4 := Lib.hid hW4
    clear hW4 hr4
    go_enter_defers Tryd.func40, Tryd.ntmps40
    go_wp2_with fail
    rw [← HW4.out]
    refine HCALL.out.mono ?_
    rintro e W5 ⟨hm, hp⟩
    have hc5 := (hm.block w.heap.size (by omega) (by omega)).trans hc4
    have ht5 := (hm.block (w.heap.size + 1) (by omega) (by omega)).trans ht4
    have hf5 := (hm.block (w.heap.size + 1 + 1) (by omega) (by omega)).trans hf4
    have hb5 : Below w.heap.size w W5 := b4.trans (hm.below (by omega) (by omega))
    cases hcd : cellD s 16 p with
    | bad p' e' =>
      rw [hcd] at hp
      have he : e = .panicked (wrongP (p' : Int) (e' : Int)) := hp
      subst he
      refine leaves_cons (f := 65) (args := #[.pointer (some ⟨w.heap.size, 0, none⟩), .pointer (some ⟨w.heap.size + 1, 0, none⟩), .pointer (some ⟨w.heap.size + 1 + 1, 0, none⟩)]) (by simp) (by simp [go_sem]) ?_
      refine (catch_wrong _ _ _ (p' : Int) (e' : Int) [] _ _ _ _ _ _ W5 (by omega) (by omega) (by omega) hc5 ht5 hf5).mono ?_
      rintro e u' w'' ⟨rfl, rfl, hcg⟩
      have hfin : Below w.heap.size w w'' := ⟨hcg.os.trans hb5.os, hcg.tape.trans hb5.tape, hcg.output.trans hb5.output, Nat.le_trans hb5.size hcg.size, fun k hk => (hcg.block k (Nat.lt_of_lt_of_le hk hb5.size) (by omega) (by omega) (by omega)).trans (hb5.block k hk)⟩
      refine ⟨_, results_next _ w'' _ _ _ _ _ _ _ _ _ rfl rfl rfl hcg.cc hcg.ct hcg.cf, ?_⟩
      rw [HRRR.out, nextR_bad HLE.out hcd]
      exact ⟨_, rfl, Kd.R_nil _ _ _ _ _, hfin⟩
    | ok x q =>
      rw [hcd] at hp
      obtain ⟨⟨v3, he, hR⟩, hrd, hq⟩ := hp
      subst he
      obtain ⟨A3, c3, rfl⟩ := R_slice hR
      have z0 : W5.cell? ⟨w.heap.size, 0, none⟩ = some (.int .i64 0) := by rw [Lib.cell_of_heap hc5]; rfl
      have z1 : W5.cell? ⟨w.heap.size, 1, none⟩ = some (.int .i64 0) := by rw [Lib.cell_of_heap hc5]; rfl
      have z2 : W5.cell? ⟨w.heap.size, 2, none⟩ = some (.string (⟨#[]⟩ : ByteArray)) := by rw [Lib.cell_of_heap hc5]; rfl
      have z3 : W5.cell? ⟨w.heap.size, 3, none⟩ = some (.slice none 0 0) := by rw [Lib.cell_of_heap hc5]; rfl
      have f0 := Lib.frozen_of_heap hc5 0
      have f1 := Lib.frozen_of_heap hc5 1
      have f2 := Lib.frozen_of_heap hc5 2
      have f3 := Lib.frozen_of_heap hc5 3
      have HC5 := Lib.hid hc5
      have HT5 := Lib.hid ht5
      have HF5 := Lib.hid hf5
      have HB5 := Lib.hid hb5
      have HR := Lib.hid hR
      have HRD := Lib.hid hrd
      have HSZ := Lib.hid hsz4
      have HS5 := Lib.hid hm.size
      clear hc5 ht5 hf5 hb5 hR hrd hm hc4 ht4 hf4 hsz4 b4
      go_wp2_with fail
      obtain ⟨W6, hW6⟩ : ∃ W6, W6 = put4 W5 w.heap.size (.int .i64 x.f0) (.int .i64 x.f1) (.string x.f2) (.slice A3 x.f3.length c3) := ⟨_, rfl⟩
      have hc6 : W6.heap[w.heap.size]? = some (.cells #[.int .i64 x.f0, .int .i64 x.f1, .string x.f2, .slice A3 x.f3.length c3] 42 (0, 0)) := by rw [hW6]; exact put4_same HC5.out _ _ _ _
      have hfar6 : ∀ k, k ≠ w.heap.size → W6.heap[k]? = W5.heap[k]? := fun k hk => by rw [hW6]; exact put4_far hk _ _ _ _
      have hs6 : W6.heap.size = W5.heap.size := by rw [hW6]; exact put4_size _ _ _ _ _ _
      have hb6 : Below w.heap.size w W6 := ⟨by rw [hW6]; exact HB5.out.os, by rw [hW6]; exact HB5.out.tape, by rw [hW6]; exact HB5.out.output, by rw [hs6]; exact HB5.out.size, fun k hk => (hfar6 k (by omega)).trans (HB5.out.block k hk)⟩
      have ht6 := (hfar6 (w.heap.size + 1) (by omega)).trans HT5.out
      have hf6 := (hfar6 (w.heap.size + 1 + 1) (by omega)).trans HF5.out
      have hr6 : W6.heap[w.heap.size + 1 + 1 + 1]? = some (.cells #[.string s, .int .i64 (q : Int)] 135 (0, 0)) := (hfar6 _ (by omega)).trans HRD.out
      have hR6 : Kd.R k42 42 W6 w.heap.size (fun k => k ≠ w.heap.size ∧ k ≠ w.heap.size + 1 ∧ k ≠ w.heap.size + 1 + 1) (.slice A3 x.f3.length c3) x.f3 := by
        have h1 := Kd.R_mono (ok' := fun k => w.heap.size + 1 + 1 + 1 + 1 ≤ k) (Kd.R_bound HR.out) (fun k hk => by have := HSZ.out; have := hk.2.1; omega)
        have h2 := Kd.R_step (w1 := W6) h1 (fun k hk hl => hfar6 k (by omega))
        exact Kd.R_mono (Kd.R_lower h2 (by have := HSZ.out; omega)) (fun k hk => by omega)
      unfold put4 at hW6
      rw [← hW6]
      clear hW6 hfar6 z0 z1 z2 z3 f0 f1 f2 f3
      have z0 : W6.cell? ⟨w.heap.size, 0, none⟩ = some (.int .i64 x.f0) := by rw [Lib.cell_of_heap hc6]; rfl
      have z1 : W6.cell? ⟨w.heap.size, 1, none⟩ = some (.int .i64 x.f1) := by rw [Lib.cell_of_heap hc6]; rfl
      have z2 : W6.cell? ⟨w.heap.size, 2, none⟩ = some (.string x.f2) := by rw [Lib.cell_of_heap hc6]; rfl
      have z3 : W6.cell? ⟨w.heap.size, 3, none⟩ = some (.slice A3 x.f3.length c3) := by rw [Lib.cell_of_heap hc6]; rfl
      have f0 := Lib.frozen_of_heap hc6 0
      have f1 := Lib.frozen_of_heap hc6 1
      have f2 := Lib.frozen_of_heap hc6 2
      have f3 := Lib.frozen_of_heap hc6 3
      have y0 : W6.cell? ⟨w.heap.size + 1, 0, none⟩ = some (.int .i64 0) := by rw [Lib.cell_of_heap ht6]; rfl
      have y1 : W6.cell? ⟨w.heap.size + 1 + 1, 0, none⟩ = some (.int .i64 0) := by rw [Lib.cell_of_heap hf6]; rfl
      have g0 := Lib.frozen_of_heap ht6 0
      have g1 := Lib.frozen_of_heap hf6 0
      have x1 : W6.cell? ⟨w.heap.size + 1 + 1 + 1, 1, none⟩ = some (.int .i64 (q : Int)) := by rw [Lib.cell_of_heap hr6]; rfl
      have hd := (stored_of (u0 := .int .i64 x.f0) (u1 := .int .i64 x.f1) (u2 := .string x.f2) (u3 := .slice A3 x.f3.length c3) (p := (q : Int)) (e0 := 0) (w := w) (W1 := W6) (c := w.heap.size) (t := w.heap.size + 1) (f := w.heap.size + 1 + 1) (by omega) (by omega) (by omega) hb6 hc6 ht6 hf6).drew
      have HD := Lib.hid hd
      have HR6 := Lib.hid hR6
      have HCD := Lib.hid hcd
      have HS6 := Lib.hid hs6
      have far : ∀ k, k ≠ w.heap.size → k ≠ w.heap.size + 1 → k ≠ w.heap.size + 1 + 1 → (storeW w.heap.size (w.heap.size + 1) (w.heap.size + 1 + 1) (.int .i64 x.f0) (.int .i64 x.f1) (.string x.f2) (.slice A3 x.f3.length c3) (q : Int) 0 W6).drew.heap[k]? = W6.heap[k]? := fun k h1 h2 h3 => by
        show (storeW w.heap.size (w.heap.size + 1) (w.heap.size + 1 + 1) (.int .i64 x.f0) (.int .i64 x.f1) (.string x.f2) (.slice A3 x.f3.length c3) (q : Int) 0 W6).heap[k]? = _
        unfold storeW
        rw [set_far _ _ _ _ _ h3, set_far _ _ _ _ _ h2, put4_far h1]
      have HFAR := Lib.hid far
      clear hd hR6 hc6 ht6 hf6 hr6 hb6 hs6 far hmf hcd hq h1 h2 hbad hle ha0 ha1
      go_region
      obtain ⟨WF, hWF⟩ : ∃ WF, WF = (storeW w.heap.size (w.heap.size + 1) (w.heap.size + 1 + 1) (.int .i64 x.f0) (.int .i64 x.f1) (.string x.f2) (.slice A3 x.f3.length c3) (q : Int) 0 W6).drew := ⟨_, rfl⟩
      have hst := HD.out
      have hfr := HFAR.out
      rw [← hWF] at hst hfr
      unfold storeW put4 at hWF
      rw [← hWF]
      have hRF := Kd.R_step (w1 := WF) HR6.out (fun k hk hl => hfr k hk.1 hk.2.1 hk.2.2)
      have HST := Lib.hid hst
      have HRF := Lib.hid (Kd.R_mono (ok' := fun _ => True) hRF (fun _ _ => trivial))
      clear hWF HD HFAR hst hfr hRF HR6 z0 z1 z2 z3 f0 f1 f2 f3 y0 y1 g0 g1 x1
      go_wp2_with fail
      refine leaves_cons (f := 65) (args := #[.pointer (some ⟨w.heap.size, 0, none⟩), .pointer (some ⟨w.heap.size + 1, 0, none⟩), .pointer (some ⟨w.heap.size + 1 + 1, 0, none⟩)]) (by simp) (by simp [go_sem]) ?_
      refine (catch_idle _ _ _ WF).mono ?_
      rintro e u' w'' ⟨rfl, rfl, rfl⟩
      have hcg := HST.out
      have hfin : Below w.heap.size w w'' := ⟨hcg.os, hcg.tape, hcg.output, hcg.size, fun k hk => hcg.block k hk (by omega) (by omega) (by omega)⟩
      refine ⟨_, results_next _ w'' _ _ _ _ _ _ _ _ _ rfl rfl rfl hcg.cc hcg.ct hcg.cf, ?_⟩
      rw [HRRR.out, nextR_ok HLE.out HCD.out]
      exact ⟨_, rfl, HRF.out, hfin⟩
end Go.Proofs.YtgjlchcfdbmmlaaDoor.PObjectTakes
/- cell.Take walked. -/
namespace Go.Proofs.YtgjlchcfdbmmlaaDoor.PObjectTakes
open Go.RowKit Go.Proofs.YtgjlchcfdbmmlaaDoor.Ord Go.Proofs.YtgjlchcfdbmmlaaDoorW.PrintWords Go.Proofs.YtgjlchcfdbmmlaaDoorW.PrintLast Go.Proofs.YtgjlchcfdbmmlaaDoorW.PrintMore
set_option linter.unusedVariables false
set_option linter.unusedSimpArgs false

/-- What Take answers. -/
def takeR (s : ByteArray) : S42 × Nat := if (nextR s 0).2.2 ≠ 0 then (z42, (nextR s 0).2.2) else if (nextR s 0).2.1 < s.size then (z42, 4) else ((nextR s 0).1, 0)
def TakePost (r : S42 × Nat) (w : World) (e : Ending) (w' : World) : Prop :=
  ∃ v3, e = .returned (.tuple #[.agg #[.int .i64 r.1.f0, .int .i64 r.1.f1, .string r.1.f2, v3], .int .i64 (r.2 : Int)]) ∧ Kd.R k42 42 w' w.heap.size (fun _ => True) v3 r.1.f3 ∧ Below w.heap.size w w'
theorem results_take (tmps : Array Value) (w : World) (c : Nat) (a0 a1 a2 a3 : Value) (h2 : tmps.getD 2 undef = .pointer (some ⟨c, 0, none⟩))
    (hc : w.heap[c]? = some (.cells #[a0, a1, a2, a3] 42 (0, 0))) :
    (results Tryd.f21 tmps).run Tryd.prog w = .ok (.tuple #[.agg #[a0, a1, a2, a3], tmps.getD 3 undef]) w := by
  have h2' : tmps[2]?.getD undef = .pointer (some ⟨c, 0, none⟩) := by simpa using h2
  have k0 : w.cell? ⟨c, 0, none⟩ = some a0 := by rw [Lib.cell_of_heap hc]; rfl
  have k1 : w.cell? ⟨c, 1, none⟩ = some a1 := by rw [Lib.cell_of_heap hc]; rfl
  have k2 : w.cell? ⟨c, 2, none⟩ = some a2 := by rw [Lib.cell_of_heap hc]; rfl
  have k3 : w.cell? ⟨c, 3, none⟩ = some a3 := by rw [Lib.cell_of_heap hc]; rfl
  simp [results, Tryd.results21, h2', asAddr, k0, k1, k2, k3, go_sem]
theorem fin_take {w W3 : World} {base : Nat} {v : Value} {xs : List S42} (hb3 : Below w.heap.size w W3) (hbase : w.heap.size ≤ base) (hR : Kd.R k42 42 W3 base (fun k => k ≠ w.heap.size) v xs) (u0 u1 u2 u3 : Value) :
    Kd.R k42 42 (put4 W3 w.heap.size u0 u1 u2 u3) w.heap.size (fun _ => True) v xs ∧ Below w.heap.size w (put4 W3 w.heap.size u0 u1 u2 u3) := by
  refine ⟨Kd.R_mono (Kd.R_lower (Kd.R_step (w1 := put4 W3 w.heap.size u0 u1 u2 u3) hR (fun k hk _ => put4_far hk _ _ _ _)) hbase) (fun _ _ => trivial), ?_⟩
  exact ⟨hb3.os, hb3.tape, hb3.output, by rw [put4_size]; exact hb3.size, fun k hk => (put4_far (by omega) _ _ _ _).trans (hb3.block k hk)⟩

set_option maxHeartbeats 8000000 in
set_option maxRecDepth 100000 in
theorem Take_calls (s : ByteArray) (w : World) (hs : s.size ≤ 140737488355328) :
    Calls Tryd.prog 21 #[.string s] w (TakePost (takeR s) w) := by
  obtain ⟨W1, hW1⟩ : ∃ W1, W1 = w.alloc (.cells #[.int .i64 0, .int .i64 0, .string (⟨#[]⟩ : ByteArray), .slice none 0 0] 42) := ⟨_, rfl⟩
  have hn1 : Below w.heap.size w W1 := by rw [hW1]; exact (Below.refl _ _).alloc (Nat.le_refl _) _
  have hg1 : W1.heap[w.heap.size]? = some (.cells #[.int .i64 0, .int .i64 0, .string (⟨#[]⟩ : ByteArray), .slice none 0 0] 42 (0, 0)) := by rw [hW1]; exact heap_alloc_last _ _
  obtain ⟨rr, hrr⟩ : ∃ rr, rr = takeR s := ⟨_, rfl⟩
  rw [← hrr]
  unfold takeR at hrr
  obtain ⟨⟨x, tq, f⟩, hnx⟩ : ∃ nx, nx = nextR s 0 := ⟨_, rfl⟩
  rw [← hnx] at hrr
  simp only at hrr
  have hcall := Next_calls s 0 W1 hs (by decide) (by decide)
  rw [← hnx] at hcall
  have HC := Lib.hid hcall
  have HRR := Lib.hid hrr
  have HW1 := Lib.hid hW1
  have HN1 := Lib.hid hn1
  have HG1 := Lib.hid hg1
  clear hcall hrr hW1 hn1 hg1 hnx
  go_enter Tryd.func21, Tryd.ntmps21
  go_wp2_with fail
  rw [← HW1.out]
  refine HC.out.mono ?_
  rintro e W2 ⟨v3, rfl, hR, hb2⟩
  simp only at hR ⊢
  obtain ⟨A3, c3, rfl⟩ := R_slice hR
  have hs1 := (Array.getElem?_eq_some_iff.1 HG1.out).1
  obtain ⟨W3, hW3⟩ : ∃ W3, W3 = W2.alloc (.cells #[.int .i64 x.f0, .int .i64 x.f1, .string x.f2, .slice A3 x.f3.length c3] 42) := ⟨_, rfl⟩
  have hn3 : Below W2.heap.size W2 W3 := by rw [hW3]; exact (Below.refl _ _).alloc (Nat.le_refl _) _
  have hg3 : W3.heap[W2.heap.size]? = some (.cells #[.int .i64 x.f0, .int .i64 x.f1, .string x.f2, .slice A3 x.f3.length c3] 42 (0, 0)) := by rw [hW3]; exact heap_alloc_last _ _
  have hg2 := (hb2.block _ hs1).trans HG1.out
  have hs2 := hb2.size
  have hc3 := (hn3.block _ (Array.getElem?_eq_some_iff.1 hg2).1).trans hg2
  have hb3 : Below w.heap.size w W3 := (HN1.out.trans (hb2.mono HN1.out.size)).trans (hn3.mono (Nat.le_trans HN1.out.size hs2))
  have hR3 := Kd.R_mono (ok' := fun k => k ≠ w.heap.size) (Kd.R_bound (Kd.R_below hR hn3)) (fun k hk => by have := hk.2.1; omega)
  have HC33 := Lib.hid hc3
  have hbs := HN1.out.size
  rw [hW3] at hc3 hg3
  have z0 : (W2.alloc (.cells #[.int .i64 x.f0, .int .i64 x.f1, .string x.f2, .slice A3 x.f3.length c3] 42)).cell? ⟨w.heap.size, 0, none⟩ = some (.int .i64 0) := by rw [Lib.cell_of_heap hc3]; rfl
  have z1 : (W2.alloc (.cells #[.int .i64 x.f0, .int .i64 x.f1, .string x.f2, .slice A3 x.f3.length c3] 42)).cell? ⟨w.heap.size, 1, none⟩ = some (.int .i64 0) := by rw [Lib.cell_of_heap hc3]; rfl
  have z2 : (W2.alloc (.cells #[.int .i64 x.f0, .int .i64 x.f1, .string x.f2, .slice A3 x.f3.length c3] 42)).cell? ⟨w.heap.size, 2, none⟩ = some (.string (⟨#[]⟩ : ByteArray)) := by rw [Lib.cell_of_heap hc3]; rfl
  have z3 : (W2.alloc (.cells #[.int .i64 x.f0, .int .i64 x.f1, .string x.f2, .slice A3 x.f3.length c3] 42)).cell? ⟨w.heap.size, 3, none⟩ = some (.slice none 0 0) := by rw [Lib.cell_of_heap hc3]; rfl
  have f0 := Lib.frozen_of_heap hc3 0
  have f1 := Lib.frozen_of_heap hc3 1
  have f2 := Lib.frozen_of_heap hc3 2
  have f3 := Lib.frozen_of_heap hc3 3
  have HR3 := Lib.hid hR3
  have HB3 := Lib.hid hb3
  have HC3 := Lib.hid hc3
  have HW3 := Lib.hid hW3
  clear hR3 hb3 hc3 hg3 hn3 hR hW3 hg2 hb2
  by_cases he : f ≠ 0
  · have he' : ((f : Int) != 0) = true := by simp; omega
    go_wp2_with fail
    rw [← HW3.out]
    obtain ⟨e1, e2⟩ := fin_take HB3.out (Nat.le_refl _) (Kd.R_nil k42 42 W3 w.heap.size (fun k => k ≠ w.heap.size)) (.int .i64 0) (.int .i64 0) (.string (⟨#[]⟩ : ByteArray)) (.slice none 0 0)
    refine bodyPost_ret (results_take _ _ w.heap.size (.int .i64 0) (.int .i64 0) (.string (⟨#[]⟩ : ByteArray)) (.slice none 0 0) rfl (four_put HC33.out _ _ _ _)) rfl ?_
    rw [HRR.out, if_pos he]
    exact ⟨_, rfl, e1, e2⟩
  · have he' : ((f : Int) != 0) = false := by simp; omega
    by_cases hto : tq < s.size
    · go_wp2_with fail
      rw [← HW3.out]
      obtain ⟨e1, e2⟩ := fin_take HB3.out (Nat.le_refl _) (Kd.R_nil k42 42 W3 w.heap.size (fun k => k ≠ w.heap.size)) (.int .i64 0) (.int .i64 0) (.string (⟨#[]⟩ : ByteArray)) (.slice none 0 0)
      refine bodyPost_ret (results_take _ _ w.heap.size (.int .i64 0) (.int .i64 0) (.string (⟨#[]⟩ : ByteArray)) (.slice none 0 0) rfl (four_put HC33.out _ _ _ _)) rfl ?_
      rw [HRR.out, if_neg he, if_pos hto]
      exact ⟨_, rfl, e1, e2⟩
    · go_wp2_with fail
      rw [← HW3.out]
      obtain ⟨e1, e2⟩ := fin_take HB3.out hbs HR3.out (.int .i64 x.f0) (.int .i64 x.f1) (.string x.f2) (.slice A3 x.f3.length c3)
      refine bodyPost_ret (results_take _ _ w.heap.size (.int .i64 x.f0) (.int .i64 x.f1) (.string x.f2) (.slice A3 x.f3.length c3) rfl (four_put HC33.out _ _ _ _)) rfl ?_
      rw [HRR.out, if_neg he, if_neg hto]
      exact ⟨_, rfl, e1, e2⟩
end Go.Proofs.YtgjlchcfdbmmlaaDoor.PObjectTakes
/- cell.List: the cells are laid into a row of their own. -/
namespace Go.Proofs.YtgjlchcfdbmmlaaDoor.PObjectTakes
open Go.RowKit Go.Proofs.YtgjlchcfdbmmlaaDoor.Ord Go.Proofs.YtgjlchcfdbmmlaaDoorW.PrintWords Go.Proofs.YtgjlchcfdbmmlaaDoorW.PrintLast Go.Proofs.YtgjlchcfdbmmlaaDoorW.PrintMore
set_option linter.unusedVariables false
set_option linter.unusedSimpArgs false

theorem wpList_value {P : Program} {ops : Array Oper} {Q : Exit → Act → World → Prop} {a : Act} {w w' : World} {rest : List Oper} {o : Oper} {v : Value} (hg : o.guard = none) (hr : (execOp a.eval o).run P w = .ok (.value v) w') (h : wpList P ops Q rest (a.put o.dst v) w') : wpList P ops Q (o :: rest) a w :=
  wpList_plain hg fun K hK => by unfold Oper.wp; rw [hr]; exact hK _ _ h
theorem reps_cells {W : World} {ps : List S42} {cs : List Value} (h : Reps (k42.K W) 4 ps cs) : ∀ u ∈ cs, u.oneCell' = true := by
  intro u hu
  obtain ⟨j, hj⟩ := List.getElem?_of_mem hu
  have hjl : j < cs.length := (List.getElem?_eq_some_iff.1 hj).1
  have hlen := h.1
  have he : j / 4 < ps.length := by omega
  have hp := h.2 (j / 4) _ (List.getElem?_eq_getElem he)
  refine k42.K_one hp u (List.mem_of_getElem? (i := j - j / 4 * 4) ?_)
  rw [List.getElem?_take, if_pos (by omega), List.getElem?_drop, show j / 4 * 4 + (j - j / 4 * 4) = j by omega]
  exact hj
end Go.Proofs.YtgjlchcfdbmmlaaDoor.PObjectTakes
