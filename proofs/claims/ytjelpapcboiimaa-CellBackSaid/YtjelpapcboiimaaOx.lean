/- Single operations of a region that draws: what an append, a slice literal, a load and a store inside a block give. Over any program. -/
import Derived.Test.YtjelpapcboiimaaRh
import Derived.Great.BuildSlice
import Derived.Deep.AppendLies
import Derived.OwnWalk
namespace Go.Proofs.Ytjelpapcboiimaa.Ord
section
variable {P : Program}
theorem exec_append {o : Oper} {ρ : Operand → Value} {w w' : World} {v : Value} (s x : Operand) (t : TypeId) (ho : o.op = .call { callee := .builtin .append, args := #[s, x], argTypes := #[t, t] })
    (hr : (Builtin.append_ #[t, t] o.type #[ρ s, ρ x]).run P w = .ok v w') : (execOp ρ o).run P w = .ok (.value v) w' := by
  unfold execOp
  simp only [ho, resolve, invoke, builtin, Sem.run_bind, Sem.run_pure, Result.andThen_ok, List.map_toArray, List.map_cons, List.map_nil, hr]
theorem exec_buildSlice {o : Oper} {ρ : Operand → Value} {w w' : World} {v : Value} (t : TypeId) (len : Nat) (parts : Array (Nat × Operand)) (ho : o.op = .buildSlice t len parts)
    (hr : (Instr.buildSlice t len (parts.map fun (i, x) => (i, ρ x))).run P w = .ok v w') : (execOp ρ o).run P w = .ok (.value v) w' := by
  unfold execOp
  simp only [ho, Sem.run_bind, Sem.run_pure, Result.andThen_ok, hr]
/-- A slice literal: each element a value of s cells. -/
theorem run_lit (w : World) (t e : TypeId) (s len : Nat) (vs : List Value) (parts : Array (Nat × Value)) (z : Value) (b : Nat) (hu : P.underlying t = some (.slice e)) (hi : (P.info? e).map (fun i => (i.zero, i.size, i.bytes)) = some (some z, s, b))
    (hp : parts.toList = (vs.zipIdx 0).map fun x => (x.2, x.1)) (hs : 0 < s) (hn : 0 < len) (hl : vs.length = len) (hsm : len * s ≤ 2 ^ 24) (h1 : ∀ v ∈ vs, v.cells.size = s) :
    (Instr.buildSlice t len parts).run P w = .ok (.slice (some ⟨w.heap.size, 0, none⟩) len len) (w.alloc (.cells (vs.flatMap fun v => v.cells.toList).toArray e)) := by
  obtain ⟨ie, hie, hz, hz1, _⟩ := info_parts hi
  refine run_buildSlice w t e len parts _ ie z hu hie hz (by rw [hz1]; omega) (by rw [hz1]; exact Nat.ne_of_gt (Nat.mul_pos hn hs)) ?_
  rw [hz1, hp]
  exact Great.fill_whole hs vs _ h1 (by simp [hl])
theorem exec_load_mid {o : Oper} {ρ : Operand → Value} {w : World} (ty : TypeId) (x : Operand) (ho : o.op = .load ty x) (b off : Nat) (hx : ρ x = .pointer (some ⟨b, off, none⟩)) (cs : List Value) (d : TypeDesc) (hc : w.rangeAt b off cs)
    (hu : P.underlying ty = some d) (hd : d.isRow = true) (hi : (P.info? ty).map (·.size) = some cs.length) : (execOp ρ o).run P w = .ok (.value (.agg cs.toArray)) w := by
  unfold execOp
  simp only [ho, hx, Instr.loadAt, Instr.sureAddr, Sem.run_bind, Sem.run_pure, Result.andThen_ok, run_loadVar_mid w b off ty cs d hc hu hd hi]
theorem exec_store_mid {o : Oper} {ρ : Operand → Value} {w : World} (ty : TypeId) (x y : Operand) (ho : o.op = .store ty x y) (b off : Nat) (cells : Array Value) (hx : ρ x = .pointer (some ⟨b, off, none⟩)) (hy : ρ y = .agg cells)
    (ht : w.there b off cells.size) (hi : (P.info? ty).map (·.size) = some cells.size) (h1 : cells.all (·.oneCell') = true) : (execOp ρ o).run P w = .ok .skip (w.setCells b off cells.toList) := by
  unfold execOp
  simp only [ho, hx, hy, Instr.storeAt, Instr.sureAddr, Sem.run_bind, Sem.run_pure, Result.andThen_ok, run_storeVar_mid w b off ty cells ht hi h1]
/-- A block, some of its cells written. -/
theorem setCells_heap (t : TypeId) (fr : Nat × Nat) : ∀ (vs : List Value) (b o : Nat) (w : World) (cs : List Value), w.heap[b]? = some (.cells cs.toArray t fr) → o + vs.length ≤ cs.length →
    (w.setCells b o vs).heap[b]? = some (.cells (cs.take o ++ vs ++ cs.drop (o + vs.length)).toArray t fr)
  | [], b, o, w, cs, h, hl => by simpa [World.setCells] using h
  | v :: vs, b, o, w, cs, h, hl => by
    simp only [List.length_cons] at hl
    have h1 : (w.setCell ⟨b, o, none⟩ v).heap[b]? = some (.cells (cs.set o v).toArray t fr) := by
      simp [World.setCell, Array.getElem?_modify, h]
    have := setCells_heap t fr vs b (o + 1) _ (cs.set o v) h1 (by simp; omega)
    unfold World.setCells
    rw [this]
    congr 3
    have e1 : (cs.set o v).take (o + 1) = cs.take o ++ [v] := by
      rw [List.take_succ_eq_append_getElem (by simp; omega), List.take_set, List.set_eq_of_length_le (by simp; omega)]
      simp
    have e2 : (cs.set o v).drop (o + 1 + vs.length) = cs.drop (o + (vs.length + 1)) := by
      rw [List.drop_set, if_pos (by omega)]; congr 1; omega
    rw [e1, e2]
    simp
theorem setCells_size : ∀ (vs : List Value) (b o : Nat) (w : World), (w.setCells b o vs).heap.size = w.heap.size
  | [], _, _, _ => rfl
  | v :: vs, b, o, w => by unfold World.setCells; rw [setCells_size vs]; simp [World.setCell]
theorem setCells_other : ∀ (vs : List Value) (b o : Nat) (w : World) (k : Nat), k ≠ b → (w.setCells b o vs).heap[k]? = w.heap[k]?
  | [], _, _, _, _, _ => rfl
  | v :: vs, b, o, w, k, h => by unfold World.setCells; rw [setCells_other vs _ _ _ k h]; simp [World.setCell, Array.getElem?_modify, Ne.symm h]
theorem setCells_os : ∀ (vs : List Value) (b o : Nat) (w : World), (w.setCells b o vs).os = w.os ∧ (w.setCells b o vs).tape = w.tape ∧ (w.setCells b o vs).output = w.output
  | [], _, _, _ => ⟨rfl, rfl, rfl⟩
  | v :: vs, b, o, w => by unfold World.setCells; exact setCells_os vs _ _ _
theorem range_of_block {w : World} {b off : Nat} {cs all : List Value} {t : TypeId} {fr : Nat × Nat} (h : w.heap[b]? = some (.cells all.toArray t fr)) (hc : (all.drop off).take cs.length = cs) : w.rangeAt b off cs := fun j v hv => by
  have hj : j < cs.length := (List.getElem?_eq_some_iff.1 hv).1
  rw [cell_of_row w b (off + j) _ t fr h]
  rw [← hc, List.getElem?_take, if_pos hj, List.getElem?_drop] at hv
  simpa using hv
theorem there_of_block {w : World} {b off n : Nat} {all : List Value} {t : TypeId} (h : w.heap[b]? = some (.cells all.toArray t (0, 0))) (hn : off + n ≤ all.length) : w.there b off n := fun j hj => by
  refine ⟨?_, frozen_of_row w b _ _ t h⟩
  rw [cell_of_row w b (off + j) _ t _ h]
  simp; omega
end
end Go.Proofs.Ytjelpapcboiimaa.Ord
