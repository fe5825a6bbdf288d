/- Walks of the digest: its tables, the words of a block. -/
import Derived.Test.YtjnbdikhajnciaaDa
import Derived.Deep.WholeRow
import Derived.Deep.MidRow
namespace Go.Proofs.Ytjnbdikhajnciaa.Dig
open Go.RowKit Go.Proofs.Ytjnbdikhajnciaa.Sha

/-- The cells of words. -/
def Us (l : List (BitVec 32)) : List Value := l.map U

set_option maxHeartbeats 8000000 in
theorem begin_any (w : World) :
    Calls Try.prog 45 #[] w fun e w' => e = .returned (.agg init.cells.toArray) ∧ Below w.heap.size w w' := by
  go_enter Try.func45, Try.ntmps45
  go_wp2
  exact bodyPost_ret (v := .agg init.cells.toArray) (by simp [results, Try.results45, go_sem]; rfl) rfl ⟨rfl, (Below.refl _ _).alloc (Nat.le_refl _) _⟩

theorem wpList_build_as {P : Program} {ops : Array Oper} {rest : List Oper} {o : Oper} {a : Act} {w : World} {Q : Exit → Act → World → Prop} (hg : o.guard = none) (t : TypeId) (parts : Array (Nat × Operand)) (ho : o.op = .build t parts)
    (cells : Array Value) (hf : P.built t (parts.map fun (i, x) => (i, a.eval x)).toList = some cells)
    (h : wpList P ops Q rest (a.put o.dst (.agg cells)) w) : wpList P ops Q (o :: rest) a w := by
  refine wpList_build hg t parts ho (by rw [hf]; rfl) ?_
  rw [hf]; exact h

theorem info109 : (Try.prog.info? 109).map (·.size) = some 64 := by kernel_rfl
theorem all_K : (Us K).toArray.all (·.oneCell') = true := by decide +kernel
set_option maxRecDepth 100000 in
set_option maxHeartbeats 8000000 in
theorem numbers_any (w : World) :
    Calls Try.prog 72 #[] w fun e w' => e = .returned (.agg (Us K).toArray) ∧ Below w.heap.size w w' := by
  go_enter Try.func72, Try.ntmps72
  go_wp2_with (first
    | (refine wpList_build_as rfl 109 _ rfl (Us K).toArray (by kernel_rfl) ?_)
    | (refine wpList_store_row rfl 109 _ _ rfl w.heap.size (Us K).toArray rfl rfl 109 _ (heap_alloc_last w _) info109 rfl all_K ?_))
  rw [World.setRow_alloc_new]
  refine bodyPost_ret (v := .agg (Us K).toArray) (results_cell_row rfl _ _ w.heap.size 109 _ (0, 0) _ rfl (heap_alloc_last w _) Try.underlying109 rfl info109) rfl ⟨rfl, (Below.refl _ _).alloc (Nat.le_refl _) _⟩

theorem getD_cells (l : List (BitVec 32)) (i : Nat) (h : i < l.length) : (Us l)[i]? = some (U (l.getD i 0)) := by
  simp [Us, List.getD_eq_getElem?_getD, List.getElem?_eq_getElem h]
/-- An array of words, indexed. -/
theorem run_index_Us {P : Program} (t e : TypeId) (n : Nat) (l : List (BitVec 32)) (i : Nat) (hu : P.underlying t = some (.array n e)) (he : (P.info? e).map (·.size) = some 1) (hag : P.underlying e = some (.int .u32)) (hl : l.length = n) (hi : i < n) (w : World) :
    (Instr.index t (.agg (Us l).toArray) (.int .i64 (i : Int))).run P w = .ok (U (l.getD i 0)) w := by
  cases hq : P.info? e with
  | none => simp [hq] at he
  | some inf =>
    have hs : inf.size = 1 := by simpa [hq] using he
    have hg := getD_cells l i (by omega)
    have hb : (i : Int) < (n : Int) := by omega
    simp only [Instr.index, asIntOf, Sem.run_bind, run_underlying hu, Sem.run_pure, Result.andThen_ok]
    rw [if_pos ⟨by omega, hb⟩]
    simp [Sem.run_bind, sizeOf, typeInfo, hq, hs, part, isAgg, run_underlying hag, hg]
set_option maxRecDepth 100000 in
set_option maxHeartbeats 8000000 in
theorem k_any (i : Nat) (hi : i < 64) (w : World) :
    Calls Try.prog 71 #[.int .i64 (i : Int)] w fun e w' => e = .returned (.int .u32 (u (K.getD i 0))) ∧ w = w' := by
  have hx := run_index_Us (P := Try.prog) 105 33 64 K i Try.underlying105 (by kernel_rfl) Try.underlying33 rfl hi
  go_enter Try.func71, Try.ntmps71
  go_wp2_with (refine wpList_build_as rfl 105 _ rfl (Us K).toArray (by kernel_rfl) ?_)
  go_ret
  exact ⟨rfl, rfl⟩
/-- A string's byte, as the walk reads it. -/
theorem run_index_str {P : Program} (t : TypeId) (s : ByteArray) (q : Nat) (hu : P.underlying t = some .string) (hq : q < s.size) (w : World) :
    (Instr.index t (.string s) (.int .i64 (q : Int))).run P w = .ok (.int .u8 ((s.data.toList.getD q 0).toNat : Int)) w := by
  rw [run_index_string w t s .i64 q hu, dif_pos ⟨by omega, by omega⟩]
  have e : s[(q : Int).toNat]'(by omega) = s.data.toList.getD q 0 := by
    have h : q < s.data.toList.length := by simpa using hq
    rw [List.getD_eq_getElem?_getD, List.getElem?_eq_getElem h]; rfl
  rw [e]
theorem Us_all (l : List (BitVec 32)) : (Us l).toArray.all (·.oneCell') = true := Array.all_eq_true_iff_forall_mem.2 (fun v hv => by
  obtain ⟨x, _, rfl⟩ := List.mem_map.1 (by simpa [Us] using hv)
  rfl)
theorem shl_24 (a : BitVec 32) : IntKind.u32.wrap (u a * 16777216) = u (a <<< 24) := shl_nat a 24
theorem shl_16 (a : BitVec 32) : IntKind.u32.wrap (u a * 65536) = u (a <<< 16) := shl_nat a 16
theorem shl_8 (a : BitVec 32) : IntKind.u32.wrap (u a * 256) = u (a <<< 8) := shl_nat a 8
theorem conv_u32 (c : UInt8) : IntKind.u32.wrap (c.toNat : Int) = u (ofByte c) := by rw [← ofByte_u, wrap_u]
end Go.Proofs.Ytjnbdikhajnciaa.Dig
