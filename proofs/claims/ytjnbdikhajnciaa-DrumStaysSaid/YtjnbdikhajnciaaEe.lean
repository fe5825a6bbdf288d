/- The drum: a new one. -/
import Derived.Test.YtjnbdikhajnciaaEd
namespace Go.Proofs.Ytjnbdikhajnciaa.Drum
open Go.RowKit Go.Proofs.Ytjnbdikhajnciaa.Ord Go.Proofs.YtjnbdikhajnciaaW.PrintWords Go.Proofs.Ytjnbdikhajnciaa.Base

theorem new_bad (n : Int) (h : n < 1 ∨ 4096 < n) (w : World) : Calls Try.prog 36 #[.int .i64 n] w fun e w' => e = .returned (.tuple #[.pointer none, .int .i64 2]) ∧ w = w' := by
  rcases h with h | h
  · go_enter Try.func36, Try.ntmps36
    go_wp2
    go_ret2
    exact ⟨rfl, rfl⟩
  · have h2 : ¬ n < 1 := by omega
    go_enter Try.func36, Try.ntmps36
    go_wp2
    go_ret2
    exact ⟨rfl, rfl⟩

theorem info_sec : (Try.prog.info? 84).map (fun i => (i.zero, i.size, i.bytes)) = some (some (.agg (List.replicate 64 (.int .u8 0)).toArray), 64, 64) := by kernel_rfl
theorem madeCells_rep (v : Value) (m n : Nat) (hm : 0 < m) : madeCells (List.replicate m v).toArray n = (List.replicate n v).toArray := by
  unfold madeCells
  apply Array.ext
  · simp
  · intro j h1 h2
    have hj := Nat.mod_lt j hm
    simp [hj]
def DS.zero (n : Nat) : DS := ⟨List.replicate n (List.replicate 64 0), [], false, 0, false⟩
theorem secCells_zero : secCells (List.replicate 64 0) = List.replicate 64 (.int .u8 0) := by unfold secCells; rw [nums_ints, rep_cells]
theorem sureCells_zero (n : Nat) : sureCells (List.replicate n (List.replicate 64 0)) = List.replicate (n * 64) (.int .u8 0) := by
  unfold sureCells
  induction n with
  | zero => rfl
  | succ n ih => rw [List.replicate_succ, List.flatMap_cons, ih, secCells_zero, List.replicate_append_replicate]; congr 1; omega
theorem make_sectors (n : Nat) (hn : n ≤ 4096) (w : World) :
    (Instr.makeSlice 70 (.int .i64 (n : Int)) (.int .i64 (n : Int))).run Try.prog w = .ok (.slice (some ⟨w.heap.size, 0, none⟩) n n) (w.alloc (.cells (sureCells (DS.zero n).sure).toArray 84)) := by
  obtain ⟨i0, hi, hz0, hz1, hz2⟩ := info_parts info_sec
  have h := run_make (P := Try.prog) w 70 84 i0 _ Try.underlying70 hi hz0 .i64 .i64 (n : Int) (n : Int) (by omega) (by omega) (by rw [hz2]; omega) (by omega)
  rw [h]
  have e : madeCells (Value.agg (List.replicate 64 (.int .u8 0)).toArray).cells ((n : Int).toNat * i0.size) = (sureCells (DS.zero n).sure).toArray := by
    rw [hz1]
    show _ = (sureCells (List.replicate n (List.replicate 64 0))).toArray
    rw [sureCells_zero]
    exact (madeCells_rep (Value.int .u8 0) 64 ((n : Int).toNat * 64) (by decide)).trans (by rw [Int.toNat_natCast])
  rw [e]; simp

/-- A new drum of n sectors. -/
def NewAt (n : Nat) (w : World) (e : Ending) (w' : World) : Prop := ∃ b sb cap, e = .returned (.tuple #[.pointer (some ⟨b, 0, none⟩), .int .i64 0]) ∧ w.heap.size ≤ b ∧ w.heap.size ≤ sb ∧ DrumAt w' b sb cap (.slice none 0 0) (DS.zero n) ∧ NewMem w w'
set_option maxRecDepth 100000 in
set_option maxHeartbeats 8000000 in
theorem new_ok (n : Nat) (h0 : 0 < n) (hn : n ≤ 4096) (w : World) :
    Calls Try.prog 36 #[.int .i64 (n : Int)] w fun e w' => NewAt n w e w' := by
  have hmk := make_sectors n hn w
  have hlt : ¬ (n : Int) < 1 := by omega
  have hgt : ¬ (n : Int) > 4096 := by omega
  have h0' : 0 < n := h0
  have hl : (DS.zero n).sure.length = n := by simp [DS.zero]
  have hsl : (sureCells (DS.zero n).sure).length = n * 64 := by show (sureCells (List.replicate n (List.replicate 64 0))).length = _; rw [sureCells_zero, List.length_replicate]
  have HL := Lib.hid hl
  have HSL := Lib.hid hsl
  clear hl hsl
  generalize hD : DS.zero n = D at *
  have HD := Lib.hid hD
  clear hD
  go_enter Try.func36, Try.ntmps36
  go_wp2
  go_ret2
  have hl := HL.out
  have hn1 : NewMem w ((w.alloc (.cells (sureCells D.sure).toArray 84)).alloc (.cells #[.slice (some ⟨w.heap.size, 0, none⟩) n n, .slice none 0 0, .bool false, .int .i64 0, .bool false] 73)) := (NewMem.alloc _ _).trans (NewMem.alloc _ _)
  refine ⟨w.heap.size + 1, w.heap.size, n, rfl, by omega, Nat.le_refl _, ?_, hn1⟩
  have hs0 : (w.alloc (.cells (sureCells D.sure).toArray 84)).ownsRow 0 84 64 (.slice (some ⟨w.heap.size, 0, none⟩) n n) n (sureCells D.sure) := World.ownsRow_lit w (sureCells D.sure).toArray n (Nat.zero_le _) (by unfold maxLen; omega) (by simpa using HSL.out)
  rw [HD.out]
  refine ⟨?_, ?_, ?_, by omega, by simp [Value.ownBlock], by simp [Value.ownBlock], by omega, by omega, ?_, ?_⟩
  · rw [hl, ← HD.out]; exact heap_alloc2_new w _ _
  · rw [hl]; exact hs0.alloc _
  · rw [← HD.out]; exact World.ownsRow_nil _ _ _ _
  · rw [← HD.out]; intro s hs; have := List.eq_of_mem_replicate hs; rw [this, List.length_replicate]
  · rw [← HD.out]; intro p hp; cases hp
end Go.Proofs.Ytjnbdikhajnciaa.Drum
