/- The drum: Copy. -/
import Derived.Test.YtjnbdikhajnciaaEj
namespace Go.Proofs.Ytjnbdikhajnciaa.Drum
open Go.RowKit Go.Proofs.Ytjnbdikhajnciaa.Ord Go.Proofs.YtjnbdikhajnciaaW.PrintWords Go.Proofs.Ytjnbdikhajnciaa.Base
set_option linter.unusedVariables false
attribute [local go_sem] rdl_const rdl_func rdl_global rdl_nil rdl_cons

theorem info_sec3 : (Try.prog.info? 84).map (fun i => (i.zero, i.size, i.bytes)) = some (some (.agg (List.replicate 64 (.int .u8 0)).toArray), 64, 64) := info_sec
theorem wpList_value {P : Program} {ops : Array Oper} {Q : Exit → Act → World → Prop} {a : Act} {w w' : World} {rest : List Oper} {o : Oper} {v : Value} (hg : o.guard = none) (hr : (execOp a.eval o).run P w = .ok (.value v) w') (h : wpList P ops Q rest (a.put o.dst v) w') : wpList P ops Q (o :: rest) a w :=
  wpList_plain hg fun K hK => by unfold Oper.wp; rw [hr]; exact hK _ _ h
theorem build_none (t E : TypeId) (i : TypeInfo) (ht : Try.prog.underlying t = some (.slice E)) (hi : Try.prog.info? E = some i) (w : World) : (Instr.buildSlice t 0 #[]).run Try.prog w = .ok (.slice (some ⟨w.heap.size, 0, none⟩) 0 0) (w.alloc (.cells #[] E)) := by
  simp [Instr.buildSlice, run_underlying ht, sizeOf, typeInfo, hi, newRow, Instr.fill]
  exact congrArg (fun c => w.alloc (Obj.cells c E)) (Array.eq_empty_of_size_eq_zero (by simp))
/-- A slice of its own with the same cells. -/
def Cloned (E : TypeId) (size : Nat) (n : Nat) (xs : List Value) (w : World) (e : Ending) (w' : World) : Prop :=
  ∃ a cap, e = .returned (.slice a n cap) ∧ NewMem w w' ∧ w'.ownsRow 0 E size (.slice a n cap) n xs ∧ (∀ k, (Value.slice a n cap).ownBlock = some k → w.heap.size ≤ k)
theorem clone_run {t ty E : TypeId} {z : Value} {size bytes : Nat} (ht : Try.prog.underlying t = some (.slice E)) (hi : (Try.prog.info? E).map (fun i => (i.zero, i.size, i.bytes)) = some (some z, size, bytes)) (hz : z.cells.size = size) (hs : 0 < size)
    (g n cap : Nat) (xs : List Value) (w : World) (h : w.ownsRow 0 E size (.slice (some ⟨g, 0, none⟩) n cap) n xs) (h1 : ∀ u ∈ xs, u.oneCell' = true) (hn : n ≤ 1000000) (hb : bytes ≤ 1000) :
    ∃ a cp w', (Builtin.append_ #[t, t] ty #[.slice (some ⟨w.heap.size, 0, none⟩) 0 0, .slice (some ⟨g, 0, none⟩) n cap]).run Try.prog (w.alloc (.cells #[] E)) = .ok (.slice a n cp) w' ∧ NewMem w w' ∧
      w'.ownsRow 0 E size (.slice a n cp) n xs ∧ (∀ k, (Value.slice a n cp).ownBlock = some k → w.heap.size ≤ k) := by
  obtain ⟨i0, hi0, hz0, hz1, hz2⟩ := info_parts hi
  have h0 := World.ownsRow_made (e := E) (size := size) w #[] 0 (Nat.zero_le _) (by decide) (by simp)
  have hsrc := h.alloc (.cells #[] E)
  have hbn : n * bytes ≤ 1000000 * 1000 := Nat.mul_le_mul hn hb
  obtain ⟨v', w', hr, hown, hg, _, hat⟩ := run_append_own_at (P := Try.prog) (w.alloc (.cells #[] E)) 0 t ty E i0 z size bytes ht hi0 hz0 hz1 hz2 hz hs (.slice (some ⟨w.heap.size, 0, none⟩) 0 0) 0 [] h0 ⟨g, 0, none⟩ n cap xs h.1 (hsrc.cells rfl) h1 (by unfold maxLen; omega) (by rw [Nat.zero_add]; omega) (Nat.zero_le _)
  rw [Nat.zero_add, List.nil_append] at hown
  have hnew : NewMem w w' := ⟨hg.os, hg.tape, hg.output, by have := hg.size; simp at this; omega, fun k hk => (hg.block k (by simp; omega) (by simp [Value.ownBlock]; omega)).trans (heap_alloc_old w _ hk)⟩
  have hat' : ∀ k, v'.ownBlock = some k → w.heap.size ≤ k := fun k hk => by
    rcases hat with e | e
    · rw [hk] at e; simp [Value.ownBlock] at e; omega
    · rw [hk] at e; simp at e; omega
  rcases hown.2 with ⟨rfl, h0⟩ | ⟨g', cp, cur, rfl, _⟩
  · subst h0; exact ⟨none, 0, w', hr, hnew, hown, hat'⟩
  · exact ⟨_, cp, w', hr, hnew, hown, hat'⟩
set_option maxRecDepth 100000 in
set_option maxHeartbeats 4000000 in
theorem clone_sector (lv : Value) (n : Nat) (xs : List Value) (w : World) (h : w.ownsRow 0 84 64 lv n xs) (h1 : ∀ u ∈ xs, u.oneCell' = true) (hn : n ≤ 1000000) :
    Calls Try.prog 61 #[lv] w (Cloned 84 64 n xs w) := by
  rcases h.2 with ⟨rfl, h0⟩ | ⟨g, cap, cur, rfl, _⟩
  · subst h0
    have hx : xs = [] := by simpa using h.1
    subst hx
    have he := fun W => Lib.run_eql_slice_nil (P := Try.prog) W 70 84 none 0 0 0 0 Try.underlying70
    clear h h1 hn
    go_enter Try.func61, Try.ntmps61
    go_wp2
    go_ret
    exact ⟨none, 0, rfl, NewMem.refl _, World.ownsRow_nil _ _ _ _, by simp [Value.ownBlock]⟩
  · have he := fun W => Lib.run_eql_slice_nil (P := Try.prog) W 70 84 (some ⟨g, 0, none⟩) n cap 0 0 Try.underlying70
    obtain ⟨a, cp, w', hr, hnew, hown, hat⟩ := clone_run (ty := 70) Try.underlying70 info_sec3 (by rfl) (by decide) g n cap xs w h h1 hn (by decide)
    obtain ⟨ib, hib, _⟩ := info_parts info_sec3
    have HNEW  := Lib.hid hnew
    have HOWN := Lib.hid hown
    have HAT := Lib.hid hat
    clear hnew hown hat h h1 hn
    go_enter Try.func61, Try.ntmps61
    go_wp2_with (first
      | (refine wpList_value rfl (exec_buildSlice 70 0 #[] rfl (build_none 70 84 ib Try.underlying70 hib _)) ?_)
      | (refine wpList_value rfl (exec_append _ _ 70 rfl hr) ?_))
    go_ret
    exact ⟨a, cp, rfl, HNEW.out, HOWN.out, HAT.out⟩
set_option maxRecDepth 100000 in
set_option maxHeartbeats 4000000 in
theorem clone_loose (lv : Value) (n : Nat) (xs : List Value) (w : World) (h : w.ownsRow 0 86 65 lv n xs) (h1 : ∀ u ∈ xs, u.oneCell' = true) (hn : n ≤ 1000000) :
    Calls Try.prog 62 #[lv] w (Cloned 86 65 n xs w) := by
  rcases h.2 with ⟨rfl, h0⟩ | ⟨g, cap, cur, rfl, _⟩
  · subst h0
    have hx : xs = [] := by simpa using h.1
    subst hx
    have he := fun W => Lib.run_eql_slice_nil (P := Try.prog) W 71 86 none 0 0 0 0 Try.underlying71
    clear h h1 hn
    go_enter Try.func62, Try.ntmps62
    go_wp2
    go_ret
    exact ⟨none, 0, rfl, NewMem.refl _, World.ownsRow_nil _ _ _ _, by simp [Value.ownBlock]⟩
  · have he := fun W => Lib.run_eql_slice_nil (P := Try.prog) W 71 86 (some ⟨g, 0, none⟩) n cap 0 0 Try.underlying71
    obtain ⟨a, cp, w', hr, hnew, hown, hat⟩ := clone_run (ty := 71) Try.underlying71 info_loose (by show Try.zeroCells86.size = 65; rw [zero_loose]; rfl) (by decide) g n cap xs w h h1 hn (by decide)
    obtain ⟨ib, hib, _⟩ := info_parts info_loose
    have HNEW  := Lib.hid hnew
    have HOWN := Lib.hid hown
    have HAT := Lib.hid hat
    clear hnew hown hat h h1 hn
    go_enter Try.func62, Try.ntmps62
    go_wp2_with (first
      | (refine wpList_value rfl (exec_buildSlice 71 0 #[] rfl (build_none 71 86 ib Try.underlying71 hib _)) ?_)
      | (refine wpList_value rfl (exec_append _ _ 71 rfl hr) ?_))
    go_ret
    exact ⟨a, cp, rfl, HNEW.out, HOWN.out, HAT.out⟩
end Go.Proofs.Ytjnbdikhajnciaa.Drum
