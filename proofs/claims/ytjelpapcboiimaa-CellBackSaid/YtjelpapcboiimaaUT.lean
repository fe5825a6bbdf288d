/- A cell that comes in, opened. -/
import Derived.Test.YtjelpapcboiimaaUQ
import Derived.ChangeArms
import Derived.DataReads
import Derived.WideShapes
import Derived.Deep.Slices
namespace Go.Proofs.Ytjelpapcboiimaa.PCellPuts
open Go.RowKit Go.Proofs.YtjelpapcboiimaaW.PrintWords Go.Proofs.YtjelpapcboiimaaW.PrintLast Go.Proofs.YtjelpapcboiimaaW.PrintMore
open Go.ChangeShapes Go.WideShapes
set_option linter.unusedVariables false
set_option linter.unusedSimpArgs false

theorem choose_row {α : Type} (P : Nat → α → Prop) : ∀ n, (∀ i, i < n → ∃ v, P i v) → ∃ l : List α, l.length = n ∧ ∀ i v, l[i]? = some v → P i v
  | 0, _ => ⟨[], rfl, fun i v h => by simp at h⟩
  | n + 1, h => by
    obtain ⟨l, hl, hp⟩ := choose_row P n (fun i hi => h i (by omega))
    obtain ⟨v, hv⟩ := h n (by omega)
    refine ⟨l ++ [v], by simp [hl], fun i u hu => ?_⟩
    rcases Nat.lt_or_ge i l.length with hlt | hge
    · rw [List.getElem?_append_left hlt] at hu; exact hp i u hu
    · rw [List.getElem?_append_right hge] at hu
      have hi : i - l.length = 0 := by
        rcases Nat.eq_zero_or_pos (i - l.length) with e | e
        · exact e
        · rw [List.getElem?_eq_none (by simp; omega)] at hu; cases hu
      rw [hi] at hu
      simp at hu
      subst hu
      have : i = n := by omega
      rw [this]; exact hv
section
variable {H : Type} {enc : TypeId × Value → H} {W : World} {held : Bool}
/-- The cells of a cell. -/
def CellCs (W : World) (cs : List Value) (y : S25) : Prop := ∃ A c, cs = [.int .i64 y.f0, .int .i64 y.f1, .string y.f2, .slice A y.f3.length c] ∧ y.f3.length ≤ c ∧ Kd.C k25 W A y.f3.length y.f3 ∧ wfW y
def RowCs (W : World) (cs : List Value) (l : List S25) : Prop := ∃ A c, cs = [.slice A l.length c] ∧ l.length ≤ c ∧ Kd.C k25 W A l.length l ∧ wfWL l ∧ l.length ≤ 9223372036854775807
theorem cells_cell : Try.prog.cellsOf 25 = 4 := by kernel_rfl
theorem cells_one : Try.prog.cellsOf 3 = 1 ∧ Try.prog.cellsOf 9 = 1 ∧ Try.prog.cellsOf 23 = 1 := ⟨by kernel_rfl, by kernel_rfl, by kernel_rfl⟩
theorem cells_kind : Try.prog.cellsOf 22 = 1 := by kernel_rfl
theorem four_of {cs : List Value} (h : cs.length = 4) : ∃ a b c d, cs = [a, b, c, d] := by
  match cs, h with
  | [a, b, c, d], _ => exact ⟨a, b, c, d, rfl⟩
theorem open_cells : ∀ (fuel : Nat), (∀ cs (x : DataW H × List MemPlace), DataW.trod enc Try.prog W 0 (fun _ => true) held fuel 23 cs = some x → ∃ l, RowCs W cs l) ∧
    (∀ cs (x : DataW H × List MemPlace), DataW.trod enc Try.prog W 0 (fun _ => true) held fuel 25 cs = some x → ∃ y, CellCs W cs y)
  | 0 => ⟨fun cs x h => by simp [DataW.trod] at h, fun cs x h => by simp [DataW.trod] at h⟩
  | fuel + 1 => by
    obtain ⟨ih1, ih2⟩ := open_cells fuel
    refine ⟨fun cs x h => ?_, fun cs x h => ?_⟩
    · rcases DataW.trod_slice Try.underlying23 h with ⟨rfl, _⟩ | ⟨a, len, cap, elems, rest, n, hn, rfl, _, _, hl, hm, hlen, hel, _, _⟩
      · exact ⟨[], none, 0, rfl, Nat.le_refl _, Kd.C_nil _ _, by rw [wfWL]; trivial, by decide⟩
      · injection hn with hn
        subst hn
        rw [cells_cell] at hel
        obtain ⟨l, hll, hlp⟩ := choose_row (fun i y => ∃ c, c.length = 4 ∧ CellCs W c y ∧ ∀ j u, c[j]? = some u → W.cell? (a.add (i * 4 + j)) = some u) len (fun i hi => by
          have he := hel i hi
          rw [List.getElem?_eq_getElem (by omega)] at he
          obtain ⟨cs', hc, ht⟩ := Option.bind_eq_some_iff.1 he
          obtain ⟨y, hy⟩ := ih2 cs' _ ht
          obtain ⟨_, hcl, hat⟩ := World.cells?_some hc
          refine ⟨y, cs', hcl, hy, fun j u hu => ?_⟩
          have hj : j < 4 := by rw [← hcl]; exact (List.getElem?_eq_some_iff.1 hu).1
          have := hat j hj
          rw [hu] at this
          rw [← this, Go.Deep.add_add])
        refine ⟨l, some a, cap, by rw [hll], by omega, ⟨rfl, by unfold maxLen at hm; omega, fun _ => ⟨a, rfl, fun j p hj => ?_⟩⟩, wfWL_of (fun y hy => ?_), by unfold maxLen at hm; omega⟩
        · obtain ⟨c, hc4, ⟨A', c', rfl, hcc, hC, hw⟩, hcell⟩ := hlp j p hj
          exact ⟨_, hc4, k25_mk W p hcc hC, hcell⟩
        · obtain ⟨i, hi⟩ := List.getElem?_of_mem hy
          obtain ⟨c, _, ⟨_, _, _, _, _, hw⟩, _⟩ := hlp i y hi
          exact hw
    · obtain ⟨xs, n, hn, _, hlen, hxs, hf⟩ := DataW.trod_struct Try.underlying25 h
      injection hn with hn
      subst hn
      rw [cells_cell] at hlen
      obtain ⟨a, b, c, d, rfl⟩ := four_of hlen
      have hx : xs.length = 4 := hxs
      have g0 : DataW.trod enc Try.prog W 0 (fun _ => true) held fuel 22 [a] = xs[0]? := by have := hf 0 _ rfl; rw [show Try.prog.cellsOf (_ : Field).type = 1 from cells_kind] at this; exact this
      have g1 : DataW.trod enc Try.prog W 0 (fun _ => true) held fuel 3 [b] = xs[1]? := by have := hf 1 _ rfl; rw [show Try.prog.cellsOf (_ : Field).type = 1 from cells_one.1] at this; exact this
      have g2 : DataW.trod enc Try.prog W 0 (fun _ => true) held fuel 9 [c] = xs[2]? := by have := hf 2 _ rfl; rw [show Try.prog.cellsOf (_ : Field).type = 1 from cells_one.2.1] at this; exact this
      have g3 : DataW.trod enc Try.prog W 0 (fun _ => true) held fuel 23 [d] = xs[3]? := by have := hf 3 _ rfl; rw [show Try.prog.cellsOf (_ : Field).type = 1 from cells_one.2.2] at this; exact this
      rw [List.getElem?_eq_getElem (by omega)] at g0 g1 g2 g3
      obtain ⟨n0, e0, _, w0⟩ := DataW.trod_int Try.underlying22 g0
      obtain ⟨n1, e1, _, w1⟩ := DataW.trod_int Try.underlying3 g1
      obtain ⟨s2, e2, _, w2⟩ := DataW.trod_string Try.underlying9 g2
      obtain ⟨l, A, cp, e3, hlc, hC, hwl, hll⟩ := ih1 _ _ g3
      simp at e0 e1 e2 e3
      subst e0; subst e1; subst e2; subst e3
      obtain ⟨i0, i1⟩ := wf_int w1
      exact ⟨⟨n0, n1, s2, l⟩, A, cp, rfl, hlc, hC, by rw [wfW]; exact ⟨i0, i1, by unfold maxLen at w2; omega, hll, hwl⟩⟩
/-- An argument of the type of cells. -/
theorem open_cell {r : Reach} {b0 : Nat} {v : Value} {d : DataW H} {p : List MemPlace} (hv : Value.okWide Try.prog W r b0 25 v) (h : DataW.Trod enc Try.prog W 0 (fun _ => true) held 25 v d p) :
    ∃ (y : S25) (A : Option Addr) (c : Nat), v = .agg #[.int .i64 y.f0, .int .i64 y.f1, .string y.f2, .slice A y.f3.length c] ∧ y.f3.length ≤ c ∧ Kd.C k25 W A y.f3.length y.f3 ∧ wfW y := by
  obtain ⟨cs, rfl, hsz⟩ := okWide_struct Try.underlying25 hv
  obtain ⟨fuel, hf⟩ := h
  obtain ⟨y, A, c, e, hc, hC, hw⟩ := (open_cells fuel).2 _ _ hf
  refine ⟨y, A, c, ?_, hc, hC, hw⟩
  have e' : cs.toList = [.int .i64 y.f0, .int .i64 y.f1, .string y.f2, .slice A y.f3.length c] := e
  rw [← Array.toArray_toList (xs := cs), e']
end
end Go.Proofs.Ytjelpapcboiimaa.PCellPuts
