/- Small words on memory: new memory alone, bytes as numbers, slices of bytes. -/
import Derived.Test.YtjnbdikhajnciaaProg
import Derived.Test.YtjnbdikhajnciaaWWords
import Derived.Test.YtjnbdikhajnciaaRg
import Derived.Deep.WholeRow
import Derived.WalkKit
import Derived.WalkSpells
import Derived.WalkLawsBesides
import Derived.KernelRfl
import Derived.Deep.Draws
import Derived.Deep.QuietTactic
import Derived.BigQuiet
import Derived.Lib.Hide
import Derived.LoopTactic
import Derived.Deep.LoopGhost
import Derived.IntWalk
import Derived.Lib.Strings
import Derived.Laws.Strings
import Derived.Laws.Shifts
namespace Go.Proofs.Ytjnbdikhajnciaa.Base
open Go.RowKit Go.Proofs.YtjnbdikhajnciaaW.PrintWords Go.Proofs.Ytjnbdikhajnciaa.Ord

theorem below_drewN' {B : Nat} {a w : World} {n : Nat} (h : Below B a w) : Below B a (w.drewN n) := ⟨h.os, h.tape, h.output, h.size, h.block⟩
theorem grown_below {w w' : World} (h : Below w.heap.size w w') (row : Option Nat) : w.grownBy w' row := ⟨h.os, h.tape, h.output, h.size, fun k hk _ => h.block k hk⟩
theorem info5 : (Try.prog.info? 5).map (fun i => (i.zero, i.size, i.bytes)) = some (some (.int .u8 0), 1, 1) := by kernel_rfl
/-- Bytes as numbers. -/
def ints (l : List UInt8) : List Int := l.map fun b => (b.toNat : Int)
theorem ints_append (a b : List UInt8) : ints (a ++ b) = ints a ++ ints b := List.map_append
theorem str_ints (l : List UInt8) : (strOfNums (ints l)) = ⟨l.toArray⟩ := by
  simp [strOfNums, ints, Function.comp_def]

theorem cells_new (w : World) (l : List Value) (t : TypeId) (j : Nat) (u : Value) (h : l[j]? = some u) : (w.alloc (.cells l.toArray t)).cell? ((⟨w.heap.size, 0, none⟩ : Addr).add j) = some u := by
  have hadd : (⟨w.heap.size, 0, none⟩ : Addr).add j = ⟨w.heap.size, j, none⟩ := by unfold Addr.add; split <;> simp_all
  rw [hadd, cell_of_row _ _ j _ t (0, 0) (heap_alloc_last w _)]; simpa using h
theorem nums_one (k : IntKind) (l : List Int) (v : Value) (h : v ∈ nums k l) : v.oneCell' = true := by
  obtain ⟨x, _, rfl⟩ := List.mem_map.1 h; rfl

/-- New memory alone. -/
def NewMem (w w' : World) : Prop := Below w.heap.size w w'
theorem NewMem.refl (w : World) : NewMem w w := Below.refl _ _
theorem NewMem.trans {a b c : World} (h : NewMem a b) (k : NewMem b c) : NewMem a c := Below.trans h (Below.mono k (Below.size h))
theorem NewMem.alloc (w : World) (o : Obj) : NewMem w (w.alloc o) := (Below.refl _ _).alloc (Nat.le_refl _) _
/-- A slice of bytes of the call's own. -/
def OwnB (w : World) (v : Value) (l : List UInt8) : Prop := w.ownsRow 0 5 1 v l.length (nums .u8 (ints l))
theorem OwnB.kept {w w' : World} {v : Value} {l : List UInt8} (h : OwnB w v l) (hb : NewMem w w') : OwnB w' v l :=
  World.ownsRow.kept h (grown_below hb none) (by cases hv : v.ownBlock <;> simp)
def ownF (l : List UInt8) : Fact NewMem := ⟨fun v w => OwnB w v l, fun _ _ _ h k => h.kept k⟩
theorem OwnB.string {w : World} {v : Value} {l : List UInt8} (h : OwnB w v l) : (convert 87 9 v).run Try.prog w = .ok (.string ⟨l.toArray⟩) w := by
  have := own_string (P := Try.prog) Try.underlying87 Try.underlying5 Try.underlying9 h
  rw [str_ints] at this; exact this
theorem OwnB.new (w : World) (l : List UInt8) (hl : l.length ≤ 1000000) : OwnB (w.alloc (.cells (nums .u8 (ints l)).toArray 5)) (.slice (some ⟨w.heap.size, 0, none⟩) l.length l.length) l :=
  ⟨by simp [nums, ints], .inr ⟨_, l.length, _, rfl, Nat.zero_le _, heap_alloc_last w _, Nat.le_refl _, by unfold maxLen; omega, by simp [nums, ints], by simp [nums, ints, List.take_of_length_le]⟩⟩
theorem make_bytes (p : Nat) (hp : p ≤ 1000000) (w : World) : ∃ w', (Instr.makeSlice 87 (.int .i64 (p : Int)) (.int .i64 (p : Int))).run Try.prog w = .ok (.slice (some ⟨w.heap.size, 0, none⟩) p p) w' ∧ OwnB w' (.slice (some ⟨w.heap.size, 0, none⟩) p p) (List.replicate p 0) ∧ NewMem w w' := by
  obtain ⟨i0, hi, hz0, hz1, hz2⟩ := info_parts info5
  have h := run_make (P := Try.prog) w 87 5 i0 (.int .u8 0) Try.underlying87 hi hz0 .i64 .i64 (p : Int) (p : Int) (by omega) (by omega) (by rw [hz2]; omega) (by omega)
  refine ⟨_, h, ?_, NewMem.alloc _ _⟩
  have e : madeCells (Value.int .u8 0).cells ((p : Int).toNat * i0.size) = (nums .u8 (ints (List.replicate p 0))).toArray := by
    rw [hz1]
    apply Array.ext
    · simp [madeCells, nums, ints]
    · intro j h1 h2
      simp [madeCells, nums, ints, Value.cells, Nat.mod_one]
  rw [e]
  have := OwnB.new w (List.replicate p 0) (by simpa using hp)
  simpa using this

end Go.Proofs.Ytjnbdikhajnciaa.Base
