/- Texts of one proof, joined: Ba, Ea, Eb, Ec, Ed, Ee, Ef, Eg, Eh, Ei, Ej, Ek, El, Em. -/
import Derived.Test.YteljihpheffjnaaDoorProg
import Derived.Test.YteljihpheffjnaaDoorWWords
import Derived.Test.YteljihpheffjnaaDoorZR
import Derived.Deep.WholeRow
import Derived.WalkKit
import Derived.WalkSpells
import Derived.WalkLawsBesides
import Derived.KernelRfl
import Derived.Deep.Draws
import Derived.Deep.QuietTactic
import Derived.BigQuiet
import Derived.Lib.Hide
import Derived.LoopTactic
import Derived.Deep.LoopGhost
import Derived.IntWalk
import Derived.Lib.Strings
import Derived.Laws.Strings
import Derived.Laws.Shifts
import Derived.Deep.AppendLies
import Derived.Lib.BufferWrite
import Derived.RangeFuncBox
import Derived.RangeFuncNested
import Derived.RangeFuncBound
import Derived.RangeFuncCalls
import Derived.RangeFuncLeaves
import Derived.Shelf.Abstract
import Derived.OwnWalkIn
import Derived.TacticsInMore
import Derived.LoopNIn
import Derived.LoopIn
set_option linter.unusedSimpArgs false
set_option linter.unusedVariables false
/- Small words on memory: new memory alone, bytes as numbers, slices of bytes. -/
namespace Go.Proofs.YteljihpheffjnaaDoor.Base
open Go.RowKit Go.Proofs.YteljihpheffjnaaDoorW.PrintWords Go.Proofs.YteljihpheffjnaaDoor.Ord

theorem below_drewN' {B : Nat} {a w : World} {n : Nat} (h : Below B a w) : Below B a (w.drewN n) := ⟨h.os, h.tape, h.output, h.size, h.block⟩
theorem grown_below {w w' : World} (h : Below w.heap.size w w') (row : Option Nat) : w.grownBy w' row := ⟨h.os, h.tape, h.output, h.size, fun k hk _ => h.block k hk⟩
theorem info5 : (Tryd.prog.info? 5).map (fun i => (i.zero, i.size, i.bytes)) = some (some (.int .u8 0), 1, 1) := by kernel_rfl
/-- Bytes as numbers. -/
def ints (l : List UInt8) : List Int := l.map fun b => (b.toNat : Int)
theorem ints_append (a b : List UInt8) : ints (a ++ b) = ints a ++ ints b := List.map_append
theorem str_ints (l : List UInt8) : (strOfNums (ints l)) = ⟨l.toArray⟩ := by
  simp [strOfNums, ints, Function.comp_def]

theorem cells_new (w : World) (l : List Value) (t : TypeId) (j : Nat) (u : Value) (h : l[j]? = some u) : (w.alloc (.cells l.toArray t)).cell? ((⟨w.heap.size, 0, none⟩ : Addr).add j) = some u := by
  have hadd : (⟨w.heap.size, 0, none⟩ : Addr).add j = ⟨w.heap.size, j, none⟩ := by unfold Addr.add; split <;> simp_all
  rw [hadd, cell_of_row _ _ j _ t (0, 0) (heap_alloc_last w _)]; simpa using h
theorem nums_one (k : IntKind) (l : List Int) (v : Value) (h : v ∈ nums k l) : v.oneCell' = true := by
  obtain ⟨x, _, rfl⟩ := List.mem_map.1 h; rfl

/-- New memory alone. -/
def NewMem (w w' : World) : Prop := Below w.heap.size w w'
theorem NewMem.refl (w : World) : NewMem w w := Below.refl _ _
theorem NewMem.trans {a b c : World} (h : NewMem a b) (k : NewMem b c) : NewMem a c := Below.trans h (Below.mono k (Below.size h))
theorem NewMem.alloc (w : World) (o : Obj) : NewMem w (w.alloc o) := (Below.refl _ _).alloc (Nat.le_refl _) _
/-- A slice of bytes of the call's own. -/
def OwnB (w : World) (v : Value) (l : List UInt8) : Prop := w.ownsRow 0 5 1 v l.length (nums .u8 (ints l))
theorem OwnB.kept {w w' : World} {v : Value} {l : List UInt8} (h : OwnB w v l) (hb : NewMem w w') : OwnB w' v l :=
  World.ownsRow.kept h (grown_below hb none) (by cases hv : v.ownBlock <;> simp)
def ownF (l : List UInt8) : Fact NewMem := ⟨fun v w => OwnB w v l, fun _ _ _ h k => h.kept k⟩
theorem OwnB.string {w : World} {v : Value} {l : List UInt8} (h : OwnB w v l) : (convert 80 9 v).run Tryd.prog w = .ok (.string ⟨l.toArray⟩) w := by
  have := own_string (P := Tryd.prog) Tryd.underlying80 Tryd.underlying5 Tryd.underlying9 h
  rw [str_ints] at this; exact this
theorem OwnB.new (w : World) (l : List UInt8) (hl : l.length ≤ 1000000) : OwnB (w.alloc (.cells (nums .u8 (ints l)).toArray 5)) (.slice (some ⟨w.heap.size, 0, none⟩) l.length l.length) l :=
  ⟨by simp [nums, ints], .inr ⟨_, l.length, _, rfl, Nat.zero_le _, heap_alloc_last w _, Nat.le_refl _, by unfold maxLen; omega, by simp [nums, ints], by simp [nums, ints, List.take_of_length_le]⟩⟩
theorem make_bytes (p : Nat) (hp : p ≤ 1000000) (w : World) : ∃ w', (Instr.makeSlice 80 (.int .i64 (p : Int)) (.int .i64 (p : Int))).run Tryd.prog w = .ok (.slice (some ⟨w.heap.size, 0, none⟩) p p) w' ∧ OwnB w' (.slice (some ⟨w.heap.size, 0, none⟩) p p) (List.replicate p 0) ∧ NewMem w w' := by
  obtain ⟨i0, hi, hz0, hz1, hz2⟩ := info_parts info5
  have h := run_make (P := Tryd.prog) w 80 5 i0 (.int .u8 0) Tryd.underlying80 hi hz0 .i64 .i64 (p : Int) (p : Int) (by omega) (by omega) (by rw [hz2]; omega) (by omega)
  refine ⟨_, h, ?_, NewMem.alloc _ _⟩
  have e : madeCells (Value.int .u8 0).cells ((p : Int).toNat * i0.size) = (nums .u8 (ints (List.replicate p 0))).toArray := by
    rw [hz1]
    apply Array.ext
    · simp [madeCells, nums, ints]
    · intro j h1 h2
      simp [madeCells, nums, ints, Value.cells, Nat.mod_one]
  rw [e]
  have := OwnB.new w (List.replicate p 0) (by simpa using hp)
  simpa using this

end Go.Proofs.YteljihpheffjnaaDoor.Base
/- The drum: plain states, how they lie in memory, which blocks a call may turn. -/
namespace Go.Proofs.YteljihpheffjnaaDoor.Drum
open Go.RowKit Go.Proofs.YteljihpheffjnaaDoor.Ord Go.Proofs.YteljihpheffjnaaDoorW.PrintWords Go.Proofs.YteljihpheffjnaaDoor.Base

/-- From w to w' nothing that was there has turned but blocks of F. -/
structure Mod (F : Nat → Prop) (w w' : World) : Prop where
  os : w'.os = w.os
  tape : w'.tape = w.tape
  output : w'.output = w.output
  size : w.heap.size ≤ w'.heap.size
  block : ∀ k, k < w.heap.size → ¬ F k → w'.heap[k]? = w.heap[k]?
theorem Mod.refl (F : Nat → Prop) (w : World) : Mod F w w := ⟨rfl, rfl, rfl, Nat.le_refl _, fun _ _ _ => rfl⟩
theorem Mod.trans {F G : Nat → Prop} {a b c : World} (h : Mod F a b) (k : Mod G b c) (hG : ∀ i, G i → F i ∨ a.heap.size ≤ i) : Mod F a c :=
  ⟨k.os.trans h.os, k.tape.trans h.tape, k.output.trans h.output, Nat.le_trans h.size k.size, fun i hi hF =>
    (k.block i (Nat.lt_of_lt_of_le hi h.size) (fun hg => by rcases hG i hg with x | x; exact hF x; omega)).trans (h.block i hi hF)⟩
theorem Mod.below {F : Nat → Prop} {B : Nat} {w w' : World} (h : Mod F w w') (hB : B ≤ w.heap.size) (hF : ∀ i, F i → B ≤ i) : Below B w w' :=
  ⟨h.os, h.tape, h.output, h.size, fun k hk => h.block k (by omega) (fun hf => by have := hF k hf; omega)⟩
theorem Mod.of_below {F : Nat → Prop} {w w' : World} (h : Below w.heap.size w w') : Mod F w w' := ⟨h.os, h.tape, h.output, h.size, fun k hk _ => h.block k hk⟩
theorem Mod.of_grown {F : Nat → Prop} {w w' : World} {row : Option Nat} (h : w.grownBy w' row) (hF : ∀ k, row = some k → F k) : Mod F w w' :=
  ⟨h.os, h.tape, h.output, h.size, fun k hk hf => h.block k hk (fun e => hf (hF k e.symm))⟩
theorem Mod.setCell {F : Nat → Prop} (w : World) (a : Addr) (v : Value) (ha : F a.block) : Mod F w (w.setCell a v) :=
  ⟨rfl, rfl, rfl, by simp [World.setCell], fun k _ hf => Below.heap_setCell _ _ _ _ (fun e => hf (e ▸ ha))⟩
theorem Mod.mono {F G : Nat → Prop} {w w' : World} (h : Mod F w w') (hFG : ∀ i, F i → G i) : Mod G w w' :=
  ⟨h.os, h.tape, h.output, h.size, fun k hk hg => h.block k hk (fun hf => hg (hFG k hf))⟩
theorem Mod.drewN {F : Nat → Prop} {w w' : World} (h : Mod F w w') (n : Nat) : Mod F w (w'.drewN n) := ⟨h.os, h.tape, h.output, h.size, h.block⟩
theorem Mod.drew {F : Nat → Prop} {w w' : World} (h : Mod F w w') : Mod F w w'.drew := ⟨h.os, h.tape, h.output, h.size, h.block⟩

/-- A drum in plain terms. -/
structure DS where
  sure : List (List UInt8)
  loose : List (Nat × List UInt8)
  armed : Bool
  left : Int
  down : Bool

def secCells (s : List UInt8) : List Value := nums .u8 (ints s)
def sureCells (l : List (List UInt8)) : List Value := l.flatMap secCells
def looseCells (l : List (Nat × List UInt8)) : List Value := l.flatMap fun p => secCells p.2 ++ [.int .i64 (p.1 : Int)]
theorem secCells_len (s : List UInt8) : (secCells s).length = s.length := by simp [secCells, nums, ints]

/-- The five cells of a drum's struct. -/
def DCell (w : World) (b : Nat) (sv lv : Value) (armed : Bool) (left : Int) (down : Bool) : Prop :=
  w.heap[b]? = some (.cells #[sv, lv, .bool armed, .int .i64 left, .bool down] 73 (0, 0))
theorem DCell.cells {w : World} {b : Nat} {sv lv : Value} {armed down : Bool} {left : Int} (h : DCell w b sv lv armed left down) :
    w.cell? ⟨b, 0, none⟩ = some sv ∧ w.cell? ⟨b, 1, none⟩ = some lv ∧ w.cell? ⟨b, 2, none⟩ = some (.bool armed) ∧ w.cell? ⟨b, 3, none⟩ = some (.int .i64 left) ∧ w.cell? ⟨b, 4, none⟩ = some (.bool down) := by
  unfold DCell at h; simp [World.cell?, h]
theorem DCell.free {w : World} {b : Nat} {sv lv : Value} {armed down : Bool} {left : Int} (h : DCell w b sv lv armed left down) (i : Nat) : w.frozen? ⟨b, i, none⟩ = false := frozen_of_row w b i _ _ h
theorem DCell.lt {w : World} {b : Nat} {sv lv : Value} {armed down : Bool} {left : Int} (h : DCell w b sv lv armed left down) : b < w.heap.size := (Array.getElem?_eq_some_iff.1 h).1
theorem DCell.kept {F : Nat → Prop} {w w' : World} {b : Nat} {sv lv : Value} {armed down : Bool} {left : Int} (h : DCell w b sv lv armed left down) (hm : Mod F w w') (hb : ¬ F b) : DCell w' b sv lv armed left down :=
  (hm.block b h.lt hb).trans h

/-- The drum D at block b: its sure sectors in block sb, its loose writes under lv. -/
structure DrumAt (w : World) (b sb : Nat) (cap : Nat) (lv : Value) (D : DS) : Prop where
  cell : DCell w b (.slice (some ⟨sb, 0, none⟩) D.sure.length cap) lv D.armed D.left D.down
  sure : w.ownsRow 0 97 64 (.slice (some ⟨sb, 0, none⟩) D.sure.length cap) D.sure.length (sureCells D.sure)
  loose : w.ownsRow 0 100 65 lv D.loose.length (looseCells D.loose)
  ne : b ≠ sb
  nel : lv.ownBlock ≠ some b
  nes : lv.ownBlock ≠ some sb
  pos : 0 < D.sure.length
  few : D.sure.length ≤ 4096
  wsure : ∀ s ∈ D.sure, s.length = 64
  wloose : ∀ p ∈ D.loose, p.2.length = 64 ∧ p.1 < D.sure.length
/-- The blocks of a drum. -/
def foot (b sb : Nat) (lv : Value) (k : Nat) : Prop := k = b ∨ k = sb ∨ lv.ownBlock = some k
theorem ownsRow_mod {F : Nat → Prop} {w w' : World} {base : Nat} {e : TypeId} {size : Nat} {v : Value} {n : Nat} {xs : List Value} (h : w.ownsRow base e size v n xs) (hm : Mod F w w') (hv : ∀ k, v.ownBlock = some k → ¬ F k) :
    w'.ownsRow base e size v n xs := by
  refine ⟨h.1, ?_⟩
  rcases h.2 with hn | ⟨g, cap, cur, rfl, hb, hg, rest⟩
  · exact .inl hn
  · exact .inr ⟨g, cap, cur, rfl, hb, (hm.block g ((Array.getElem?_eq_some_iff.1 hg).1) (hv g rfl)).trans hg, rest⟩
theorem DrumAt.kept {F : Nat → Prop} {w w' : World} {b sb cap : Nat} {lv : Value} {D : DS} (h : DrumAt w b sb cap lv D) (hm : Mod F w w') (hF : ∀ k, foot b sb lv k → ¬ F k) : DrumAt w' b sb cap lv D :=
  ⟨h.cell.kept hm (hF b (.inl rfl)), ownsRow_mod h.sure hm (fun k hk => hF k (.inr (.inl (by simpa [Value.ownBlock] using hk.symm)))), ownsRow_mod h.loose hm (fun k hk => hF k (.inr (.inr hk))), h.ne, h.nel, h.nes, h.pos, h.few, h.wsure, h.wloose⟩
end Go.Proofs.YteljihpheffjnaaDoor.Drum
/- The drum: the small methods. -/
namespace Go.Proofs.YteljihpheffjnaaDoor.Drum
open Go.RowKit Go.Proofs.YteljihpheffjnaaDoor.Ord Go.Proofs.YteljihpheffjnaaDoorW.PrintWords Go.Proofs.YteljihpheffjnaaDoor.Base

theorem made_nil (w : World) : Calls Tryd.prog 39 #[.pointer none] w fun e w' => e = .returned (.bool false) ∧ w = w' := by
  go_enter Tryd.func39, Tryd.ntmps39
  go_wp2
  go_ret
  exact ⟨rfl, rfl⟩
theorem made_of (b : Nat) (a : Option Addr) (n cap : Nat) (w : World) (h : w.cell? ⟨b, 0, none⟩ = some (.slice a n cap)) :
    Calls Tryd.prog 39 #[.pointer (some ⟨b, 0, none⟩)] w fun e w' => e = .returned (.bool (decide (0 < n))) ∧ w = w' := by
  go_enter Tryd.func39, Tryd.ntmps39
  go_wp2
  go_ret
  exact ⟨by simp, rfl⟩
theorem has_nil (i : Int) (w : World) : Calls Tryd.prog 58 #[.pointer none, .int .i64 i] w fun e w' => e = .returned (.bool false) ∧ w = w' := by
  go_enter Tryd.func58, Tryd.ntmps58
  go_wp2_with fail
  refine (made_nil _).mono ?_
  rintro e w' ⟨rfl, rfl⟩
  go_wp2
  go_ret
  exact ⟨rfl, rfl⟩
theorem has_of (b : Nat) (a : Option Addr) (n cap : Nat) (i : Int) (w : World) (h : w.cell? ⟨b, 0, none⟩ = some (.slice a n cap)) :
    Calls Tryd.prog 58 #[.pointer (some ⟨b, 0, none⟩), .int .i64 i] w fun e w' => e = .returned (.bool (decide (0 ≤ i ∧ i < (n : Int)))) ∧ w = w' := by
  by_cases h0 : 0 < n
  · by_cases h1 : 0 ≤ i
    · go_enter Tryd.func58, Tryd.ntmps58
      go_wp2_with fail
      refine (made_of b a n cap _ h).mono ?_
      rintro e w' ⟨rfl, rfl⟩
      go_wp2
      go_ret
      exact ⟨by simp [h1], rfl⟩
    · go_enter Tryd.func58, Tryd.ntmps58
      go_wp2_with fail
      refine (made_of b a n cap _ h).mono ?_
      rintro e w' ⟨rfl, rfl⟩
      go_wp2
      go_ret
      have hd : decide (0 ≤ i) = false := decide_eq_false (by omega)
      exact ⟨by rw [hd]; rfl, rfl⟩
  · have hn : n = 0 := by omega
    go_enter Tryd.func58, Tryd.ntmps58
    go_wp2_with fail
    refine (made_of b a n cap _ h).mono ?_
    rintro e w' ⟨rfl, rfl⟩
    go_wp2
    go_ret
    have hd : decide (0 ≤ i ∧ i < (n : Int)) = false := decide_eq_false (by omega)
    exact ⟨by rw [hd]; rfl, rfl⟩
theorem loose_nil (w : World) : Calls Tryd.prog 19 #[.pointer none] w fun e w' => e = .returned (.int .i64 0) ∧ w = w' := by
  go_enter Tryd.func19, Tryd.ntmps19
  go_wp2_with fail
  refine (made_nil _).mono ?_
  rintro e w' ⟨rfl, rfl⟩
  go_wp2
  go_ret
  exact ⟨rfl, rfl⟩
theorem loose_not (b : Nat) (a : Option Addr) (cap : Nat) (w : World) (h : w.cell? ⟨b, 0, none⟩ = some (.slice a 0 cap)) :
    Calls Tryd.prog 19 #[.pointer (some ⟨b, 0, none⟩)] w fun e w' => e = .returned (.int .i64 0) ∧ w = w' := by
  go_enter Tryd.func19, Tryd.ntmps19
  go_wp2_with fail
  refine (made_of b a 0 cap _ h).mono ?_
  rintro e w' ⟨rfl, rfl⟩
  go_wp2
  go_ret
  exact ⟨rfl, rfl⟩
theorem size_nil (w : World) : Calls Tryd.prog 38 #[.pointer none] w fun e w' => e = .returned (.int .i64 0) ∧ w = w' := by
  go_enter Tryd.func38, Tryd.ntmps38
  go_wp2_with fail
  refine (made_nil _).mono ?_
  rintro e w' ⟨rfl, rfl⟩
  go_wp2
  go_ret
  exact ⟨rfl, rfl⟩
theorem size_not (b : Nat) (a : Option Addr) (cap : Nat) (w : World) (h : w.cell? ⟨b, 0, none⟩ = some (.slice a 0 cap)) :
    Calls Tryd.prog 38 #[.pointer (some ⟨b, 0, none⟩)] w fun e w' => e = .returned (.int .i64 0) ∧ w = w' := by
  go_enter Tryd.func38, Tryd.ntmps38
  go_wp2_with fail
  refine (made_of b a 0 cap _ h).mono ?_
  rintro e w' ⟨rfl, rfl⟩
  go_wp2
  go_ret
  exact ⟨rfl, rfl⟩
theorem down_nil (w : World) : Calls Tryd.prog 55 #[.pointer none] w fun e w' => e = .returned (.bool false) ∧ w = w' := by
  go_enter Tryd.func55, Tryd.ntmps55
  go_wp2_with fail
  refine (made_nil _).mono ?_
  rintro e w' ⟨rfl, rfl⟩
  go_wp2
  go_ret
  exact ⟨rfl, rfl⟩
theorem down_not (b : Nat) (a : Option Addr) (cap : Nat) (w : World) (h : w.cell? ⟨b, 0, none⟩ = some (.slice a 0 cap)) :
    Calls Tryd.prog 55 #[.pointer (some ⟨b, 0, none⟩)] w fun e w' => e = .returned (.bool false) ∧ w = w' := by
  go_enter Tryd.func55, Tryd.ntmps55
  go_wp2_with fail
  refine (made_of b a 0 cap _ h).mono ?_
  rintro e w' ⟨rfl, rfl⟩
  go_wp2
  go_ret
  exact ⟨rfl, rfl⟩
theorem settle_nil (w : World) : Calls Tryd.prog 36 #[.pointer none] w fun e w' => e = .returned (.int .i64 1) ∧ w = w' := by
  go_enter Tryd.func36, Tryd.ntmps36
  go_wp2_with fail
  refine (made_nil _).mono ?_
  rintro e w' ⟨rfl, rfl⟩
  go_wp2
  go_ret
  exact ⟨rfl, rfl⟩
theorem settle_not (b : Nat) (a : Option Addr) (cap : Nat) (w : World) (h : w.cell? ⟨b, 0, none⟩ = some (.slice a 0 cap)) :
    Calls Tryd.prog 36 #[.pointer (some ⟨b, 0, none⟩)] w fun e w' => e = .returned (.int .i64 1) ∧ w = w' := by
  go_enter Tryd.func36, Tryd.ntmps36
  go_wp2_with fail
  refine (made_of b a 0 cap _ h).mono ?_
  rintro e w' ⟨rfl, rfl⟩
  go_wp2
  go_ret
  exact ⟨rfl, rfl⟩
theorem arm_nil (i : Int) (w : World) : Calls Tryd.prog 28 #[.pointer none, .int .i64 i] w fun e w' => e = .returned (.int .i64 1) ∧ w = w' := by
  go_enter Tryd.func28, Tryd.ntmps28
  go_wp2_with fail
  refine (made_nil _).mono ?_
  rintro e w' ⟨rfl, rfl⟩
  go_wp2
  go_ret
  exact ⟨rfl, rfl⟩
theorem arm_not (b : Nat) (a : Option Addr) (cap : Nat) (i : Int) (w : World) (h : w.cell? ⟨b, 0, none⟩ = some (.slice a 0 cap)) :
    Calls Tryd.prog 28 #[.pointer (some ⟨b, 0, none⟩), .int .i64 i] w fun e w' => e = .returned (.int .i64 1) ∧ w = w' := by
  go_enter Tryd.func28, Tryd.ntmps28
  go_wp2_with fail
  refine (made_of b a 0 cap _ h).mono ?_
  rintro e w' ⟨rfl, rfl⟩
  go_wp2
  go_ret
  exact ⟨rfl, rfl⟩
theorem write_nil (i : Int) (s : ByteArray) (w : World) : Calls Tryd.prog 34 #[.pointer none, .int .i64 i, .string s] w fun e w' => e = .returned (.int .i64 1) ∧ w = w' := by
  go_enter Tryd.func34, Tryd.ntmps34
  go_wp2_with fail
  refine (made_nil _).mono ?_
  rintro e w' ⟨rfl, rfl⟩
  go_wp2
  go_ret
  exact ⟨rfl, rfl⟩
theorem write_not (b : Nat) (a : Option Addr) (cap : Nat) (i : Int) (s : ByteArray) (w : World) (h : w.cell? ⟨b, 0, none⟩ = some (.slice a 0 cap)) :
    Calls Tryd.prog 34 #[.pointer (some ⟨b, 0, none⟩), .int .i64 i, .string s] w fun e w' => e = .returned (.int .i64 1) ∧ w = w' := by
  go_enter Tryd.func34, Tryd.ntmps34
  go_wp2_with fail
  refine (made_of b a 0 cap _ h).mono ?_
  rintro e w' ⟨rfl, rfl⟩
  go_wp2
  go_ret
  exact ⟨rfl, rfl⟩
theorem copy_nil (w : World) : Calls Tryd.prog 29 #[.pointer none] w fun e w' => e = .returned (.pointer none) ∧ w = w' := by
  go_enter Tryd.func29, Tryd.ntmps29
  go_wp2_with fail
  refine (made_nil _).mono ?_
  rintro e w' ⟨rfl, rfl⟩
  go_wp2
  go_ret
  exact ⟨rfl, rfl⟩
theorem copy_not (b : Nat) (a : Option Addr) (cap : Nat) (w : World) (h : w.cell? ⟨b, 0, none⟩ = some (.slice a 0 cap)) :
    Calls Tryd.prog 29 #[.pointer (some ⟨b, 0, none⟩)] w fun e w' => e = .returned (.pointer none) ∧ w = w' := by
  go_enter Tryd.func29, Tryd.ntmps29
  go_wp2_with fail
  refine (made_of b a 0 cap _ h).mono ?_
  rintro e w' ⟨rfl, rfl⟩
  go_wp2
  go_ret
  exact ⟨rfl, rfl⟩
theorem loose_of (b : Nat) (a a' : Option Addr) (n cap n' cap' : Nat) (w : World) (h : w.cell? ⟨b, 0, none⟩ = some (.slice a n cap)) (h' : w.cell? ⟨b, 1, none⟩ = some (.slice a' n' cap')) (hn : 0 < n) :
    Calls Tryd.prog 19 #[.pointer (some ⟨b, 0, none⟩)] w fun e w' => e = .returned (.int .i64 (n' : Int)) ∧ w = w' := by
  go_enter Tryd.func19, Tryd.ntmps19
  go_wp2_with fail
  refine (made_of b a n cap _ h).mono ?_
  rintro e w' ⟨rfl, rfl⟩
  go_wp2
  go_ret
  exact ⟨rfl, rfl⟩
theorem size_of (b : Nat) (a : Option Addr) (n cap : Nat) (w : World) (h : w.cell? ⟨b, 0, none⟩ = some (.slice a n cap)) (hn : 0 < n) :
    Calls Tryd.prog 38 #[.pointer (some ⟨b, 0, none⟩)] w fun e w' => e = .returned (.int .i64 (n : Int)) ∧ w = w' := by
  go_enter Tryd.func38, Tryd.ntmps38
  go_wp2_with fail
  refine (made_of b a n cap _ h).mono ?_
  rintro e w' ⟨rfl, rfl⟩
  go_wp2
  go_ret
  exact ⟨rfl, rfl⟩
theorem down_of (b : Nat) (a : Option Addr) (n cap : Nat) (d : Bool) (w : World) (h : w.cell? ⟨b, 0, none⟩ = some (.slice a n cap)) (h' : w.cell? ⟨b, 4, none⟩ = some (.bool d)) (hn : 0 < n) :
    Calls Tryd.prog 55 #[.pointer (some ⟨b, 0, none⟩)] w fun e w' => e = .returned (.bool d) ∧ w = w' := by
  go_enter Tryd.func55, Tryd.ntmps55
  go_wp2_with fail
  refine (made_of b a n cap _ h).mono ?_
  rintro e w' ⟨rfl, rfl⟩
  go_wp2
  go_ret
  exact ⟨rfl, rfl⟩
end Go.Proofs.YteljihpheffjnaaDoor.Drum
/- The drum: burn, Arm. -/
namespace Go.Proofs.YteljihpheffjnaaDoor.Drum
open Go.RowKit Go.Proofs.YteljihpheffjnaaDoor.Ord Go.Proofs.YteljihpheffjnaaDoorW.PrintWords Go.Proofs.YteljihpheffjnaaDoor.Base

theorem cells_set {w : World} {b : Nat} {c : Array Value} {t : TypeId} (h : w.heap[b]? = some (.cells c t (0, 0))) (i : Nat) (v : Value) :
    (w.setCell ⟨b, i, none⟩ v).heap[b]? = some (.cells (c.setIfInBounds i v) t (0, 0)) := by
  simp [World.setCell, Array.getElem?_modify, h]
theorem DCell.set0 {w : World} {b : Nat} {sv lv : Value} {armed down : Bool} {left : Int} (h : DCell w b sv lv armed left down) (v : Value) : DCell (w.setCell ⟨b, 0, none⟩ v) b v lv armed left down := cells_set h 0 v
theorem DCell.set1 {w : World} {b : Nat} {sv lv : Value} {armed down : Bool} {left : Int} (h : DCell w b sv lv armed left down) (v : Value) : DCell (w.setCell ⟨b, 1, none⟩ v) b sv v armed left down := cells_set h 1 v
theorem DCell.set2 {w : World} {b : Nat} {sv lv : Value} {armed down : Bool} {left : Int} (h : DCell w b sv lv armed left down) (v : Bool) : DCell (w.setCell ⟨b, 2, none⟩ (.bool v)) b sv lv v left down := cells_set h 2 _
theorem DCell.set3 {w : World} {b : Nat} {sv lv : Value} {armed down : Bool} {left : Int} (h : DCell w b sv lv armed left down) (v : Int) : DCell (w.setCell ⟨b, 3, none⟩ (.int .i64 v)) b sv lv armed v down := cells_set h 3 _
theorem DCell.set4 {w : World} {b : Nat} {sv lv : Value} {armed down : Bool} {left : Int} (h : DCell w b sv lv armed left down) (v : Bool) : DCell (w.setCell ⟨b, 4, none⟩ (.bool v)) b sv lv armed left v := cells_set h 4 _

/-- A call counts: is the power on? -/
def burns (armed : Bool) (left : Int) (down : Bool) : Int × Int × Bool :=
  if armed = true ∧ left = 0 then (9, left, true) else if down = true then (9, left, down) else (0, IntKind.i64.wrap (left - 1), down)

set_option maxHeartbeats 8000000 in
theorem burn_at (b : Nat) (sv lv : Value) (armed down : Bool) (left : Int) (w : World) (h : DCell w b sv lv armed left down) :
    Calls Tryd.prog 59 #[.pointer (some ⟨b, 0, none⟩)] w fun e w' => e = .returned (.int .i64 (burns armed left down).1) ∧
      DCell w' b sv lv armed (burns armed left down).2.1 (burns armed left down).2.2 ∧ Mod (fun k => k = b) w w' := by
  obtain ⟨c0, c1, c2, c3, c4⟩ := h.cells
  have f3 := h.free 3
  have f4 := h.free 4
  have H := Lib.hid h
  clear h c0 c1
  by_cases ha : armed = true ∧ left = 0
  · obtain ⟨rfl, rfl⟩ := ha
    go_enter Tryd.func59, Tryd.ntmps59
    go_wp2
    go_ret
    exact ⟨rfl, H.out.set4 true, Mod.setCell _ _ _ rfl⟩
  · cases down with
    | true =>
      have e : burns armed left true = (9, left, true) := by unfold burns; rw [if_neg ha, if_pos rfl]
      rw [e]
      cases armed with
      | true =>
        have hl : left ≠ 0 := fun e => ha ⟨rfl, e⟩
        clear e ha
        go_enter Tryd.func59, Tryd.ntmps59
        go_wp2
        go_ret
        exact ⟨rfl, H.out, Mod.refl _ _⟩
      | false =>
        clear e ha
        go_enter Tryd.func59, Tryd.ntmps59
        go_wp2
        go_ret
        exact ⟨rfl, H.out, Mod.refl _ _⟩
    | false =>
      have e : burns armed left false = (0, IntKind.i64.wrap (left - 1), false) := by unfold burns; rw [if_neg ha, if_neg (by simp)]
      rw [e]
      obtain ⟨nl, hnl⟩ : ∃ n, IntKind.i64.wrap (left - 1) = n := ⟨_, rfl⟩
      rw [hnl]
      cases armed with
      | true =>
        have hl : left ≠ 0 := fun e => ha ⟨rfl, e⟩
        clear e ha
        go_enter Tryd.func59, Tryd.ntmps59
        go_wp2
        go_ret
        exact ⟨rfl, H.out.set3 nl, Mod.setCell _ _ _ rfl⟩
      | false =>
        clear e ha
        go_enter Tryd.func59, Tryd.ntmps59
        go_wp2
        go_ret
        exact ⟨rfl, H.out.set3 nl, Mod.setCell _ _ _ rfl⟩

set_option maxHeartbeats 8000000 in
theorem arm_at (b : Nat) (a : Option Addr) (n cap : Nat) (lv : Value) (armed down : Bool) (left i : Int) (w : World) (h : DCell w b (.slice a n cap) lv armed left down) (hn : 0 < n) :
    Calls Tryd.prog 28 #[.pointer (some ⟨b, 0, none⟩), .int .i64 i] w fun e w' =>
      (i < 0 ∧ e = .returned (.int .i64 2) ∧ w = w') ∨ (0 ≤ i ∧ down = true ∧ e = .returned (.int .i64 9) ∧ w = w') ∨
      (0 ≤ i ∧ down = false ∧ e = .returned (.int .i64 0) ∧ DCell w' b (.slice a n cap) lv true i down ∧ Mod (fun k => k = b) w w') := by
  obtain ⟨c0, c1, c2, c3, c4⟩ := h.cells
  have f2 := h.free 2
  have f3 := h.free 3
  have H := Lib.hid h
  have hm := made_of b a n cap
  have HM := Lib.hid hm
  clear h c1 hm
  by_cases hi : i < 0
  · refine Calls.mono ?_ (fun e w' h => Or.inl ⟨hi, h⟩)
    go_enter Tryd.func28, Tryd.ntmps28
    go_wp2_with fail
    refine (HM.out _ c0).mono ?_
    rintro e w' ⟨rfl, rfl⟩
    go_wp2
    go_ret
    exact ⟨rfl, rfl⟩
  · have hi' : 0 ≤ i := by omega
    cases down with
    | true =>
      refine Calls.mono ?_ (fun e w' h => Or.inr (Or.inl ⟨hi', rfl, h⟩))
      go_enter Tryd.func28, Tryd.ntmps28
      go_wp2_with fail
      refine (HM.out _ c0).mono ?_
      rintro e w' ⟨rfl, rfl⟩
      go_wp2
      go_ret
      exact ⟨rfl, rfl⟩
    | false =>
      refine Calls.mono ?_ (fun e w' h => Or.inr (Or.inr ⟨hi', rfl, h⟩))
      go_enter Tryd.func28, Tryd.ntmps28
      go_wp2_with fail
      refine (HM.out _ c0).mono ?_
      rintro e w' ⟨rfl, rfl⟩
      go_wp2
      go_ret
      refine ⟨rfl, (H.out.set2 true).set3 i, Mod.trans (F := fun k => k = b) (G := fun k => k = b) (Mod.setCell _ _ _ rfl) (Mod.setCell _ _ _ rfl) (fun _ h => Or.inl h)⟩
end Go.Proofs.YteljihpheffjnaaDoor.Drum
/- The drum: a sector's bytes; a sector that begins with a text; a new drum. -/
namespace Go.Proofs.YteljihpheffjnaaDoor.Drum
open Go.RowKit Go.Proofs.YteljihpheffjnaaDoor.Ord Go.Proofs.YteljihpheffjnaaDoorW.PrintWords Go.Proofs.YteljihpheffjnaaDoor.Base

theorem nums_ints (l : List UInt8) : nums .u8 (ints l) = Lib.byteCells l := by simp [nums, ints, Lib.byteCells]
theorem rep_cells (n : Nat) : Lib.byteCells (List.replicate n 0) = List.replicate n (.int .u8 0) := by simp [Lib.byteCells]
theorem info_u8 : (Tryd.prog.info? 5).map (·.size) = some 1 := by kernel_rfl
theorem info_sector : (Tryd.prog.info? 97).map (·.size) = some 64 := by kernel_rfl

/-- copy(dst, s) of any text. -/
theorem run_copy_text {P : Program} (w : World) (dT sT ty elem : TypeId) (g dLen dCap : Nat) (s : ByteArray) (cur : Array Value) (t : TypeId)
    (hu : P.underlying dT = some (.slice elem)) (hs : (P.info? elem).map (·.size) = some 1) (hg : w.heap[g]? = some (.cells cur t (0, 0))) (hfit : dLen ≤ cur.size) :
    (Builtin.copy_ #[dT, sT] ty #[.slice (some ⟨g, 0, none⟩) dLen dCap, .string s]).run P w =
      .ok (goInt ((min s.size dLen : Nat) : Int)) (w.setRow g (Lib.byteCells (s.data.toList.take dLen) ++ cur.toList.drop (min s.size dLen)).toArray) := by
  have hsz : s.data.toList.length = s.size := by simp
  have hlen : (Lib.byteCells (s.data.toList.take dLen)).length = min s.size dLen := by simp [Lib.byteCells, Nat.min_comm]
  have hst := run_storeCells_at P g 0 t (Lib.byteCells (s.data.toList.take dLen)) 0 cur w hg (by rw [hlen]; omega) (Lib.byteCells_one _)
  have htk : List.take (min s.size dLen) (List.map (fun b : UInt8 => Value.int IntKind.u8 (b.toNat : Int)) s.data.toList) = Lib.byteCells (s.data.toList.take dLen) := by
    rw [← List.map_take]
    unfold Lib.byteCells
    congr 1
    rw [List.take_eq_take_iff]; omega
  rw [hlen] at hst
  simp only [Nat.add_zero] at hst
  cases hq : P.info? elem with
  | none => simp [hq] at hs
  | some i =>
    have hm : Nat.min s.size dLen = min s.size dLen := rfl
    simp [Builtin.copy_, run_underlying hu, Builtin.lenOf, Builtin.firstCells, sizeOf, typeInfo, hq, hm]
    rw [htk, hst]
    simp [Result.andThen]

/-- A sector that begins with a text. -/
def sec (s : ByteArray) : List UInt8 := s.data.toList.take 64 ++ List.replicate (64 - s.size) 0
theorem sec_len (s : ByteArray) : (sec s).length = 64 := by simp [sec]; omega

set_option maxRecDepth 100000 in
set_option maxHeartbeats 8000000 in
theorem text_any (s : List UInt8) (hs : s.length = 64) (w : World) :
    Calls Tryd.prog 69 #[.agg (secCells s).toArray] w fun e w' => e = .returned (.string ⟨s.toArray⟩) ∧ NewMem w w' := by
  have hown : (w.alloc (.cells (secCells s).toArray 97)).ownsRow 0 97 1 (.slice (some ⟨w.heap.size, 0, none⟩) 64 64) 64 (nums .u8 (ints s)) :=
    ⟨by simp [nums, ints, hs], .inr ⟨_, 64, _, rfl, Nat.zero_le _, heap_alloc_last w _, Nat.le_refl _, by decide, by simp [secCells_len, hs], List.take_of_length_le (by simp [secCells_len, hs])⟩⟩
  have hcv := own_string (P := Tryd.prog) (src := 80) (dst := 9) (e := 5) Tryd.underlying80 Tryd.underlying5 Tryd.underlying9 hown
  rw [str_ints] at hcv
  have HN := Lib.hid (NewMem.alloc w (.cells (secCells s).toArray 97))
  generalize (⟨s.toArray⟩ : ByteArray) = t at *
  clear hown
  go_enter Tryd.func69, Tryd.ntmps69
  go_wp2
  go_ret
  exact ⟨rfl, HN.out⟩
end Go.Proofs.YteljihpheffjnaaDoor.Drum
/- The drum: a new one. -/
namespace Go.Proofs.YteljihpheffjnaaDoor.Drum
open Go.RowKit Go.Proofs.YteljihpheffjnaaDoor.Ord Go.Proofs.YteljihpheffjnaaDoorW.PrintWords Go.Proofs.YteljihpheffjnaaDoor.Base

theorem new_bad (n : Int) (h : n < 1 ∨ 4096 < n) (w : World) : Calls Tryd.prog 15 #[.int .i64 n] w fun e w' => e = .returned (.tuple #[.pointer none, .int .i64 2]) ∧ w = w' := by
  rcases h with h | h
  · go_enter Tryd.func15, Tryd.ntmps15
    go_wp2
    go_ret2
    exact ⟨rfl, rfl⟩
  · have h2 : ¬ n < 1 := by omega
    go_enter Tryd.func15, Tryd.ntmps15
    go_wp2
    go_ret2
    exact ⟨rfl, rfl⟩

theorem info_sec : (Tryd.prog.info? 97).map (fun i => (i.zero, i.size, i.bytes)) = some (some (.agg (List.replicate 64 (.int .u8 0)).toArray), 64, 64) := by kernel_rfl
theorem madeCells_rep (v : Value) (m n : Nat) (hm : 0 < m) : madeCells (List.replicate m v).toArray n = (List.replicate n v).toArray := by
  unfold madeCells
  apply Array.ext
  · simp
  · intro j h1 h2
    have hj := Nat.mod_lt j hm
    simp [hj]
def DS.zero (n : Nat) : DS := ⟨List.replicate n (List.replicate 64 0), [], false, 0, false⟩
theorem secCells_zero : secCells (List.replicate 64 0) = List.replicate 64 (.int .u8 0) := by unfold secCells; rw [nums_ints, rep_cells]
theorem sureCells_zero (n : Nat) : sureCells (List.replicate n (List.replicate 64 0)) = List.replicate (n * 64) (.int .u8 0) := by
  unfold sureCells
  induction n with
  | zero => rfl
  | succ n ih => rw [List.replicate_succ, List.flatMap_cons, ih, secCells_zero, List.replicate_append_replicate]; congr 1; omega
theorem make_sectors (n : Nat) (hn : n ≤ 4096) (w : World) :
    (Instr.makeSlice 70 (.int .i64 (n : Int)) (.int .i64 (n : Int))).run Tryd.prog w = .ok (.slice (some ⟨w.heap.size, 0, none⟩) n n) (w.alloc (.cells (sureCells (DS.zero n).sure).toArray 97)) := by
  obtain ⟨i0, hi, hz0, hz1, hz2⟩ := info_parts info_sec
  have h := run_make (P := Tryd.prog) w 70 97 i0 _ Tryd.underlying70 hi hz0 .i64 .i64 (n : Int) (n : Int) (by omega) (by omega) (by rw [hz2]; omega) (by omega)
  rw [h]
  have e : madeCells (Value.agg (List.replicate 64 (.int .u8 0)).toArray).cells ((n : Int).toNat * i0.size) = (sureCells (DS.zero n).sure).toArray := by
    rw [hz1]
    show _ = (sureCells (List.replicate n (List.replicate 64 0))).toArray
    rw [sureCells_zero]
    exact (madeCells_rep (Value.int .u8 0) 64 ((n : Int).toNat * 64) (by decide)).trans (by rw [Int.toNat_natCast])
  rw [e]; simp

/-- A new drum of n sectors. -/
def NewAt (n : Nat) (w : World) (e : Ending) (w' : World) : Prop := ∃ b sb cap, e = .returned (.tuple #[.pointer (some ⟨b, 0, none⟩), .int .i64 0]) ∧ w.heap.size ≤ b ∧ w.heap.size ≤ sb ∧ DrumAt w' b sb cap (.slice none 0 0) (DS.zero n) ∧ NewMem w w'
set_option maxRecDepth 100000 in
set_option maxHeartbeats 8000000 in
theorem new_ok (n : Nat) (h0 : 0 < n) (hn : n ≤ 4096) (w : World) :
    Calls Tryd.prog 15 #[.int .i64 (n : Int)] w fun e w' => NewAt n w e w' := by
  have hmk := make_sectors n hn w
  have hlt : ¬ (n : Int) < 1 := by omega
  have hgt : ¬ (n : Int) > 4096 := by omega
  have h0' : 0 < n := h0
  have hl : (DS.zero n).sure.length = n := by simp [DS.zero]
  have hsl : (sureCells (DS.zero n).sure).length = n * 64 := by show (sureCells (List.replicate n (List.replicate 64 0))).length = _; rw [sureCells_zero, List.length_replicate]
  have HL := Lib.hid hl
  have HSL := Lib.hid hsl
  clear hl hsl
  generalize hD : DS.zero n = D at *
  have HD := Lib.hid hD
  clear hD
  go_enter Tryd.func15, Tryd.ntmps15
  go_wp2
  go_ret2
  have hl := HL.out
  have hn1 : NewMem w ((w.alloc (.cells (sureCells D.sure).toArray 97)).alloc (.cells #[.slice (some ⟨w.heap.size, 0, none⟩) n n, .slice none 0 0, .bool false, .int .i64 0, .bool false] 73)) := (NewMem.alloc _ _).trans (NewMem.alloc _ _)
  refine ⟨w.heap.size + 1, w.heap.size, n, rfl, by omega, Nat.le_refl _, ?_, hn1⟩
  have hs0 : (w.alloc (.cells (sureCells D.sure).toArray 97)).ownsRow 0 97 64 (.slice (some ⟨w.heap.size, 0, none⟩) n n) n (sureCells D.sure) := World.ownsRow_lit w (sureCells D.sure).toArray n (Nat.zero_le _) (by unfold maxLen; omega) (by simpa using HSL.out)
  rw [HD.out]
  refine ⟨?_, ?_, ?_, by omega, by simp [Value.ownBlock], by simp [Value.ownBlock], by omega, by omega, ?_, ?_⟩
  · rw [hl, ← HD.out]; exact heap_alloc2_new w _ _
  · rw [hl]; exact hs0.alloc _
  · rw [← HD.out]; exact World.ownsRow_nil _ _ _ _
  · rw [← HD.out]; intro s hs; have := List.eq_of_mem_replicate hs; rw [this, List.length_replicate]
  · rw [← HD.out]; intro p hp; cases hp
end Go.Proofs.YteljihpheffjnaaDoor.Drum
/- The drum: Write. -/
namespace Go.Proofs.YteljihpheffjnaaDoor.Drum
open Go.RowKit Go.Proofs.YteljihpheffjnaaDoor.Ord Go.Proofs.YteljihpheffjnaaDoorW.PrintWords Go.Proofs.YteljihpheffjnaaDoor.Base
set_option linter.unusedVariables false
set_option linter.unusedSimpArgs false
attribute [local go_sem] rdl_const rdl_func rdl_global rdl_nil rdl_cons

def DS.burn (D : DS) : Int × DS := ((burns D.armed D.left D.down).1, { D with left := (burns D.armed D.left D.down).2.1, down := (burns D.armed D.left D.down).2.2 })
def DS.write (D : DS) (i : Int) (s : List UInt8) : Int × DS :=
  if i < 0 ∨ (D.sure.length : Int) ≤ i ∨ s.length ≠ 64 then (2, D)
  else if D.burn.1 = 0 then (0, { D.burn.2 with loose := D.loose ++ [(i.toNat, s)] }) else D.burn
theorem foot_b (b sb : Nat) (lv : Value) : foot b sb lv b := .inl rfl
theorem DrumAt.burnt {w w' : World} {b sb cap : Nat} {lv : Value} {D : DS} (h : DrumAt w b sb cap lv D) (hc : DCell w' b (.slice (some ⟨sb, 0, none⟩) D.sure.length cap) lv D.armed (burns D.armed D.left D.down).2.1 (burns D.armed D.left D.down).2.2)
    (hm : Mod (fun k => k = b) w w') : DrumAt w' b sb cap lv D.burn.2 :=
  ⟨hc, ownsRow_mod h.sure hm (fun k hk e => h.ne (by subst e; simpa [Value.ownBlock] using hk.symm)), ownsRow_mod h.loose hm (fun k hk e => h.nel (by rw [hk, e])), h.ne, h.nel, h.nes, h.pos, h.few, h.wsure, h.wloose⟩
/-- A call that answers by a number; behind it the drum is D'. -/
def Did (w : World) (b sb cap : Nat) (lv : Value) (r : Int × DS) (e : Ending) (w' : World) : Prop :=
  ∃ lv', e = .returned (.int .i64 r.1) ∧ DrumAt w' b sb cap lv' r.2 ∧ (∀ k, lv'.ownBlock = some k → lv.ownBlock = some k ∨ w.heap.size ≤ k) ∧ Mod (foot b sb lv) w w'
theorem Did.same {w : World} {b sb cap : Nat} {lv : Value} {D : DS} (h : DrumAt w b sb cap lv D) (r : Int) : Did w b sb cap lv (r, D) (.returned (.int .i64 r)) w :=
  ⟨lv, rfl, h, fun _ h => .inl h, Mod.refl _ _⟩

theorem zero_loose : Tryd.zeroCells100 = (List.replicate 64 (Value.int .u8 0) ++ [Value.int .i64 0]).toArray := by kernel_rfl
theorem store_loose (w : World) (i : Int) : (storeCells ⟨w.heap.size, 0, none⟩ (Tryd.zeroCells100.toList.set 64 (.int .i64 i))).run Tryd.prog (w.alloc (.cells Tryd.zeroCells100 100)) =
    .ok () (w.alloc (.cells (List.replicate 64 (Value.int .u8 0) ++ [Value.int .i64 i]).toArray 100)) := by
  have e : Tryd.zeroCells100.toList.set 64 (.int .i64 i) = List.replicate 64 (Value.int .u8 0) ++ [Value.int .i64 i] := by rw [zero_loose]; rfl
  have hz : Tryd.zeroCells100.size = 65 := by rw [zero_loose]; rfl
  have hl : (List.replicate 64 (Value.int .u8 0) ++ [Value.int .i64 i]).length = 65 := by rw [List.length_append, List.length_replicate]; rfl
  rw [e]
  have h := run_storeCells_at Tryd.prog w.heap.size 0 100 (List.replicate 64 (Value.int .u8 0) ++ [Value.int .i64 i]) 0 _ (w.alloc (.cells Tryd.zeroCells100 100)) (heap_alloc_last w _) (by rw [hl, hz]; decide) (by
    intro v hv
    rw [List.mem_append] at hv
    rcases hv with hv | hv
    · rw [List.eq_of_mem_replicate hv]; rfl
    · rw [List.mem_singleton.1 hv]; rfl)
  rw [hl] at h
  refine h.trans ?_
  rw [World.setRow_alloc_new]
  congr 4
theorem copy_loose (w : World) (i : Int) (s : ByteArray) (h64 : s.size = 64) :
    (Builtin.copy_ #[80, 9] 3 #[.slice (some ⟨w.heap.size, 0, none⟩) 64 64, .string s]).run Tryd.prog (w.alloc (.cells (List.replicate 64 (Value.int .u8 0) ++ [Value.int .i64 i]).toArray 100)) =
      .ok (goInt 64) (w.alloc (.cells (secCells s.data.toList ++ [Value.int .i64 i]).toArray 100)) := by
  rw [run_copy_text _ 80 9 3 5 w.heap.size 64 64 s _ 100 Tryd.underlying80 info_u8 (heap_alloc_last w _) (by rw [List.size_toArray, List.length_append, List.length_replicate]; exact Nat.le_add_right _ _)]
  rw [World.setRow_alloc_new, h64]
  congr 4
  unfold secCells
  rw [nums_ints, List.take_of_length_le (by simp [h64]), show min 64 64 = 64 from rfl, List.drop_left' (by rw [List.length_replicate])]

theorem loose_made (w : World) (i : Int) (s : ByteArray) (h64 : s.size = 64) : ∃ w2 w3, (storeCells ⟨w.heap.size, 0, none⟩ (Tryd.zeroCells100.toList.set 64 (.int .i64 i))).run Tryd.prog (w.alloc (.cells Tryd.zeroCells100 100)) = .ok () w2 ∧
    (Builtin.copy_ #[80, 9] 3 #[.slice (some ⟨w.heap.size, 0, none⟩) 64 64, .string s]).run Tryd.prog w2 = .ok (goInt 64) w3 ∧ w3 = w.alloc (.cells (secCells s.data.toList ++ [Value.int .i64 i]).toArray 100) :=
  ⟨_, _, store_loose w i, copy_loose w i s h64, rfl⟩

/-- A slice of one new element, in a block of its own. -/
def newsF (lv : Value) (xs : List Value) : Fact (Mod (fun k => lv.ownBlock = some k)) :=
  ⟨fun v W => ∃ x, v = .slice (some ⟨x, 0, none⟩) 1 1 ∧ W.heap[x]? = some (.cells xs.toArray 100 (0, 0)) ∧ lv.ownBlock ≠ some x,
   fun v W W' ⟨x, hv, hx, hn⟩ hm => ⟨x, hv, (hm.block x (Array.getElem?_eq_some_iff.1 hx).1 hn).trans hx, hn⟩⟩
/-- The loose writes, one more of them. -/
def Appended (w3 : World) (lv : Value) (D : DS) (p : Nat × List UInt8) (v : Value) (W : World) : Prop :=
  ∃ h cap, v = .slice (some ⟨h, 0, none⟩) (D.loose.length + 1) cap ∧ W.ownsRow 0 100 65 v (D.loose.length + 1) (looseCells (D.loose ++ [p])) ∧ (lv.ownBlock = some h ∨ w3.heap.size ≤ h)
theorem looseCells_snoc (l : List (Nat × List UInt8)) (p : Nat × List UInt8) : looseCells (l ++ [p]) = looseCells l ++ (secCells p.2 ++ [.int .i64 (p.1 : Int)]) := by simp [looseCells]
theorem info_loose : (Tryd.prog.info? 100).map (fun i => (i.zero, i.size, i.bytes)) = some (some (.agg Tryd.zeroCells100), 65, 72) := by kernel_rfl
theorem loose_one (s : List UInt8) (i : Int) : ∀ u ∈ secCells s ++ [Value.int .i64 i], u.oneCell' = true := by
  intro u hu
  rw [List.mem_append] at hu
  rcases hu with hu | hu
  · unfold secCells at hu; rw [nums_ints] at hu; exact Lib.byteCells_one _ u hu
  · rw [List.mem_singleton.1 hu]; rfl
theorem append_loose {lv : Value} {D : DS} {s : List UInt8} {i : Int} {w3 W : World} {v6 : Value} (hs : s.length = 64) (hi : 0 ≤ i) (hn : D.loose.length ≤ 1000000)
    (hS : Mod (fun k => lv.ownBlock = some k) w3 W) (hA : W.ownsRow 0 100 65 lv D.loose.length (looseCells D.loose)) (h6 : (newsF lv (secCells s ++ [Value.int .i64 i])).p v6 W) (ty : TypeId) :
    ∃ v W', (Builtin.append_ #[71, 71] ty #[lv, v6]).run Tryd.prog W = .ok v W' ∧ Mod (fun k => lv.ownBlock = some k) W W' ∧ Appended w3 lv D (i.toNat, s) v W' := by
  obtain ⟨x, rfl, hx, hne⟩ := h6
  obtain ⟨i0, hi0, hz0, hz1, hz2⟩ := info_parts info_loose
  have hzs : Tryd.zeroCells100.size = 65 := by rw [zero_loose]; rfl
  obtain ⟨h, cap, W', hr, hown, hg, hat, _⟩ := run_append_lies (P := Tryd.prog) W 71 ty 0 100 i0 _ 65 72 Tryd.underlying71 hi0 hz0 hz1 hz2 hzs (by decide) lv D.loose.length _ hA ⟨x, 0, none⟩ 1 1 (secCells s ++ [Value.int .i64 i])
    (by simp [secCells_len, hs]) (World.news_of_block (by simpa using hx)) (loose_one s i) (by decide) (by unfold maxLen; omega) (by omega) (Nat.zero_le _) W.heap.size rfl
  refine ⟨_, W', hr, Mod.of_grown hg (fun k hk => hk), h, cap, rfl, ?_, ?_⟩
  · rw [looseCells_snoc]
    have : ((i.toNat : Nat) : Int) = i := by omega
    simp only [this]; exact hown
  · rcases hat with hat | hat
    · exact .inl hat
    · exact .inr (by rw [hat]; exact hS.size)
theorem lit_loose (s : List UInt8) (hs : s.length = 64) (i : Int) (W : World) (parts : Array (Nat × Value)) (hp : parts.toList = [(0, .agg (secCells s ++ [Value.int .i64 i]).toArray)]) :
    (Instr.buildSlice 71 1 parts).run Tryd.prog W = .ok (.slice (some ⟨W.heap.size, 0, none⟩) 1 1) (W.alloc (.cells (secCells s ++ [Value.int .i64 i]).toArray 100)) := by
  have h := run_lit (P := Tryd.prog) W 71 100 65 1 [.agg (secCells s ++ [Value.int .i64 i]).toArray] parts _ 72 Tryd.underlying71 info_loose (by rw [hp]; rfl) (by decide) (by decide) rfl (by decide)
    (fun v hv => by rw [List.mem_singleton.1 hv]; simp [Value.cells, secCells_len, hs])
  simpa [Value.cells] using h
theorem DrumAt.written {w w1 w3 W : World} {b sb cap : Nat} {lv v : Value} {D : DS} {p : Nat × List UInt8} (h : DrumAt w b sb cap lv D)
    (hc1 : DCell w1 b (.slice (some ⟨sb, 0, none⟩) D.sure.length cap) lv D.armed (burns D.armed D.left D.down).2.1 (burns D.armed D.left D.down).2.2)
    (hm1 : Mod (fun k => k = b) w w1) (hn3 : NewMem w1 w3) (hS : Mod (fun k => lv.ownBlock = some k) w3 W) (ha : Appended w3 lv D p v W) (hp : p.2.length = 64 ∧ p.1 < D.sure.length) :
    Did w b sb cap lv (0, { D.burn.2 with loose := D.loose ++ [p] }) (.returned (.int .i64 0)) (W.setCell ⟨b, 1, none⟩ v) := by
  obtain ⟨x, cp, rfl, hown, hat⟩ := ha
  have hm3 : Mod (fun k => k = b) w1 w3 := Mod.of_below hn3
  have hb1 : b < w1.heap.size := hc1.lt
  have hb3 : b < w3.heap.size := Nat.lt_of_lt_of_le hb1 hn3.size
  have hbx : b ≠ x := by
    rcases hat with e | e
    · intro hx; exact h.nel (by rw [e, hx])
    · omega
  have hsx : sb ≠ x := by
    rcases hat with e | e
    · intro hx; exact h.nes (by rw [e, hx])
    · have := (h.sure.lt sb rfl).2; have := hm1.size; have := hn3.size; omega
  have hcW : DCell W b (.slice (some ⟨sb, 0, none⟩) D.sure.length cap) lv D.armed (burns D.armed D.left D.down).2.1 (burns D.armed D.left D.down).2.2 :=
    (hc1.kept (Mod.of_below (F := fun _ => False) hn3) id).kept hS h.nel
  have hall : Mod (foot b sb lv) w (W.setCell ⟨b, 1, none⟩ (.slice (some ⟨x, 0, none⟩) (D.loose.length + 1) cp)) := by
    have h1 : Mod (foot b sb lv) w w1 := hm1.mono (fun i e => .inl e)
    have h2 : Mod (foot b sb lv) w w3 := h1.trans (Mod.of_below hn3 : Mod (foot b sb lv) w1 w3) (fun i e => .inl e)
    have h3 : Mod (foot b sb lv) w W := h2.trans hS (fun i e => .inl (.inr (.inr e)))
    exact h3.trans (Mod.setCell (F := fun k => k = b) _ _ _ rfl) (fun i e => .inl (.inl e))
  refine ⟨.slice (some ⟨x, 0, none⟩) (D.loose.length + 1) cp, rfl, ⟨hcW.set1 _, ?_, ?_, h.ne, ?_, ?_, h.pos, h.few, h.wsure, ?_⟩, ?_, hall⟩
  · have s1 := ownsRow_mod h.sure hm1 (fun k hk e => h.ne (by subst e; simpa [Value.ownBlock] using hk.symm))
    have s3 := ownsRow_mod s1 (Mod.of_below (F := fun _ => False) hn3) (fun _ _ => id)
    have s4 := ownsRow_mod s3 hS (fun k hk e => h.nes (by rw [e]; exact hk.symm))
    exact ownsRow_mod s4 (Mod.setCell (F := fun k => k = b) _ ⟨b, 1, none⟩ _ rfl) (fun k hk e => h.ne (by subst e; simpa [Value.ownBlock] using hk.symm))
  · have := ownsRow_mod hown (Mod.setCell (F := fun k => k = b) W ⟨b, 1, none⟩ (.slice (some ⟨x, 0, none⟩) (D.loose.length + 1) cp) rfl) (fun k hk e => hbx (by subst e; simpa [Value.ownBlock] using hk.symm))
    simpa using this
  · simpa [Value.ownBlock] using fun e : x = b => hbx e.symm
  · simpa [Value.ownBlock] using fun e : x = sb => hsx e.symm
  · intro q hq
    rcases List.mem_append.1 hq with hq | hq
    · exact h.wloose q hq
    · rw [List.mem_singleton.1 hq]; exact hp
  · intro k hk
    simp only [Value.ownBlock, Option.some.injEq] at hk
    subst hk
    rcases hat with e | e
    · exact .inl e
    · have := hm1.size; have := hn3.size; exact .inr (by omega)

set_option maxRecDepth 100000 in
set_option maxHeartbeats 8000000 in
theorem write_at (b sb cap : Nat) (lv : Value) (D : DS) (i : Int) (s : ByteArray) (w : World) (h : DrumAt w b sb cap lv D) (hs : s.size ≤ 1000000) (hn : D.loose.length ≤ 1000000) :
    Calls Tryd.prog 34 #[.pointer (some ⟨b, 0, none⟩), .int .i64 i, .string s] w fun e w' => Did w b sb cap lv (D.write i s.data.toList) e w' := by
  have c0 := h.cell.cells.1
  have cm : Calls Tryd.prog 39 #[.pointer (some ⟨b, 0, none⟩)] w fun e w' => e = .returned (.bool true) ∧ w = w' := by
    have := made_of b _ _ _ w c0
    rwa [decide_eq_true h.pos] at this
  have CM := Lib.hid cm
  have ch := has_of b _ _ _ i w c0
  have H := Lib.hid h
  by_cases hr : 0 ≤ i ∧ i < (D.sure.length : Int)
  · rw [decide_eq_true hr] at ch
    have CH := Lib.hid ch
    by_cases h64 : s.size = 64
    · have hsl : s.data.toList.length = 64 := by simpa using h64
      have hw : D.write i s.data.toList = if D.burn.1 = 0 then (0, { D.burn.2 with loose := D.loose ++ [(i.toNat, s.data.toList)] }) else D.burn := by
        unfold DS.write; rw [if_neg (by rintro (x | x | x) <;> omega)]
      rw [hw]
      have h64i : (s.size : Int) = 64 := by omega
      have CB := Lib.hid (burn_at b _ _ _ _ _ w h.cell)
      clear hw h ch cm c0
      by_cases hb0 : D.burn.1 = 0
      · rw [if_pos hb0]
        have hb0' : (burns D.armed D.left D.down).1 = 0 := hb0
        go_enter Tryd.func34, Tryd.ntmps34
        go_wp2_with fail
        refine CM.out.mono ?_
        rintro e w' ⟨rfl, rfl⟩
        go_wp2_with fail
        refine CH.out.mono ?_
        rintro e w' ⟨rfl, rfl⟩
        go_wp2_with fail
        refine CB.out.mono ?_
        rintro e w1 ⟨rfl, hc1, hm1⟩
        rw [hb0']
        obtain ⟨w2, w3, hst, hcp, hw3⟩ := loose_made w1 i s h64
        have HW3 := Lib.hid hw3
        clear hw3
        go_wp2_with fail
        obtain ⟨gl, hg⟩ : ∃ g : Nat, g = w1.heap.size := ⟨_, rfl⟩
        rw [← hg]
        have hg3 : w3.heap[gl]? = some (.cells (secCells s.data.toList ++ [Value.int .i64 i]).toArray 100 (0, 0)) := by rw [HW3.out, hg]; exact heap_alloc_last _ _
        have hn3 : NewMem w1 w3 := by rw [HW3.out]; exact NewMem.alloc _ _
        clear hst hcp HW3
        have hbn : b < w1.heap.size := hc1.lt
        have hb3 : ∀ W, Mod (fun k => lv.ownBlock = some k) w3 W → DCell W b (.slice (some ⟨sb, 0, none⟩) D.sure.length cap) lv D.armed (burns D.armed D.left D.down).2.1 (burns D.armed D.left D.down).2.2 := fun W hW =>
          (hc1.kept (Mod.of_below (F := fun _ => False) hn3) id).kept hW H.out.nel
        have hlt : ∀ k, lv.ownBlock = some k → k < w1.heap.size := fun k hk => Nat.lt_of_lt_of_le ((H.out.loose.lt k hk).2) hm1.size
        have hgW : ∀ W, Mod (fun k => lv.ownBlock = some k) w3 W → W.heap[gl]? = some (.cells (secCells s.data.toList ++ [Value.int .i64 i]).toArray 100 (0, 0)) := fun W hW =>
          (hW.block gl ((Array.getElem?_eq_some_iff.1 hg3).1) (fun e => by have := hlt gl e; omega)).trans hg3
        have hA3 : w3.ownsRow 0 100 65 lv D.loose.length (looseCells D.loose) :=
          ownsRow_mod (ownsRow_mod H.out.loose hm1 (fun k hk e => H.out.nel (by rw [hk, e]))) (Mod.of_below (F := fun _ => False) hn3) (fun _ _ => id)
        have hcs : (secCells s.data.toList ++ [Value.int .i64 i]).length = 65 := by simp [secCells_len, hsl]
        have HB3 := Lib.hid hb3
        have HLT := Lib.hid hlt
        have HGW := Lib.hid hgW
        have HA3 := Lib.hid hA3
        have HCS := Lib.hid hcs
        have HC1 := Lib.hid hc1
        have HM1 := Lib.hid hm1
        have HN3 := Lib.hid hn3
        have HG3 := Lib.hid hg3
        clear hb3 hlt hgW hA3 hcs hc1 hm1 hn3 hg3
        refine' wp_region_factsD 7 (S := (fun W => Mod (fun k => lv.ownBlock = some k) w3 W)) (A := (fun W => W.ownsRow 0 100 65 lv D.loose.length (looseCells D.loose))) (R := (Mod (fun k => lv.ownBlock = some k))) (R0 := NewMem) (pd := (Appended w3 lv D (i.toNat, s.data.toList))) [eqF _ _, eqF _ _, eqF _ _, eqF _ _, eqF _ lv, eqF _ (.agg (secCells s.data.toList ++ [Value.int .i64 i]).toArray), newsF lv (secCells s.data.toList ++ [Value.int .i64 i]), noF _] (by kernel_rfl) (by kernel_rfl) ?hS ?hA ?hR ?hpd ?h0 (Ord.stepsD_cons ?s0 (Ord.stepsD_cons ?s1 (Ord.stepsD_cons ?s2 (Ord.stepsD_cons ?s3 (Ord.stepsD_cons ?s4 (Ord.stepsD_cons ?s5 (Ord.stepsD_cons ?s6 (Ord.stepsD_cons ?s7 (Ord.stepsD_nil))))))))) ?fin
        case s0 =>
          intro g W hSW _ hd
          refine OpGives.ne (by decide) ?_
          try simp only [Nat.zero_add, Nat.reduceAdd] at hd ⊢
          with_reducible refine OpGives.pre_reads [] 44 ?_ ?_ ?_
          · rfl
          · kernel_rfl
          simp only [List.map_cons, List.map_nil]
          refine OpGives.val (w' := W) ?_ ⟨NewMem.refl _, rfl⟩
          go_simp
          try with_reducible rfl
        case s1 =>
          intro g W hSW _ hd
          refine OpGives.ne (by decide) ?_
          try simp only [Nat.zero_add, Nat.reduceAdd] at hd ⊢
          with_reducible refine OpGives.pre_reads [] 44 ?_ ?_ ?_
          · rfl
          · kernel_rfl
          simp only [List.map_cons, List.map_nil]
          refine OpGives.val (w' := W) ?_ ⟨NewMem.refl _, rfl⟩
          go_simp
          try with_reducible rfl
        case s2 =>
          intro g W hSW _ hd
          refine OpGives.ne (by decide) ?_
          try simp only [Nat.zero_add, Nat.reduceAdd] at hd ⊢
          have h1 : g 1 = _ := hd 1 (by decide) (by kernel_rfl)
          with_reducible refine OpGives.pre_reads [(35, 1)] 44 ?_ ?_ ?_
          · rfl
          · kernel_rfl
          simp only [List.map_cons, List.map_nil]
          refine OpGives.val (w' := W) ?_ ⟨NewMem.refl _, rfl⟩
          go_simp
          try with_reducible rfl
        case s3 =>
          intro g W hSW _ hd
          refine OpGives.ne (by decide) ?_
          try simp only [Nat.zero_add, Nat.reduceAdd] at hd ⊢
          have h2 : g 2 = _ := hd 2 (by decide) (by kernel_rfl)
          with_reducible refine OpGives.pre_reads [(36, 2)] 44 ?_ ?_ ?_
          · rfl
          · kernel_rfl
          simp only [List.map_cons, List.map_nil]
          refine OpGives.val (w' := W) ?_ ⟨NewMem.refl _, rfl⟩
          go_simp
          try with_reducible rfl
        case s4 =>
          intro g W hSW _ hd
          refine OpGives.ne (by decide) ?_
          try simp only [Nat.zero_add, Nat.reduceAdd] at hd ⊢
          have h3 : g 3 = _ := hd 3 (by decide) (by kernel_rfl)
          with_reducible refine OpGives.pre_reads [(37, 3)] 44 ?_ ?_ ?_
          · rfl
          · kernel_rfl
          simp only [List.map_cons, List.map_nil]
          have c1 := (HB3.out W hSW).cells.2.1; refine OpGives.val (w' := W) ?_ ⟨NewMem.refl _, rfl⟩; go_simp
        case s5 =>
          intro g W hSW _ hd
          refine OpGives.ne (by decide) ?_
          try simp only [Nat.zero_add, Nat.reduceAdd] at hd ⊢
          with_reducible refine OpGives.pre_reads [] 44 ?_ ?_ ?_
          · rfl
          · kernel_rfl
          simp only [List.map_cons, List.map_nil]
          refine OpGives.val (w' := W) (exec_load_row 100 _ rfl gl ?_ _ _ (0, 0) _ (HGW.out W hSW) Tryd.underlying100 rfl ?_) ⟨NewMem.refl _, rfl⟩; (rfl); (rw [List.size_toArray, HCS.out]; kernel_rfl)
        case s6 =>
          intro g W hSW _ hd
          refine OpGives.ne (by decide) ?_
          try simp only [Nat.zero_add, Nat.reduceAdd] at hd ⊢
          have h5 : g 5 = _ := hd 5 (by decide) (by kernel_rfl)
          with_reducible refine OpGives.pre_reads [(39, 5)] 44 ?_ ?_ ?_
          · rfl
          · kernel_rfl
          simp only [List.map_cons, List.map_nil]
          refine OpGives.val (v := .slice (some ⟨W.heap.size, 0, none⟩) 1 1) (w' := W.alloc (.cells (secCells s.data.toList ++ [Value.int .i64 i]).toArray 100)) (exec_buildSlice 71 1 _ rfl (lit_loose _ hsl i W _ ?_)) ⟨NewMem.alloc _ _, W.heap.size, rfl, heap_alloc_last W _, fun e => absurd (HLT.out _ e) (by have := hSW.size; have := HN3.out.size; omega)⟩; rw [h5]; simp [rdl_cons]
        case s7 =>
          intro g W hSW hAW hd
          refine OpGives.eqd ?_
          have hAW := hAW rfl
          try simp only [Nat.zero_add, Nat.reduceAdd] at hd ⊢
          have h4 : g 4 = _ := hd 4 (by decide) (by kernel_rfl)
          have h6 := hd 6 (by decide) (by kernel_rfl)
          change (newsF lv (secCells s.data.toList ++ [Value.int .i64 i])).p (g 6) W at h6
          with_reducible refine OpGives.pre_reads [(38, 4), (40, 6)] 44 ?_ ?_ ?_
          · rfl
          · kernel_rfl
          simp only [List.map_cons, List.map_nil]
          obtain ⟨v, W', hr, hR, hp⟩ := append_loose hsl hr.1 hn hSW hAW h6 71; rw [← h4] at hr; exact OpGives.val (v := v) (w' := W') (exec_append _ _ _ rfl hr) ⟨hR, trivial, hp⟩
        case hS => exact fun a c h k => Mod.trans h k (fun _ e => .inl e)
        case hA => exact fun a c h k => ownsRow_mod h (Mod.of_below (F := fun _ => False) k) (fun _ _ => id)
        case hR => exact fun a c h => Mod.of_below h
        case hpd => exact fun v a c ⟨x, cp, e, ho, hx⟩ k => ⟨x, cp, e, ownsRow_mod ho (Mod.of_below (F := fun _ => False) k) (fun _ _ => id), hx⟩
        case h0 => exact ⟨Mod.drew (Mod.refl _ _), ownsRow_mod HA3.out (Mod.drew (Mod.refl (fun _ => False) _)) (fun _ _ => id)⟩
        case fin =>
          intro v W hSW hf hpd
          have h0 : v 0 = _ := hf 0 (Nat.lt_of_lt_of_eq (by decide : 0 < 8) rfl)
          have h7 := hpd (Nat.lt_of_lt_of_eq (by decide : 7 < 8) rfl)
          clear hf hpd
          generalize hF : Ord.pre _ _ v _ = F
          rw [Ord.pre_lit [some 34, some 35, some 36, some 37, some 38, some 39, some 40, some 41]
            (by kernel_rfl)] at hF
          simp only [Ord.puts, Nat.zero_add, Nat.reduceAdd] at hF
          subst hF
          rw [h0]
          refine any_one (i := 8) (by kernel_rfl) (wpOp_value (v := .pointer (some ⟨b, 0, none⟩)) (w' := W) rfl rfl (by go_simp) ?_)
          refine any_one (i := 9) (by kernel_rfl) (wpOp_value (v := .pointer (some ⟨b, 1, none⟩)) (w' := W) rfl rfl (by go_simp) ?_)
          have hcW := HB3.out W hSW
          have c1 := hcW.cells.2.1
          have f1 := hcW.free 1
          obtain ⟨x7, c7, e7, h7'⟩ := h7
          have h7 : Appended w3 lv D (i.toNat, s.data.toList) (v 7) W := ⟨x7, c7, e7, h7'⟩
          have hdone := DrumAt.written H.out HC1.out HM1.out HN3.out hSW h7 ⟨hsl, by omega⟩
          have HD := Lib.hid hdone
          rw [e7] at HD ⊢
          clear hdone hcW h7 h7' e7
          refine any_one (i := 10) (by kernel_rfl) (wpOp_skip (w' := W.setCell ⟨b, 1, none⟩ (.slice (some ⟨x7, 0, none⟩) (D.loose.length + 1) c7)) rfl rfl (by go_simp) ?_)
          refine wpAny_done (by kernel_rfl) ?_ _
          simp only [List.getElem_toArray, List.getElem_cons_succ, List.getElem_cons_zero]
          go_frame
          go_wp2_with fail
          go_ret
          exact HD.out
      · rw [if_neg hb0]
        have hb0' : (burns D.armed D.left D.down).1 ≠ 0 := hb0
        have hbd : ((burns D.armed D.left D.down).1 == 0) = false := by simpa using hb0'
        go_enter Tryd.func34, Tryd.ntmps34
        go_wp2_with fail
        refine CM.out.mono ?_
        rintro e w' ⟨rfl, rfl⟩
        go_wp2_with fail
        refine CH.out.mono ?_
        rintro e w' ⟨rfl, rfl⟩
        go_wp2_with fail
        refine CB.out.mono ?_
        rintro e w1 ⟨rfl, hc1, hm1⟩
        have HD := Lib.hid (show Did w b sb cap lv D.burn (.returned (.int .i64 (burns D.armed D.left D.down).1)) w1 from ⟨lv, rfl, H.out.burnt hc1 hm1, fun _ h => .inl h, hm1.mono (fun _ e => .inl e)⟩)
        clear hc1 hm1
        go_wp2
        go_ret
        exact HD.out
    · have hw : D.write i s.data.toList = (2, D) := by unfold DS.write; rw [if_pos (.inr (.inr (by simpa using h64)))]
      rw [hw]
      have h64i : (s.size : Int) ≠ 64 := by omega
      clear hw h ch cm c0 hr
      go_enter Tryd.func34, Tryd.ntmps34
      go_wp2_with fail
      refine CM.out.mono ?_
      rintro e w' ⟨rfl, rfl⟩
      go_wp2_with fail
      refine CH.out.mono ?_
      rintro e w' ⟨rfl, rfl⟩
      go_wp2_with fail
      go_ret
      exact Did.same H.out 2
  · rw [decide_eq_false hr] at ch
    have CH := Lib.hid ch
    have hw : D.write i s.data.toList = (2, D) := by unfold DS.write; rw [if_pos (by omega)]
    rw [hw]
    clear hw h ch cm c0 hr
    go_enter Tryd.func34, Tryd.ntmps34
    go_wp2_with fail
    refine CM.out.mono ?_
    rintro e w' ⟨rfl, rfl⟩
    go_wp2_with fail
    refine CH.out.mono ?_
    rintro e w' ⟨rfl, rfl⟩
    go_wp2_with fail
    go_ret
    exact Did.same H.out 2
end Go.Proofs.YteljihpheffjnaaDoor.Drum
/- The drum: keep, Settle, Crash. -/
namespace Go.Proofs.YteljihpheffjnaaDoor.Drum
open Go.RowKit Go.Proofs.YteljihpheffjnaaDoor.Ord Go.Proofs.YteljihpheffjnaaDoorW.PrintWords Go.Proofs.YteljihpheffjnaaDoor.Base
set_option linter.unusedVariables false
set_option linter.unusedSimpArgs false
attribute [local go_sem] rdl_const rdl_func rdl_global rdl_nil rdl_cons

/-- What stays of the first k loose writes. -/
def keepN (p : Nat → Bool) (l : List (Nat × List UInt8)) (s : List (List UInt8)) : Nat → List (List UInt8)
  | 0 => s
  | k + 1 => match l[k]? with
    | some q => if p k then (keepN p l s k).set q.1 q.2 else keepN p l s k
    | none => keepN p l s k
theorem keepN_len (p : Nat → Bool) (l : List (Nat × List UInt8)) (s : List (List UInt8)) : ∀ k, (keepN p l s k).length = s.length
  | 0 => rfl
  | k + 1 => by
    unfold keepN
    split
    · split
      · rw [List.length_set, keepN_len p l s k]
      · exact keepN_len p l s k
    · exact keepN_len p l s k
theorem keepN_wide (p : Nat → Bool) (l : List (Nat × List UInt8)) (s : List (List UInt8)) (hs : ∀ x ∈ s, x.length = 64) (hl : ∀ q ∈ l, q.2.length = 64) : ∀ k, ∀ x ∈ keepN p l s k, x.length = 64
  | 0 => hs
  | k + 1 => by
    unfold keepN
    split
    · rename_i q hq
      split
      · intro x hx
        rcases List.mem_or_eq_of_mem_set hx with h | h
        · exact keepN_wide p l s hs hl k x h
        · rw [h]; exact hl q (List.mem_of_getElem? hq)
      · exact keepN_wide p l s hs hl k
    · exact keepN_wide p l s hs hl k

/-- The cells of an element. -/
theorem flat_at {α : Type} (f : α → List Value) (n : Nat) : ∀ (l : List α) (k : Nat) (x : α), (∀ y ∈ l, (f y).length = n) → l[k]? = some x → ((l.flatMap f).drop (k * n)).take n = f x
  | [], k, x, _, h => by simp at h
  | y :: l, 0, x, hw, h => by
    simp at h; subst h
    rw [List.flatMap_cons, Nat.zero_mul, List.drop_zero, List.take_append_of_le_length (by rw [hw y (by simp)]; exact Nat.le_refl _), List.take_of_length_le (by rw [hw y (by simp)]; exact Nat.le_refl _)]
  | y :: l, k + 1, x, hw, h => by
    have hy := hw y (by simp)
    rw [List.flatMap_cons, List.drop_append, hy, List.drop_eq_nil_of_le (by rw [hy, Nat.add_mul]; omega), List.nil_append, show (k + 1) * n - n = k * n by rw [Nat.add_mul]; omega]
    exact flat_at f n l k x (fun z hz => hw z (by simp [hz])) (by simpa using h)
theorem flat_set {α : Type} (f : α → List Value) (n : Nat) : ∀ (l : List α) (k : Nat) (x : α), (∀ y ∈ l, (f y).length = n) → k < l.length → ((l.set k x).flatMap f) = (l.flatMap f).take (k * n) ++ f x ++ (l.flatMap f).drop (k * n + n)
  | [], k, x, _, h => by simp at h
  | y :: l, 0, x, hw, h => by
    have hy := hw y (by simp)
    simp [← hy]
  | y :: l, k + 1, x, hw, h => by
    have hy := hw y (by simp)
    have ih := flat_set f n l k x (fun z hz => hw z (by simp [hz])) (by simpa using h)
    have e : (k + 1) * n = (f y).length + k * n := by rw [Nat.add_mul, hy]; omega
    have e2 : (k + 1) * n + n = (f y).length + (k * n + n) := by rw [e]; omega
    rw [List.set_cons_succ, List.flatMap_cons, List.flatMap_cons, ih, e2, e, List.take_length_add_append, List.drop_length_add_append]
    simp
theorem flat_len {α : Type} (f : α → List Value) (n : Nat) : ∀ (l : List α), (∀ y ∈ l, (f y).length = n) → (l.flatMap f).length = l.length * n
  | [], _ => by simp
  | y :: l, hw => by
    rw [List.flatMap_cons, List.length_append, hw y (by simp), flat_len f n l (fun z hz => hw z (by simp [hz])), List.length_cons, Nat.add_mul]; omega
def looseCell (p : Nat × List UInt8) : List Value := secCells p.2 ++ [.int .i64 (p.1 : Int)]

theorem looseCell_len (q : Nat × List UInt8) (h : q.2.length = 64) : (looseCell q).length = 65 := by simp [looseCell, secCells_len, h]
def DS.kept (D : DS) (p : Nat → Bool) (k : Nat) : DS := { D with sure := keepN p D.loose D.sure k }
theorem DS.kept_no {D : DS} {p : Nat → Bool} {k : Nat} {q : Nat × List UInt8} (hq : D.loose[k]? = some q) (hp : p k = false) : D.kept p (k + 1) = D.kept p k := by
  have : keepN p D.loose D.sure (k + 1) = keepN p D.loose D.sure k := by rw [keepN, hq]; simp [hp]
  unfold DS.kept; rw [this]
theorem DS.kept_yes {D : DS} {p : Nat → Bool} {k : Nat} {q : Nat × List UInt8} (hq : D.loose[k]? = some q) (hp : p k = true) : D.kept p (k + 1) = { (D.kept p k) with sure := (D.kept p k).sure.set q.1 q.2 } := by
  have : keepN p D.loose D.sure (k + 1) = (keepN p D.loose D.sure k).set q.1 q.2 := by rw [keepN, hq]; simp [hp]
  unfold DS.kept; rw [this]
theorem DS.kept_len (D : DS) (p : Nat → Bool) (k : Nat) : (D.kept p k).sure.length = D.sure.length := keepN_len _ _ _ _
/-- A drum while k loose writes have been looked at. -/
def Kept (w : World) (b sb cap : Nat) (lv : Value) (D : DS) (p : Nat → Bool) (k : Nat) (wr : World) : Prop := DrumAt wr b sb cap lv (D.kept p k) ∧ Mod (fun i => i = sb) w wr
theorem info_secb : (Tryd.prog.info? 97).map (fun i => i.size) = some 64 := by kernel_rfl
theorem info_looseb : (Tryd.prog.info? 100).map (fun i => i.size) = some 65 := by kernel_rfl
theorem DrumAt.loose_block {w : World} {b sb cap g cp : Nat} {n : Nat} {D : DS} (h : DrumAt w b sb cap (.slice (some ⟨g, 0, none⟩) n cp) D) : ∃ rest, w.heap[g]? = some (.cells (looseCells D.loose ++ rest).toArray 100 (0, 0)) := by
  rcases h.loose.2 with ⟨e, _⟩ | ⟨g', cp', cur, e, _, hg, _, _, _, ht⟩
  · cases e
  · injection e with e1 e2 e3
    injection e1 with e1
    injection e1 with e1
    subst e1
    refine ⟨cur.toList.drop (D.loose.length * 65), ?_⟩
    rw [← ht, List.take_append_drop]; exact hg
theorem DrumAt.sure_block {w : World} {b sb cap : Nat} {lv : Value} {D : DS} (h : DrumAt w b sb cap lv D) : ∃ rest, w.heap[sb]? = some (.cells (sureCells D.sure ++ rest).toArray 97 (0, 0)) := by
  rcases h.sure.2 with ⟨e, _⟩ | ⟨g', cp', cur, e, _, hg, _, _, _, ht⟩
  · cases e
  · injection e with e1 e2 e3
    injection e1 with e1
    injection e1 with e1
    subst e1
    refine ⟨cur.toList.drop (D.sure.length * 64), ?_⟩
    rw [← ht, List.take_append_drop]; exact hg
theorem DrumAt.loose_at {w : World} {b sb cap g cp : Nat} {n k : Nat} {D : DS} {q : Nat × List UInt8} (h : DrumAt w b sb cap (.slice (some ⟨g, 0, none⟩) n cp) D) (hq : D.loose[k]? = some q) : w.rangeAt g (k * 65) (looseCell q) := by
  obtain ⟨rest, hb⟩ := h.loose_block
  have hw : ∀ y ∈ D.loose, (looseCell y).length = 65 := fun y hy => looseCell_len y (h.wloose y hy).1
  have hk := (List.getElem?_eq_some_iff.1 hq).1
  have hl := flat_len looseCell 65 D.loose hw
  refine range_of_block hb ?_
  have e : looseCells D.loose = D.loose.flatMap looseCell := rfl
  rw [looseCell_len q (h.wloose q (List.mem_of_getElem? hq)).1, e, List.drop_append_of_le_length (by rw [hl]; omega), List.take_append_of_le_length (by rw [List.length_drop, hl]; omega)]
  exact flat_at looseCell 65 D.loose k q hw hq
theorem DrumAt.sure_at {w : World} {b sb cap : Nat} {lv : Value} {k : Nat} {D : DS} {s : List UInt8} (h : DrumAt w b sb cap lv D) (hq : D.sure[k]? = some s) : w.rangeAt sb (k * 64) (secCells s) := by
  obtain ⟨rest, hb⟩ := h.sure_block
  have hw : ∀ y ∈ D.sure, (secCells y).length = 64 := fun y hy => by rw [secCells_len]; exact h.wsure y hy
  have hk := (List.getElem?_eq_some_iff.1 hq).1
  have hl := flat_len secCells 64 D.sure hw
  refine range_of_block hb ?_
  have e : sureCells D.sure = D.sure.flatMap secCells := rfl
  rw [hw s (List.mem_of_getElem? hq), e, List.drop_append_of_le_length (by rw [hl]; omega), List.take_append_of_le_length (by rw [List.length_drop, hl]; omega)]
  exact flat_at secCells 64 D.sure k s hw hq
theorem DrumAt.sure_there {w : World} {b sb cap : Nat} {lv : Value} {k : Nat} {D : DS} (h : DrumAt w b sb cap lv D) (hk : k < D.sure.length) : w.there sb (k * 64) 64 := by
  obtain ⟨rest, hb⟩ := h.sure_block
  have hw : ∀ y ∈ D.sure, (secCells y).length = 64 := fun y hy => by rw [secCells_len]; exact h.wsure y hy
  have hl := flat_len secCells 64 D.sure hw
  have e : sureCells D.sure = D.sure.flatMap secCells := rfl
  exact there_of_block hb (by rw [e, List.length_append, hl]; omega)
theorem Mod.setCells {F : Nat → Prop} (w : World) (b o : Nat) (vs : List Value) (ha : F b) : Mod F w (w.setCells b o vs) :=
  ⟨(setCells_os vs b o w).1, (setCells_os vs b o w).2.1, (setCells_os vs b o w).2.2, by rw [setCells_size]; exact Nat.le_refl _, fun k _ hf => setCells_other _ _ _ _ _ (fun e => hf (e ▸ ha))⟩
/-- A sector turned. -/
theorem DrumAt.put {w : World} {b sb cap : Nat} {lv : Value} {k : Nat} {D : DS} {s : List UInt8} (h : DrumAt w b sb cap lv D) (hk : k < D.sure.length) (hs : s.length = 64) : DrumAt (w.setCells sb (k * 64) (secCells s)) b sb cap lv { D with sure := D.sure.set k s } := by
  have hm : Mod (fun i => i = sb) w (w.setCells sb (k * 64) (secCells s)) := Mod.setCells _ _ _ _ rfl
  have hw : ∀ y ∈ D.sure, (secCells y).length = 64 := fun y hy => by rw [secCells_len]; exact h.wsure y hy
  have hl := flat_len secCells 64 D.sure hw
  refine ⟨?_, ?_, ownsRow_mod h.loose hm (fun k hk e => h.nes (by rw [hk, e])), h.ne, h.nel, h.nes, ?_, ?_, ?_, ?_⟩
  · have := h.cell.kept hm h.ne
    simpa using this
  · rcases h.sure.2 with ⟨e, _⟩ | ⟨g', cp', cur, e, hb, hg, hc, hmx, hsz, ht⟩
    · cases e
    · injection e with e1 e2 e3
      injection e1 with e1
      injection e1 with e1
      subst e1
      subst e3
      have hcl : cur.toList.length = cap * 64 := by simpa using hsz
      have hle : D.sure.length * 64 ≤ cap * 64 := Nat.mul_le_mul_right 64 hc
      have hgl : w.heap[sb]? = some (.cells cur.toList.toArray 97 (0, 0)) := by simpa using hg
      have hlen : (secCells s).length = 64 := by rw [secCells_len, hs]
      have hset := setCells_heap 97 (0, 0) (secCells s) sb (k * 64) w cur.toList hgl (by rw [hlen, hcl]; omega)
      have e2 : sureCells (D.sure.set k s) = (D.sure.set k s).flatMap secCells := rfl
      have e3 : sureCells D.sure = D.sure.flatMap secCells := rfl
      refine ⟨?_, .inr ⟨sb, cap, _, by rw [List.length_set], hb, hset, by rw [List.length_set]; exact hc, hmx, ?_, ?_⟩⟩
      · rw [e2, flat_set secCells 64 D.sure k s hw hk]; simp [hl, hlen]; omega
      · simp [hlen, hcl]; omega
      · rw [e2, flat_set secCells 64 D.sure k s hw hk, ← e3, ← ht, List.length_set, hlen]
        simp only [List.take_append, List.length_append, List.length_take, hlen, hcl]
        rw [List.take_take, List.take_take, List.drop_take, List.take_of_length_le (l := secCells s) (by rw [hlen]; omega)]
        congr 1
        · congr 2; omega
        · congr 1; omega
  · rw [List.length_set]; exact h.pos
  · rw [List.length_set]; exact h.few
  · intro x hx
    rcases List.mem_or_eq_of_mem_set hx with hx | hx
    · exact h.wsure x hx
    · rw [hx]; exact hs
  · intro q hq; rw [List.length_set]; exact h.wloose q hq
theorem secCells_one (s : List UInt8) : (secCells s).toArray.all (·.oneCell') = true := by
  unfold secCells; rw [nums_ints]; exact all_oneCell_toArray (Lib.byteCells_one _)

set_option maxRecDepth 100000 in
set_option maxHeartbeats 8000000 in
theorem keep_at (b sb cap : Nat) (lv : Value) (D : DS) (K : Nat) (caps : Array Value) (p : Nat → Bool) (w : World) (h : DrumAt w b sb cap lv D) (hn : D.loose.length ≤ 1000000)
    (hK : ∀ args W, (callFunc K args).run Tryd.prog W = .ok (.enter K args) W)
    (hcl : ∀ W k, k < D.loose.length → Mod (fun i => i = sb) w W → Calls Tryd.prog K (#[.int .i64 (k : Int)] ++ caps) W fun e w' => e = .returned (.bool (p k)) ∧ W = w') :
    Calls Tryd.prog 40 #[.pointer (some ⟨b, 0, none⟩), .func (.func K) #[] caps] w fun e w' => e = .returned (.tuple #[]) ∧ DrumAt w' b sb cap (.slice none 0 0) { D with sure := keepN p D.loose D.sure D.loose.length, loose := [] } ∧ Mod (fun i => i = b ∨ i = sb) w w' := by
  obtain ⟨a, cp, hlv⟩ : ∃ a cp, lv = .slice a D.loose.length cp := by
    rcases h.loose.2 with ⟨e, h0⟩ | ⟨g, cp, cur, e, _⟩
    · exact ⟨none, 0, by rw [e, h0]⟩
    · exact ⟨_, cp, e⟩
  have c1 := h.cell.cells.2.1
  rw [hlv] at c1
  have ha : 0 < D.loose.length → ∃ g, a = some ⟨g, 0, none⟩ := fun h0 => by
    obtain ⟨g, c', e, _⟩ := h.loose.form h0
    rw [hlv] at e; injection e with e; exact ⟨g, e⟩
  have HA := Lib.hid ha
  have H := Lib.hid h
  have HCL := Lib.hid hcl
  obtain ⟨n, hnn⟩ : ∃ n, n = D.loose.length := ⟨_, rfl⟩
  rw [← hnn] at c1 hn
  have HN := Lib.hid hnn
  have HLV := Lib.hid hlv
  clear h hlv hcl hnn ha
  go_enter Tryd.func40, Tryd.ntmps40
  go_wp2_with fail
  go_loopw [11] (fun i wr => ∃ k : Nat, k ≤ n ∧ i = .int .i64 (k : Int) ∧ Kept w b sb cap lv D p k wr) (fun i _ => n - (intOf i).toNat)
  case atStart => exact ⟨0, Nat.zero_le _, rfl, H.out, Mod.refl _ _⟩
  case round =>
    obtain ⟨k, hk, rfl, hkept⟩ := hrel
    have HKE := Lib.hid hkept
    clear hkept
    by_cases hlt : k < n
    · obtain ⟨g, rfl⟩ := HA.out (by have := HN.out; omega)
      obtain ⟨q, hq⟩ : ∃ q, D.loose[k]? = some q := ⟨_, List.getElem?_eq_getElem (by have := HN.out; omega)⟩
      have hDk : DrumAt wr b sb cap (.slice (some ⟨g, 0, none⟩) D.loose.length cp) (D.kept p k) := by rw [← HLV.out]; exact HKE.out.1
      have hld : wr.rangeAt g (k * 65) (looseCell q) := hDk.loose_at hq
      have hq2 := hDk.wloose q (List.mem_of_getElem? hq)
      have hql := looseCell_len q hq2.1
      have hqz : (Tryd.prog.info? 100).map (·.size) = some (looseCell q).length := by rw [hql]; exact info_looseb
      have hqz2 : (Tryd.prog.info? 100).map (·.size) = some (looseCell q).toArray.size := by simpa using hqz
      have hq1 : (looseCell q).toArray.all (·.oneCell') = true := all_oneCell_toArray (loose_one q.2 q.1)
      have hzq : Tryd.zeroCells100.size = (looseCell q).toArray.size := by rw [zero_loose]; simp [hql]
      have HLD := Lib.hid hld
      have HDK := Lib.hid hDk
      have HQ := Lib.hid hq
      have HQ2 := Lib.hid hq2
      have HQL := Lib.hid hql
      have HQZ := Lib.hid hqz
      have HQZ2 := Lib.hid hqz2
      have HQ1 := Lib.hid hq1
      have HZQ := Lib.hid hzq
      clear hld hDk hq hq2 hql hqz hqz2 hq1 hzq
      go_wp2_with (first
        | (refine wpList_load_mid rfl 100 _ rfl g (k * 65) rfl (looseCell q) _ HLD.out Tryd.underlying100 rfl HQZ.out ?_)
        | (refine wpList_store_row rfl 100 _ _ rfl wr.heap.size (looseCell q).toArray rfl rfl 100 _ (heap_alloc_last _ _) HQZ2.out HZQ.out HQ1.out ?_; rw [World.setRow_alloc_new]))
      obtain ⟨gq, hgq⟩ : ∃ gq : Nat, gq = wr.heap.size := ⟨_, rfl⟩
      obtain ⟨wx, hwx⟩ : ∃ wx : World, wx = wr.alloc (.cells (looseCell q).toArray 100) := ⟨_, rfl⟩
      have hm1 : Mod (fun _ => False) wr wx := by rw [hwx]; exact Mod.of_below (NewMem.alloc _ _)
      have hX : DrumAt wx b sb cap (.slice (some ⟨g, 0, none⟩) D.loose.length cp) (D.kept p k) := HDK.out.kept hm1 (fun _ _ => id)
      have hXq : wx.heap[gq]? = some (.cells (looseCell q).toArray 100 (0, 0)) := by rw [hwx, hgq]; exact heap_alloc_last _ _
      have hmw : Mod (fun i => i = sb) w wx := HKE.out.2.trans hm1 (fun _ e => e.elim)
      rw [← hwx, ← hgq]
      have hc := HCL.out wx k (by have := HN.out; omega) hmw
      have HX := Lib.hid hX
      have HXQ := Lib.hid hXq
      have HMW := Lib.hid hmw
      have HM1 := Lib.hid hm1
      clear hX hXq hmw hgq hwx hm1
      refine hc.mono ?_
      clear hc
      rintro e w' ⟨rfl, rfl⟩
      cases hp : p k with
      | false =>
        have HP := Lib.hid hp
        clear hp
        go_wp2_with fail
        go_roundw
        case rel =>
          refine ⟨k + 1, by omega, by go_num, ?_⟩
          unfold Kept
          rw [DS.kept_no HQ.out HP.out, HLV.out]
          exact ⟨HX.out, HMW.out⟩
        case measure => simp [intOf]; omega
      | true =>
        have HP := Lib.hid hp
        clear hp
        go_wp2_with fail
        refine' wp_region_facts (S := (fun W => W = wx.drew)) (R := (fun a b => a = b)) [eqF _ _, eqF _ _, eqF _ _, eqF _ (.slice (some ⟨sb, 0, none⟩) D.sure.length cap), eqF _ _, eqF _ (.int .i64 (q.1 : Int)), eqF _ _, eqF _ (.agg (secCells q.2).toArray), eqF _ (.pointer (some ⟨sb, q.1 * 64, none⟩))] (by kernel_rfl) (by kernel_rfl) ?hS ?h0 (Ord.steps_cons ?s0 (Ord.steps_cons ?s1 (Ord.steps_cons ?s2 (Ord.steps_cons ?s3 (Ord.steps_cons ?s4 (Ord.steps_cons ?s5 (Ord.steps_cons ?s6 (Ord.steps_cons ?s7 (Ord.steps_cons ?s8 (Ord.steps_nil)))))))))) ?fin
        case s0 =>
          intro g W hSW hd
          try simp only [Nat.zero_add, Nat.reduceAdd] at hd ⊢
          with_reducible refine OpGives.pre_reads [] 32 ?_ ?_ ?_
          · rfl
          · kernel_rfl
          simp only [List.map_cons, List.map_nil]
          refine OpGives.val (w' := W) ?_ ⟨rfl, rfl⟩
          go_simp
          try with_reducible rfl
        case s1 =>
          intro g W hSW hd
          try simp only [Nat.zero_add, Nat.reduceAdd] at hd ⊢
          have h0 : g 0 = _ := hd 0 (by decide) (by kernel_rfl)
          with_reducible refine OpGives.pre_reads [(19, 0)] 32 ?_ ?_ ?_
          · rfl
          · kernel_rfl
          simp only [List.map_cons, List.map_nil]
          refine OpGives.val (w' := W) ?_ ⟨rfl, rfl⟩
          go_simp
          try with_reducible rfl
        case s2 =>
          intro g W hSW hd
          try simp only [Nat.zero_add, Nat.reduceAdd] at hd ⊢
          have h1 : g 1 = _ := hd 1 (by decide) (by kernel_rfl)
          with_reducible refine OpGives.pre_reads [(20, 1)] 32 ?_ ?_ ?_
          · rfl
          · kernel_rfl
          simp only [List.map_cons, List.map_nil]
          refine OpGives.val (w' := W) ?_ ⟨rfl, rfl⟩
          go_simp
          try with_reducible rfl
        case s3 =>
          intro g W hSW hd
          try simp only [Nat.zero_add, Nat.reduceAdd] at hd ⊢
          have h2 : g 2 = _ := hd 2 (by decide) (by kernel_rfl)
          with_reducible refine OpGives.pre_reads [(21, 2)] 32 ?_ ?_ ?_
          · rfl
          · kernel_rfl
          simp only [List.map_cons, List.map_nil]
          subst hSW; have c0 : wx.cell? ⟨b, 0, none⟩ = some (.slice (some ⟨sb, 0, none⟩) D.sure.length cap) := by {have := HX.out.cell.cells.1; rwa [DS.kept_len] at this}; refine OpGives.val (w' := wx.drew) ?_ ⟨rfl, rfl⟩; go_simp
        case s4 =>
          intro g W hSW hd
          try simp only [Nat.zero_add, Nat.reduceAdd] at hd ⊢
          with_reducible refine OpGives.pre_reads [] 32 ?_ ?_ ?_
          · rfl
          · kernel_rfl
          simp only [List.map_cons, List.map_nil]
          refine OpGives.val (w' := W) ?_ ⟨rfl, rfl⟩
          go_simp
          try with_reducible rfl
        case s5 =>
          intro g W hSW hd
          try simp only [Nat.zero_add, Nat.reduceAdd] at hd ⊢
          have h4 : g 4 = _ := hd 4 (by decide) (by kernel_rfl)
          with_reducible refine OpGives.pre_reads [(23, 4)] 32 ?_ ?_ ?_
          · rfl
          · kernel_rfl
          simp only [List.map_cons, List.map_nil]
          subst hSW; have c0 : wx.cell? ⟨gq, 64, none⟩ = some (.int .i64 (q.1 : Int)) := by {rw [cell_of_row _ _ _ _ _ _ HXQ.out]; simp [looseCell, secCells_len, HQ2.out.1]}; refine OpGives.val (w' := wx.drew) ?_ ⟨rfl, rfl⟩; go_simp
        case s6 =>
          intro g W hSW hd
          try simp only [Nat.zero_add, Nat.reduceAdd] at hd ⊢
          with_reducible refine OpGives.pre_reads [] 32 ?_ ?_ ?_
          · rfl
          · kernel_rfl
          simp only [List.map_cons, List.map_nil]
          refine OpGives.val (w' := W) ?_ ⟨rfl, rfl⟩
          go_simp
          try with_reducible rfl
        case s7 =>
          intro g W hSW hd
          try simp only [Nat.zero_add, Nat.reduceAdd] at hd ⊢
          have h6 : g 6 = _ := hd 6 (by decide) (by kernel_rfl)
          with_reducible refine OpGives.pre_reads [(25, 6)] 32 ?_ ?_ ?_
          · rfl
          · kernel_rfl
          simp only [List.map_cons, List.map_nil]
          subst hSW; refine OpGives.val (w' := wx.drew) (exec_load_mid 97 _ rfl gq 0 ?_ (secCells q.2) _ (range_of_block HXQ.out ?_) Tryd.underlying97 rfl ?_) ⟨rfl, rfl⟩; (rw [h6]; simp [rdl_cons]); (simp [looseCell]); (rw [secCells_len, HQ2.out.1]; exact info_secb)
        case s8 =>
          intro g W hSW hd
          try simp only [Nat.zero_add, Nat.reduceAdd] at hd ⊢
          have h3 : g 3 = _ := hd 3 (by decide) (by kernel_rfl)
          have h5 : g 5 = _ := hd 5 (by decide) (by kernel_rfl)
          with_reducible refine OpGives.pre_reads [(22, 3), (24, 5)] 32 ?_ ?_ ?_
          · rfl
          · kernel_rfl
          simp only [List.map_cons, List.map_nil]
          have hb : q.1 < D.sure.length := by {have := HQ2.out.2; rwa [DS.kept_len] at this}; refine OpGives.val (w' := W) ?_ ⟨rfl, rfl⟩; go_simp
        case hS => rintro a c h rfl; exact h
        case h0 => rfl
        case fin =>
          intro v W hSW hf
          subst hSW
          have h7 : v 7 = _ := hf 7 (Nat.lt_of_lt_of_eq (by decide : 7 < 9) rfl)
          have h8 : v 8 = _ := hf 8 (Nat.lt_of_lt_of_eq (by decide : 8 < 9) rfl)
          clear hf
          generalize hF : Ord.pre _ _ v _ = F
          rw [Ord.pre_lit [some 19, some 20, some 21, some 22, some 23, some 24, some 25, some 26, some 27]
            (by kernel_rfl)] at hF
          simp only [Ord.puts, Nat.zero_add, Nat.reduceAdd] at hF
          subst hF
          rw [h7, h8]
          have hkq : q.1 < (D.kept p k).sure.length := HQ2.out.2
          have hput := HX.out.put hkq HQ2.out.1
          have hput' : DrumAt (wx.drew.setCells sb (q.1 * 64) (secCells q.2)) b sb cap (.slice (some ⟨g, 0, none⟩) D.loose.length cp) (D.kept p (k + 1)) := by
            rw [DS.kept_yes HQ.out HP.out]
            exact (HX.out.kept (F := fun _ => False) (Mod.drew (Mod.refl _ _)) (fun _ _ => id)).put hkq HQ2.out.1
          have hth : wx.drew.there sb (q.1 * 64) (secCells q.2).toArray.size := by
            have := (HX.out.kept (F := fun _ => False) (Mod.drew (Mod.refl _ _)) (fun _ _ => id)).sure_there hkq
            simpa [secCells_len, HQ2.out.1] using this
          have hsz : (Tryd.prog.info? 97).map (·.size) = some (secCells q.2).toArray.size := by
            rw [List.size_toArray, secCells_len, HQ2.out.1]; exact info_secb
          have hmW : Mod (fun i => i = sb) w (wx.drew.setCells sb (q.1 * 64) (secCells q.2)) := (Mod.drew HMW.out).trans (Mod.setCells (F := fun i => i = sb) _ _ _ _ rfl) (fun _ e => .inl e)
          refine any_one (i := 9) (by kernel_rfl) ?_
          refine wpOp_skip (w' := wx.drew.setCells sb (q.1 * 64) (secCells q.2)) rfl rfl ?_ ?_
          · refine exec_store_mid 97 (.tmp 27) (.tmp 26) (by rfl) sb (q.1 * 64) (secCells q.2).toArray ?_ ?_ hth hsz (secCells_one _)
            · go_simp
            · go_simp
          refine wpAny_done (by kernel_rfl) ?_ _
          simp only [List.getElem_toArray, List.getElem_cons_succ, List.getElem_cons_zero]
          go_frame
          have HPU := Lib.hid hput'
          have HMW2 := Lib.hid hmW
          clear hput hput' hth hsz hmW h7 h8
          generalize wx.drew.setCells sb (q.1 * 64) (secCells q.2) = wy at *
          go_wp2_with fail
          go_roundw
          case rel => exact ⟨k + 1, by omega, by go_num, by rw [HLV.out]; exact HPU.out, HMW2.out⟩
          case measure => simp [intOf]; omega
    · have hD : DrumAt wr b sb cap lv (D.kept p k) := HKE.out.1
      have c1 := hD.cell.cells.2.1
      have f1 := hD.cell.free 1
      have HD := Lib.hid hD
      clear hD
      have hkn : k = D.loose.length := by have := HN.out; omega
      have HKN := Lib.hid hkn
      clear hkn
      go_wp2_with fail
      go_end0
      have hm : Mod (fun i => i = b) wr (wr.setCell ⟨b, 1, none⟩ (.slice none 0 0)) := Mod.setCell _ _ _ rfl
      refine ⟨rfl, ?_, (HKE.out.2.mono (fun _ e => Or.inr e)).trans hm (fun _ e => .inl (.inl e))⟩
      rw [← HKN.out]
      have hd := HD.out
      exact ⟨hd.cell.set1 _, ownsRow_mod hd.sure hm (fun k hk e => hd.ne (by subst e; simpa [Value.ownBlock] using hk.symm)), World.ownsRow_nil _ _ _ _, hd.ne, by simp [Value.ownBlock], by simp [Value.ownBlock], hd.pos, hd.few, hd.wsure, fun q hq => by cases hq⟩
end Go.Proofs.YteljihpheffjnaaDoor.Drum
/- slices.Contains of numbers; Settle, Crash. -/
namespace Go.Proofs.YteljihpheffjnaaDoor.Drum
open Go.RowKit Go.Proofs.YteljihpheffjnaaDoor.Ord Go.Proofs.YteljihpheffjnaaDoorW.PrintWords Go.Proofs.YteljihpheffjnaaDoor.Base
set_option linter.unusedVariables false

/-- The numbers of a slice. -/
def IntsAt (w : World) (a : Option Addr) (n : Nat) (zs : List Int) : Prop :=
  zs.length = n ∧ n ≤ 1000000 ∧ (0 < n → ∃ ad : Addr, a = some ad ∧ ∀ j z, zs[j]? = some z → w.cell? (ad.add j) = some (.int .i64 z))
theorem ret_int {k : IntKind} {a b : Int} (h : a = b) : Ending.returned (.int k a) = .returned (.int k b) := by rw [h]
def firstOf (zs : List Int) (v : Int) (k : Nat) : Prop := ∀ j z, j < k → zs[j]? = some z → z ≠ v
def IndexEnd (zs : List Int) (v : Int) (w : World) (e : Ending) (w' : World) : Prop := ∃ r : Int, e = .returned (.int .i64 r) ∧ w = w' ∧ decide (0 ≤ r) = zs.contains v
set_option maxHeartbeats 4000000 in
theorem index_at (a : Option Addr) (n cap : Nat) (zs : List Int) (v : Int) (w : World) (h : IntsAt w a n zs) :
    Calls Tryd.prog 63 #[.slice a n cap, .int .i64 v] w (IndexEnd zs v w) := by
  obtain ⟨hl, hm, hc⟩ := h
  have HL := Lib.hid hl
  have HC := Lib.hid hc
  clear hl hc
  go_enter Tryd.func63, Tryd.ntmps63
  go_wp2_with fail
  go_loop [8] (fun i => ∃ k : Nat, k ≤ n ∧ i = .int .i64 (k : Int) ∧ Hid (firstOf zs v k)) (fun i => n - (intOf i).toNat)
  case atStart => exact ⟨0, Nat.zero_le _, rfl, Lib.hid (fun j z hj => absurd hj (by omega))⟩
  case round =>
    obtain ⟨k, hk, rfl, hf⟩ := hrel
    by_cases hlt : k < n
    · obtain ⟨ad, rfl, hcells⟩ := HC.out (by omega)
      obtain ⟨z, hz⟩ : ∃ z, zs[k]? = some z := ⟨_, List.getElem?_eq_getElem (by have := HL.out; omega)⟩
      have hcell := hcells k z hz
      have HZ := Lib.hid hz
      clear hcells hz
      by_cases hv : v = z
      · subst hv
        go_wp2_with fail
        go_ret
        refine ⟨(k : Int), rfl, rfl, ?_⟩
        rw [decide_eq_true (by omega)]
        exact (List.contains_iff_mem.2 (List.mem_of_getElem? HZ.out)).symm
      · go_wp2_with fail
        go_round
        case rel =>
          refine ⟨k + 1, by omega, by go_num, Lib.hid (fun j y hj hy => ?_)⟩
          by_cases e : j = k
          · subst e
            rw [HZ.out] at hy; injection hy with hy; rw [← hy]; exact fun e => hv e.symm
          · exact hf.out j y (by omega) hy
        case measure => simp [intOf]; omega
    · go_wp2_with fail
      go_ret
      refine ⟨-1, rfl, rfl, ?_⟩
      rw [decide_eq_false (by omega)]
      symm
      rw [Bool.eq_false_iff]
      intro hc
      obtain ⟨j, hj⟩ := List.getElem?_of_mem (List.contains_iff_mem.1 hc)
      exact hf.out j v (by have := (List.getElem?_eq_some_iff.1 hj).1; have := HL.out; omega) hj rfl
set_option maxHeartbeats 4000000 in
theorem contains_at (a : Option Addr) (n cap : Nat) (zs : List Int) (v : Int) (w : World) (h : IntsAt w a n zs) :
    Calls Tryd.prog 42 #[.slice a n cap, .int .i64 v] w fun e w' => e = .returned (.bool (zs.contains v)) ∧ w = w' := by
  have hc := index_at a n cap zs v w h
  have HC := Lib.hid hc
  clear h hc
  obtain ⟨t, ht⟩ : ∃ t, t = zs.contains v := ⟨_, rfl⟩
  rw [← ht]
  go_enter Tryd.func42, Tryd.ntmps42
  go_wp2_with fail
  refine HC.out.mono ?_
  rintro e w' ⟨r, rfl, rfl, hr⟩
  rw [← ht] at hr
  clear ht
  subst hr
  go_wp2_with fail
  go_ret
  exact ⟨rfl, rfl⟩
/-- Crash's look: was this loose write kept? -/
theorem looks_at (bk : Nat) (a : Option Addr) (n cap : Nat) (zs : List Int) (k : Nat) (w : World) (hb : w.cell? ⟨bk, 0, none⟩ = some (.slice a n cap)) (h : IntsAt w a n zs) :
    Calls Tryd.prog 41 (#[.int .i64 (k : Int)] ++ #[.pointer (some ⟨bk, 0, none⟩)]) w fun e w' => e = .returned (.bool (zs.contains (k : Int))) ∧ w = w' := by
  have hc := contains_at a n cap zs (k : Int) w h
  generalize zs.contains (k : Int) = t at *
  have HC := Lib.hid hc
  clear hc h
  show Calls Tryd.prog _ #[.int .i64 (k : Int), .pointer (some ⟨bk, 0, none⟩)] _ _
  go_enter Tryd.func41, Tryd.ntmps41
  go_wp2_with fail
  refine HC.out.mono ?_
  rintro e w' ⟨rfl, rfl⟩
  go_wp2_with fail
  go_ret
  exact ⟨rfl, rfl⟩
theorem always_at (k : Nat) (w : World) : Calls Tryd.prog 62 (#[.int .i64 (k : Int)] ++ #[]) w fun e w' => e = .returned (.bool true) ∧ w = w' := by
  show Calls Tryd.prog _ #[.int .i64 (k : Int)] _ _
  go_enter Tryd.func62, Tryd.ntmps62
  go_wp2_with fail
  go_ret
  exact ⟨rfl, rfl⟩
theorem enters_look : ∀ args W, (callFunc 41 args).run Tryd.prog W = .ok (.enter 41 args) W := by
  intro args W
  have hf := Tryd.func41
  simp [callFunc, hf, mark, Tryd.f41]
theorem enters_always : ∀ args W, (callFunc 62 args).run Tryd.prog W = .ok (.enter 62 args) W := by
  intro args W
  have hf := Tryd.func62
  simp [callFunc, hf, mark, Tryd.f62]

def DS.settle (D : DS) : Int × DS := if D.burn.1 = 0 then (0, { D.burn.2 with sure := keepN (fun _ => true) D.loose D.sure D.loose.length, loose := [] }) else D.burn
def DS.crash (D : DS) (zs : List Int) : DS := { sure := keepN (fun k => zs.contains (k : Int)) D.loose D.sure D.loose.length, loose := [], armed := false, left := 0, down := false }
set_option maxHeartbeats 4000000 in
theorem settle_at (b sb cap : Nat) (lv : Value) (D : DS) (w : World) (h : DrumAt w b sb cap lv D) (hn : D.loose.length ≤ 1000000) :
    Calls Tryd.prog 36 #[.pointer (some ⟨b, 0, none⟩)] w fun e w' => Did w b sb cap lv D.settle e w' := by
  have c0 := h.cell.cells.1
  have cm : Calls Tryd.prog 39 #[.pointer (some ⟨b, 0, none⟩)] w fun e w' => e = .returned (.bool true) ∧ w = w' := by
    have := made_of b _ _ _ w c0
    rwa [decide_eq_true h.pos] at this
  have CM := Lib.hid cm
  have CB := Lib.hid (burn_at b _ _ _ _ _ w h.cell)
  have H := Lib.hid h
  clear h cm c0
  unfold DS.settle
  by_cases hb0 : D.burn.1 = 0
  · rw [if_pos hb0]
    have hb0' : (burns D.armed D.left D.down).1 = 0 := hb0
    have HB0 := Lib.hid hb0'
    clear hb0 hb0'
    go_enter Tryd.func36, Tryd.ntmps36
    go_wp2_with fail
    refine CM.out.mono ?_
    rintro e w' ⟨rfl, rfl⟩
    go_wp2_with fail
    refine CB.out.mono ?_
    rintro e w1 ⟨rfl, hc1, hm1⟩
    rw [HB0.out]
    have hd1 := H.out.burnt hc1 hm1
    have ck := keep_at b sb cap lv D.burn.2 62 #[] (fun _ => true) w1 hd1 hn enters_always (fun W k _ _ => always_at k W)
    have CK := Lib.hid ck
    have HM1 := Lib.hid hm1
    clear hd1 ck hc1 hm1
    go_wp2_with fail
    refine CK.out.mono ?_
    rintro e w2 ⟨rfl, hd2, hm2⟩
    have HD := Lib.hid (show Did w b sb cap lv (0, { D.burn.2 with sure := keepN (fun _ => true) D.loose D.sure D.loose.length, loose := [] }) (.returned (.int .i64 0)) w2 from
      ⟨.slice none 0 0, rfl, hd2, fun _ h => by simp [Value.ownBlock] at h, (HM1.out.mono (fun _ e => Or.inl e)).trans hm2 (fun _ e => .inl (by rcases e with e | e; exact .inl e; exact .inr (.inl e)))⟩)
    clear hd2 hm2
    go_wp2_with fail
    go_ret
    exact HD.out
  · rw [if_neg hb0]
    have hb0' : (burns D.armed D.left D.down).1 ≠ 0 := hb0
    have hbd : ((burns D.armed D.left D.down).1 == 0) = false := by simpa using hb0'
    go_enter Tryd.func36, Tryd.ntmps36
    go_wp2_with fail
    refine CM.out.mono ?_
    rintro e w' ⟨rfl, rfl⟩
    go_wp2_with fail
    refine CB.out.mono ?_
    rintro e w1 ⟨rfl, hc1, hm1⟩
    have HD := Lib.hid (show Did w b sb cap lv D.burn (.returned (.int .i64 (burns D.armed D.left D.down).1)) w1 from ⟨lv, rfl, H.out.burnt hc1 hm1, fun _ h => .inl h, hm1.mono (fun _ e => .inl e)⟩)
    clear hc1 hm1
    go_wp2
    go_ret
    exact HD.out
theorem IntsAt.kept {F : Nat → Prop} {w w' : World} {a : Option Addr} {n : Nat} {zs : List Int} (h : IntsAt w a n zs) (hm : Mod F w w') (hF : 0 < n → ∀ ad, a = some ad → ¬ F ad.block) : IntsAt w' a n zs := by
  obtain ⟨h1, h2, h3⟩ := h
  refine ⟨h1, h2, fun h0 => ?_⟩
  obtain ⟨ad, e, hc⟩ := h3 h0
  refine ⟨ad, e, fun j z hz => ?_⟩
  have hb : (ad.add j).block = ad.block := by unfold Addr.add; split <;> rfl
  have := hc j z hz
  rw [World.cell?_of_block (hm.block (ad.add j).block (World.block_lt_of_cell? w _ this) (by rw [hb]; exact hF h0 ad e))]
  exact this
set_option maxHeartbeats 4000000 in
theorem crash_at (b sb cap : Nat) (lv : Value) (D : DS) (a : Option Addr) (n kc : Nat) (zs : List Int) (w : World) (h : DrumAt w b sb cap lv D) (hn : D.loose.length ≤ 1000000) (hz : IntsAt w a n zs) (ha : 0 < n → ∀ ad, a = some ad → ad.block ≠ sb) :
    Calls Tryd.prog 17 #[.pointer (some ⟨b, 0, none⟩), .slice a n kc] w fun e w' => Did w b sb cap lv (0, D.crash zs) e w' := by
  have hmf : ∀ (fn : Fn) (first cap : Array Value) (w : World), (Instr.makeFunc fn first cap).run Tryd.prog w = .ok (.func fn first cap) w := fun _ _ _ _ => rfl
  obtain ⟨bk, hbk⟩ : ∃ bk, bk = w.heap.size := ⟨_, rfl⟩
  obtain ⟨w1, hw1⟩ : ∃ w1, w1 = w.alloc (.cells #[.slice a n kc] 53) := ⟨_, rfl⟩
  have hm1 : Mod (fun _ => False) w w1 := by rw [hw1]; exact Mod.of_below (NewMem.alloc _ _)
  have h1 := h.kept hm1 (fun _ _ => id)
  have hz1 := hz.kept hm1 (fun _ _ _ => id)
  have hc1 : w1.heap[bk]? = some (.cells #[.slice a n kc] 53 (0, 0)) := by rw [hw1, hbk]; exact heap_alloc_last _ _
  have hbs : bk ≠ sb := by have := (h.sure.lt sb rfl).2; omega
  have cm : Calls Tryd.prog 39 #[.pointer (some ⟨b, 0, none⟩)] w1 fun e w' => e = .returned (.bool true) ∧ w1 = w' := by
    have := made_of b _ _ _ w1 h1.cell.cells.1
    rwa [decide_eq_true h.pos] at this
  have ck := keep_at b sb cap lv D 41 #[.pointer (some ⟨bk, 0, none⟩)] (fun k => zs.contains (k : Int)) w1 h1 hn enters_look (fun W k _ hm => looks_at bk a n kc zs k W (by
    have := (hm.block bk (Array.getElem?_eq_some_iff.1 hc1).1 hbs).trans hc1
    simp [World.cell?, this]) (hz1.kept hm ha))
  have HM1 := Lib.hid hm1
  have CM := Lib.hid cm
  have CK := Lib.hid ck
  have HW1 := Lib.hid hw1
  have HBK := Lib.hid hbk
  clear hm1 h1 hz1 hc1 hbs cm ck hw1 hbk h hz ha
  go_enter Tryd.func17, Tryd.ntmps17
  go_wp2_with fail
  rw [← HW1.out, ← HBK.out]
  refine CM.out.mono ?_
  rintro e w' ⟨rfl, rfl⟩
  go_wp2_with fail
  refine CK.out.mono ?_
  rintro e w2 ⟨rfl, hd2, hm2⟩
  have hd3 := hd2.cell
  have f2 := hd3.free 2
  have f3 := hd3.free 3
  have f4 := hd3.free 4
  obtain ⟨_, _, c2, c3, c4⟩ := hd3.cells
  have HD2 := Lib.hid hd2
  have HM2 := Lib.hid hm2
  clear hd2 hm2 hd3
  go_wp2_with fail
  go_ret
  have hd := HD2.out
  have m2 : Mod (fun i => i = b) w2 (((w2.setCell ⟨b, 2, none⟩ (.bool false)).setCell ⟨b, 3, none⟩ (.int .i64 0)).setCell ⟨b, 4, none⟩ (.bool false)) :=
    Mod.trans (F := fun i => i = b) (G := fun i => i = b) (Mod.trans (F := fun i => i = b) (G := fun i => i = b) (Mod.setCell _ _ _ rfl) (Mod.setCell _ _ _ rfl) (fun _ e => .inl e)) (Mod.setCell _ _ _ rfl) (fun _ e => .inl e)
  refine ⟨.slice none 0 0, rfl, ⟨((hd.cell.set2 false).set3 0).set4 false, ownsRow_mod hd.sure m2 (fun k hk e => hd.ne (by subst e; simpa [Value.ownBlock] using hk.symm)), World.ownsRow_nil _ _ _ _, hd.ne, hd.nel, hd.nes, hd.pos, hd.few, hd.wsure, hd.wloose⟩, fun _ h => by simp [Value.ownBlock] at h, ?_⟩
  have h1 : Mod (foot b sb lv) w w1 := HM1.out.mono (fun _ e => e.elim)
  have h2 : Mod (foot b sb lv) w w2 := h1.trans HM2.out (fun _ e => .inl (by rcases e with e | e; exact .inl e; exact .inr (.inl e)))
  exact h2.trans m2 (fun _ e => .inl (.inl e))
end Go.Proofs.YteljihpheffjnaaDoor.Drum
/- The drum: Sure; the library's iterator that goes backward over loose writes. -/
namespace Go.Proofs.YteljihpheffjnaaDoor.Drum
open Go.RowKit Go.Proofs.YteljihpheffjnaaDoor.Ord Go.Proofs.YteljihpheffjnaaDoorW.PrintWords Go.Proofs.YteljihpheffjnaaDoor.Base
open Go.Shelf
set_option linter.unusedVariables false
attribute [local go_sem] Oper.semAt_some

def DS.sureText (D : DS) (i : Int) : List UInt8 := if 0 ≤ i ∧ i < (D.sure.length : Int) then D.sure.getD i.toNat [] else []

section
variable {F : Fence} {n : Nat} {P : Program} {ops : Array Oper} {Q : Exit → Act → World → Prop} {a : Act} {w w' : World} {rest : List Oper} {o : Oper} {v : Value}
theorem wpListIn_value (hg : o.guard = none) (hd : ∀ c, o.op ≠ .defer c) (ha : o.about P w a.eval = none) (hr : (execOp a.eval o).run P w = .ok (.value v) w') (h : wpListIn F n P ops Q rest (a.put o.dst v) w') : wpListIn F n P ops Q (o :: rest) a w := by
  refine wpListIn_plain hg fun K hK' => ?_
  unfold Oper.wpIn
  refine ⟨(fun f hf => by rw [ha] at hf; cases hf), ?_⟩
  rw [Oper.semAt_plain F _ _ hd, hr]
  simp [go_sem]
  exact hK' _ _ h
theorem wpListIn_skipped (hg : o.guard = none) (hd : ∀ c, o.op ≠ .defer c) (ha : o.about P w a.eval = none) (hr : (execOp a.eval o).run P w = .ok .skip w') (h : wpListIn F n P ops Q rest (a.put o.dst undef) w') : wpListIn F n P ops Q (o :: rest) a w := by
  refine wpListIn_plain hg fun K hK' => ?_
  unfold Oper.wpIn
  refine ⟨(fun f hf => by rw [ha] at hf; cases hf), ?_⟩
  rw [Oper.semAt_plain F _ _ hd, hr]
  simp [go_sem]
  exact hK' _ _ h
end

/-- A loose write of 64 bytes. -/
abbrev LE := { q : Nat × List UInt8 // q.2.length = 64 }
def LE.zero : LE := ⟨(0, List.replicate 64 0), by simp⟩
/-- What has come when k rounds are over: from the last one on. -/
def comes (les : List LE) (k : Nat) : List (Nat × LE) := (List.range k).map fun j => (les.length - 1 - j, les.getD (les.length - 1 - j) LE.zero)
theorem comes_succ (les : List LE) (k : Nat) : comes les (k + 1) = comes les k ++ [(les.length - 1 - k, les.getD (les.length - 1 - k) LE.zero)] := by simp [comes, List.range_succ]
theorem comes_len (les : List LE) (k : Nat) : (comes les k).length = k := by simp [comes]
def encLE (x : Nat × LE) : Array Value := #[.int .i64 (x.1 : Int), .agg (looseCell x.2.1).toArray]
/-- A counter that ends at -1. -/
def down : Nat → Int
  | 0 => -1
  | j + 1 => (j : Int)

set_option maxRecDepth 100000 in
set_option maxHeartbeats 4000000 in
theorem back1_in (F : Fence) (n : Nat) (hf : F.fn 79) (hro : F.round = none) (hn : 1 ≤ n) (l Bs n₀ g cap : Nat) (les : List LE) (hreach : les.length ≤ 1000000) (hb : g < n₀) (hBn : Bs < n₀) (J Jx : List (Nat × LE) → World → Prop)
    (hY : ∀ pre x W, J pre W → pre.length < les.length → YieldAt F (n - 1) Tryd.prog l (encLE x) W fun e W' =>
      (e = .returned (.bool true) ∧ J (pre ++ [x]) W' ∧ Below n₀ W W') ∨ (e = .returned (.bool false) ∧ Jx (pre ++ [x]) W'))
    (W : World) (hBs : W.cell? ⟨Bs, 0, none⟩ = some (.slice (some ⟨g, 0, none⟩) les.length cap)) (hc : ∀ j x, les[j]? = some x → W.rangeAt g (j * 65) (looseCell x.1)) (h0 : J [] W) :
    CallsIn F n Tryd.prog 79 #[.func (.yield l) #[] #[], .pointer (some ⟨Bs, 0, none⟩)] W fun e W' => (∃ v, e = .returned v) ∧
      ((∃ ys, ys = comes les les.length ∧ J ys W') ∨ (∃ pre, (∃ k, k ≤ les.length ∧ pre = comes les k) ∧ Jx pre W')) := by
  have HC := Lib.hid hc
  have HBS := Lib.hid hBs
  obtain ⟨N, hN⟩ : ∃ N, N = les.length := ⟨_, rfl⟩
  have HN := Lib.hid hN
  have HY := Lib.hid hY
  rw [← hN] at hBs hreach
  have hs : (down N) = (N : Int) - 1 := by cases N with
    | zero => rfl
    | succ N => simp only [down]; omega
  clear hc hY hN
  refine callsIn_of_wp Tryd.func79 rfl hf ?_ hro
  simp only [Tryd.ntmps79, List.size_toArray, List.length_cons, List.length_nil, Nat.reduceAdd, Nat.reduceSub, Array.replicate_succ, Array.replicate_zero, List.push_toArray, List.append_toArray, List.nil_append, List.cons_append]
  gi_wp2
  rw [← hs]
  have HS := Lib.hid hs
  clear hs
  gi_loopw [3] (fun i wr => ∃ m k : Nat, m + k = N ∧ i = .int .i64 (down m) ∧ J (comes les k) wr ∧ Below n₀ W wr)
    (fun i _ => (intOf i + 1).toNat)
  case atStart => exact ⟨N, 0, by omega, rfl, h0, Below.refl _ _⟩
  case round =>
    obtain ⟨m, k, hmk, rfl, hJs, hnx⟩ := hrel
    have hbs : wr.cell? ⟨Bs, 0, none⟩ = some (.slice (some ⟨g, 0, none⟩) N cap) := (hnx.cell (p := ⟨Bs, 0, none⟩) hBn).trans hBs
    cases m with
    | zero =>
      have hk : k = les.length := by have := HN.out; omega
      rw [show down 0 = -1 from rfl]
      gi_wp2
      go_end0
      exact ⟨⟨_, rfl⟩, .inl ⟨_, by rw [hk], hJs⟩⟩
    | succ j =>
      have hkl : j < les.length := by have := HN.out; omega
      have hx : les[j]? = some (les.getD j LE.zero) := by simp [List.getElem?_eq_getElem hkl]
      have hje : les.length - 1 - k = j := by have := HN.out; omega
      obtain ⟨x, hxd⟩ : ∃ x, x = les.getD j LE.zero := ⟨_, rfl⟩
      have hsucc : comes les (k + 1) = comes les k ++ [(j, x)] := by rw [comes_succ, hje, ← hxd]
      rw [← hxd] at hx
      have hld : wr.rangeAt g (j * 65) (looseCell x.1) := fun i v hv => (hnx.cell (p := ⟨g, j * 65 + i, none⟩) hb).trans (HC.out j x hx i v hv)
      have hqz : (Tryd.prog.info? 100).map (·.size) = some (looseCell x.1).length := by rw [looseCell_len _ x.2]; exact info_looseb
      obtain ⟨fn, tmps, assign, body, hy, hR⟩ := HY.out _ (j, x) wr hJs (by rw [comes_len]; have := HN.out; omega)
      unfold encLE at hy
      dsimp only at hy
      have HLD := Lib.hid hld
      have HQZ := Lib.hid hqz
      have HSC := Lib.hid hsucc
      have HJE := Lib.hid hje
      have hnn : j < N := by omega
      clear hld hqz hsucc hx hxd hje hkl
      rw [show down (j + 1) = (j : Int) from rfl]
      gi_wp2_with (refine wpListIn_value rfl (fun _ h => by cases h) rfl (exec_load_mid 100 _ rfl g (j * 65) rfl (looseCell x.1) _ HLD.out Tryd.underlying100 rfl HQZ.out) ?_)
      refine hR.mono ?_
      rintro e W3 (⟨rfl, hJ3, hk3⟩ | ⟨rfl, hJx3⟩)
      · gi_wp2
        have hdj : (j : Int) - 1 = down j := by
          cases j with
          | zero => rfl
          | succ j => simp only [down]; omega
        go_roundw
        case rel => exact ⟨j, k + 1, by omega, by rw [hdj], by rw [HSC.out]; exact hJ3, hnx.trans hk3⟩
        case measure => simp only [intOf]; omega
      · gi_wp2
        refine bodyPost_ret (results_none rfl _ _ _) rfl ?_
        exact ⟨⟨_, rfl⟩, .inr ⟨_, ⟨k + 1, by have := HN.out; omega, HSC.out.symm⟩, hJx3⟩⟩
set_option maxHeartbeats 4000000 in
theorem back1_nil_in (F : Fence) (n : Nat) (hf : F.fn 79) (hro : F.round = none) (l Bs : Nat) (J : List (Nat × LE) → World → Prop) (W : World) (hBs : W.cell? ⟨Bs, 0, none⟩ = some (.slice none 0 0)) (h0 : J [] W) :
    CallsIn F n Tryd.prog 79 #[.func (.yield l) #[] #[], .pointer (some ⟨Bs, 0, none⟩)] W fun e W' => (∃ v, e = .returned v) ∧ J [] W' := by
  refine callsIn_of_wp Tryd.func79 rfl hf ?_ hro
  simp only [Tryd.ntmps79, List.size_toArray, List.length_cons, List.length_nil, Nat.reduceAdd, Nat.reduceSub, Array.replicate_succ, Array.replicate_zero, List.push_toArray, List.append_toArray, List.nil_append, List.cons_append]
  gi_wp2
  gi_loopw [3] (fun i wr => i = .int .i64 (-1) ∧ J [] wr) (fun _ _ => 0)
  case atStart => exact ⟨rfl, h0⟩
  case round =>
    obtain ⟨rfl, hJs⟩ := hrel
    gi_wp2
    go_end0
    exact ⟨⟨_, rfl⟩, hJs⟩
set_option maxHeartbeats 4000000 in
theorem back_in (F : Fence) (n : Nat) (hf : F.fn 68) (hro : F.round = none) (a : Option Addr) (len cap : Nat) (w : World) :
    CallsIn F n Tryd.prog 68 #[.slice a len cap] w fun e w' => e = .returned (.func (.func 79) #[] #[.pointer (some ⟨w.heap.size, 0, none⟩)]) ∧ w' = w.alloc (.cells #[.slice a len cap] 71) := by
  refine callsIn_of_wp Tryd.func68 rfl hf ?_ hro
  simp only [Tryd.ntmps68, List.size_toArray, List.length_cons, List.length_nil, Nat.reduceAdd, Nat.reduceSub, Array.replicate_succ, Array.replicate_zero, List.push_toArray, List.append_toArray, List.nil_append, List.cons_append]
  gi_wp2
  go_ret
  exact ⟨rfl, rfl⟩
/-- A slice of loose writes in a block below n₀. -/
def LooseIn (n₀ : Nat) (W : World) (lv : Value) (les : List LE) : Prop :=
  (lv = .slice none 0 0 ∧ les = []) ∨ ∃ g cap, lv = .slice (some ⟨g, 0, none⟩) les.length cap ∧ g < n₀ ∧ ∀ j x, les[j]? = some x → W.rangeAt g (j * 65) (looseCell x.1)
theorem LooseIn.below {n₀ : Nat} {A B : World} (h : Below n₀ A B) {lv : Value} {les : List LE} : LooseIn n₀ A lv les → LooseIn n₀ B lv les
  | .inl e => .inl e
  | .inr ⟨g, cap, e, hb, hc⟩ => .inr ⟨g, cap, e, hb, fun j x hx i v hv => (h.cell (p := ⟨g, j * 65 + i, none⟩) hb).trans (hc j x hx i v hv)⟩
theorem back_stops (F : Fence) (n : Nat) (hf : F.fn 79) (hro : F.round = none) (hn : 1 ≤ n) (Bs n₀ : Nat) (lv : Value) (les : List LE) (hreach : les.length ≤ 1000000) (w : World) (hBs : Bs < n₀) (hn₀ : n₀ ≤ w.heap.size)
    (hc : w.cell? ⟨Bs, 0, none⟩ = some lv) (hI : LooseIn n₀ w lv les) :
    SeqStopsK F n Tryd.prog 79 #[.pointer (some ⟨Bs, 0, none⟩)] encLE (Below n₀) (fun ys => ys = comes les les.length)
      (fun pre => ∃ k, k ≤ les.length ∧ pre = comes les k) les.length w := fun l J Jx W hW _ _ hY h0 => by
  have hc' := (hW.cell (p := ⟨Bs, 0, none⟩) (Nat.lt_of_lt_of_le hBs hn₀)).trans hc
  rcases hI.below (hW.mono hn₀) with ⟨rfl, rfl⟩ | ⟨g, cap, rfl, hb, hcs⟩
  · exact (back1_nil_in F n hf hro l Bs J W hc' h0).mono fun e W' ⟨he, hj⟩ => ⟨he, .inl ⟨_, rfl, hj⟩⟩
  · exact back1_in F n hf hro hn l Bs n₀ g cap les hreach hb hBs J Jx hY W hc' hcs h0
end Go.Proofs.YteljihpheffjnaaDoor.Drum
/- The drum: Read. -/
namespace Go.Proofs.YteljihpheffjnaaDoor.Drum
open Go.RowKit Go.Proofs.YteljihpheffjnaaDoor.Ord Go.Proofs.YteljihpheffjnaaDoorW.PrintWords Go.Proofs.YteljihpheffjnaaDoor.Base
open Go.Shelf
set_option linter.unusedVariables false
set_option linter.unusedSimpArgs false
attribute [local go_sem] Oper.semAt_some rdl_const rdl_func rdl_global rdl_nil rdl_cons

theorem read_nil (i : Int) (w : World) : Calls Tryd.prog 51 #[.pointer none, .int .i64 i] w fun e w' => e = .returned (.tuple #[.string ByteArray.empty, .int .i64 1]) ∧ NewMem w w' := by
  refine (callsIn_wide (n := 3)).1 ?_
  refine callsIn_of_wp_marks Tryd.func51 rfl trivial ?_ rfl
  simp only [Tryd.ntmps51, List.size_toArray, List.length_cons, List.length_nil, Nat.reduceAdd, Nat.reduceSub, Array.replicate_succ, Array.replicate_zero, List.push_toArray, List.append_toArray, List.nil_append, List.cons_append]
  gi_wp2_with (refine ⟨trivial, ?_⟩; refine (callsIn_wide.2 (made_nil _)).mono ?_; rintro e w' ⟨rfl, rfl⟩)
  refine ⟨.tuple #[.string ByteArray.empty, .int .i64 1], by simp [results, Tryd.f51, go_sem]; rfl, rfl, ?_⟩
  exact ((NewMem.alloc _ _).trans (NewMem.alloc _ _)).trans (NewMem.alloc _ _)
theorem read_not (b : Nat) (a : Option Addr) (cap : Nat) (i : Int) (w : World) (h : w.cell? ⟨b, 0, none⟩ = some (.slice a 0 cap)) (hb : b < w.heap.size) :
    Calls Tryd.prog 51 #[.pointer (some ⟨b, 0, none⟩), .int .i64 i] w fun e w' => e = .returned (.tuple #[.string ByteArray.empty, .int .i64 1]) ∧ NewMem w w' := by
  have hn : NewMem w (((w.alloc (.cells #[.int .i64 i] 3)).alloc (.cells #[.string ByteArray.empty] 9)).alloc (.cells #[.int .i64 0] 25)) := ((NewMem.alloc _ _).trans (NewMem.alloc _ _)).trans (NewMem.alloc _ _)
  have h1 := (Below.cell hn (p := ⟨b, 0, none⟩) hb).trans h
  have cm := made_of b a 0 cap _ h1
  have CM := Lib.hid cm
  clear cm h1 hn
  refine (callsIn_wide (n := 3)).1 ?_
  refine callsIn_of_wp_marks Tryd.func51 rfl trivial ?_ rfl
  simp only [Tryd.ntmps51, List.size_toArray, List.length_cons, List.length_nil, Nat.reduceAdd, Nat.reduceSub, Array.replicate_succ, Array.replicate_zero, List.push_toArray, List.append_toArray, List.nil_append, List.cons_append]
  gi_wp2_with (refine ⟨trivial, ?_⟩; refine (callsIn_wide.2 CM.out).mono ?_; rintro e w' ⟨rfl, rfl⟩)
  refine ⟨.tuple #[.string ByteArray.empty, .int .i64 1], by simp [results, Tryd.f51, go_sem]; rfl, rfl, ?_⟩
  exact ((NewMem.alloc _ _).trans (NewMem.alloc _ _)).trans (NewMem.alloc _ _)

/-- A block that a loop's own turns leave alone. -/
theorem block_own {β : Type} (B : Nat) (cs : Array Value) (t : TypeId) (fr : Nat × Nat) (n : Nat) : OwnFrom n (fun (_ : β) W => W.heap[B]? = some (.cells cs t fr)) := fun s X Y row hs hg hrow =>
  (hg.block B (Array.getElem?_eq_some_iff.1 hs).1 (fun e => by
    obtain ⟨_, o, ho, hc⟩ := hrow B e.symm
    rw [show X.heap[B]? = _ from hs] at ho; cases ho; cases hc)).trans hs
theorem KeepsOthers.of_new {W W' : World} (h : NewMem W W') : KeepsOthers W W' := ⟨h.size, fun k o hk _ => (h.block k (Array.getElem?_eq_some_iff.1 hk).1).trans hk⟩
/-- The writes to a sector, from the last on. -/
theorem comes_find (les : List LE) (j : Nat) (k : Nat) (hk : k < les.length) (hne : ∀ p ∈ comes les k, p.2.1.1 ≠ j) (hx : (les.getD (les.length - 1 - k) LE.zero).1.1 = j) :
    (les.map Subtype.val).reverse.find? (fun q => q.1 == j) = some (les.getD (les.length - 1 - k) LE.zero).1 := by
  rw [List.find?_eq_some_iff_getElem]
  have hl : k < (les.map Subtype.val).reverse.length := by simpa using hk
  have hget : ∀ i (hi : i < (les.map Subtype.val).reverse.length), (les.map Subtype.val).reverse[i] = (les.getD (les.length - 1 - i) LE.zero).1 := fun i hi => by
    have h2 : i < les.length := by simpa using hi
    have h3 : les.length - 1 - i < les.length := by omega
    rw [List.getElem_reverse, List.getElem_map]
    simp [List.getD_eq_getElem?_getD, List.getElem?_eq_getElem h3]
  refine ⟨by rw [hx]; exact beq_self_eq_true j, k, hl, hget k hl, fun i hi => ?_⟩
  rw [hget i (by omega)]
  have := hne (les.length - 1 - i, les.getD (les.length - 1 - i) LE.zero) (by unfold comes; exact List.mem_map.2 ⟨i, List.mem_range.2 hi, rfl⟩)
  simpa using this
theorem comes_none (les : List LE) (j : Nat) (hne : ∀ p ∈ comes les les.length, p.2.1.1 ≠ j) : (les.map Subtype.val).reverse.find? (fun q => q.1 == j) = none := by
  rw [List.find?_eq_none]
  intro q hq
  rw [List.mem_reverse, List.mem_map] at hq
  obtain ⟨x, hx, rfl⟩ := hq
  obtain ⟨i, hi, rfl⟩ := List.getElem_of_mem hx
  have := hne (i, les[i]) (by
    unfold comes
    refine List.mem_map.2 ⟨les.length - 1 - i, List.mem_range.2 (by omega), ?_⟩
    have e : les.length - 1 - (les.length - 1 - i) = i := by omega
    rw [e]
    simp [List.getD_eq_getElem?_getD, List.getElem?_eq_getElem hi])
  simpa using this
theorem DrumAt.loose_in {w : World} {b sb cap n₀ : Nat} {lv : Value} {D : DS} {les : List LE} (h : DrumAt w b sb cap lv D) (hles : D.loose = les.map Subtype.val) (hn : w.heap.size ≤ n₀) : LooseIn n₀ w lv les := by
  rcases h.loose.2 with ⟨e, h0⟩ | ⟨g, cp, cur, e, _, hg, _⟩
  · exact .inl ⟨e, by have := congrArg List.length hles; simp [h0] at this; exact List.length_eq_zero_iff.1 this.symm⟩
  · subst e
    refine .inr ⟨g, cp, by rw [hles, List.length_map], Nat.lt_of_lt_of_le (Array.getElem?_eq_some_iff.1 hg).1 hn, fun j x hx => ?_⟩
    exact h.loose_at (q := x.1) (by rw [hles, List.getElem?_map, hx]; rfl)

def DS.shows (D : DS) (i : Nat) : List UInt8 := match D.loose.reverse.find? (fun q => q.1 == i) with
  | some q => q.2
  | none => D.sure.getD i []
def DS.read (D : DS) (i : Int) : List UInt8 × Int := if D.down then ([], 9) else if 0 ≤ i ∧ i < (D.sure.length : Int) then (D.shows i.toNat, 0) else ([], 6)
def w3of (w : World) (i : Int) : World := ((w.alloc (.cells #[.int .i64 i] 3)).alloc (.cells #[.string ByteArray.empty] 9)).alloc (.cells #[.int .i64 0] 25)
theorem w3of_new (w : World) (i : Int) : NewMem w (w3of w i) := ((NewMem.alloc _ _).trans (NewMem.alloc _ _)).trans (NewMem.alloc _ _)
set_option maxRecDepth 100000 in
set_option maxHeartbeats 8000000 in
theorem read_at (b sb cap : Nat) (lv : Value) (D : DS) (i : Int) (w : World) (h : DrumAt w b sb cap lv D) (hn : D.loose.length ≤ 1000000) :
    Calls Tryd.prog 51 #[.pointer (some ⟨b, 0, none⟩), .int .i64 i] w fun e w' => e = .returned (.tuple #[.string ⟨(D.read i).1.toArray⟩, .int .i64 (D.read i).2]) ∧ NewMem w w' := by
  have h3 : DrumAt (w3of w i) b sb cap lv D := h.kept (F := fun _ => False) (Mod.of_below (w3of_new w i)) (fun _ _ => id)
  have cm : Calls Tryd.prog 39 #[.pointer (some ⟨b, 0, none⟩)] (w3of w i) fun e w' => e = .returned (.bool true) ∧ w3of w i = w' := by
    have := made_of b _ _ _ _ h3.cell.cells.1
    rwa [decide_eq_true h.pos] at this
  have ch := has_of b _ _ _ i _ h3.cell.cells.1
  have hd4 := h3.cell.cells.2.2.2.2
  have CM := Lib.hid cm
  unfold w3of at hd4
  unfold DS.read
  cases hdn : D.down with
  | true =>
    rw [hdn] at hd4
    have HH := Lib.hid hdn
    clear h h3 cm ch hdn
    rw [if_pos rfl]
    refine (callsIn_wide (n := 3)).1 ?_
    refine callsIn_of_wp_marks Tryd.func51 rfl trivial ?_ rfl
    simp only [Tryd.ntmps51, List.size_toArray, List.length_cons, List.length_nil, Nat.reduceAdd, Nat.reduceSub, Array.replicate_succ, Array.replicate_zero, List.push_toArray, List.append_toArray, List.nil_append, List.cons_append]
    gi_wp2_with (refine ⟨trivial, ?_⟩; refine (callsIn_wide.2 CM.out).mono ?_; rintro e w' ⟨rfl, rfl⟩; unfold w3of)
    refine ⟨.tuple #[.string ⟨([] : List UInt8).toArray⟩, .int .i64 9], by simp [results, Tryd.f51, go_sem], rfl, ?_⟩
    exact ((NewMem.alloc _ _).trans (NewMem.alloc _ _)).trans (NewMem.alloc _ _)
  | false =>
    rw [hdn] at hd4
    have HH := Lib.hid hdn
    clear hdn
    rw [if_neg (by simp)]
    by_cases hr : 0 ≤ i ∧ i < (D.sure.length : Int)
    · rw [if_pos hr]
      rw [decide_eq_true hr] at ch
      obtain ⟨j, rfl⟩ : ∃ j : Nat, i = (j : Int) := ⟨i.toNat, by omega⟩
      rw [Int.toNat_natCast]
      obtain ⟨res, hres⟩ : ∃ res, res = D.shows j := ⟨_, rfl⟩
      rw [← hres]
      have HRES := Lib.hid hres
      clear hres
      have hj : j < D.sure.length := by omega
      have CH := Lib.hid ch
      have c1 := h3.cell.cells.2.1
      unfold w3of at c1
      obtain ⟨a, cp, hlv⟩ : ∃ a cp, lv = .slice a D.loose.length cp := by
        rcases h.loose.2 with ⟨e, h0⟩ | ⟨g, cp, cur, e, _⟩
        · exact ⟨none, 0, by rw [e, h0]⟩
        · exact ⟨_, cp, e⟩
      rw [hlv] at c1
      obtain ⟨les, hles⟩ : ∃ les : List LE, D.loose = les.map Subtype.val := ⟨D.loose.attach.map (fun q => ⟨q.1, (h.wloose q.1 q.2).1⟩), by simp [List.map_map, Function.comp_def, List.attach_map_subtype_val]⟩
      have hlen : D.loose.length = les.length := by rw [hles, List.length_map]
      rw [hlen] at c1 hlv hn
      have b0 : Boxed (w3of w j) w.heap.size 3 (.int .i64 (j : Int)) := ((Boxed.new w 3 _).alloc _).alloc _
      have b1 : Boxed (w3of w j) (w.heap.size + 1) 9 (.string ByteArray.empty) := by
        have := (Boxed.new (w.alloc (.cells #[.int .i64 (j : Int)] 3)) 9 (.string ByteArray.empty)).alloc (.cells #[.int .i64 0] 25)
        rwa [World.size_alloc] at this
      have b2 : Boxed (w3of w j) (w.heap.size + 1 + 1) 25 (.int .i64 0) := by
        have := Boxed.new ((w.alloc (.cells #[.int .i64 (j : Int)] 3)).alloc (.cells #[.string ByteArray.empty] 9)) 25 (.int .i64 0)
        rwa [World.size_alloc, World.size_alloc] at this
      have hs3 : (w3of w j).heap.size = w.heap.size + 3 := by unfold w3of; simp
      have b3 : Boxed ((w3of w j).alloc (.cells #[.slice a les.length cp] 71)) (w.heap.size + 1 + 1 + 1) 71 (.slice a les.length cp) := by
        have := Boxed.new (w3of w j) 71 (.slice a les.length cp)
        rwa [hs3] at this
      have b0 := b0.alloc (.cells #[.slice a les.length cp] 71)
      have b1 := b1.alloc (.cells #[.slice a les.length cp] 71)
      have b2 := b2.alloc (.cells #[.slice a les.length cp] 71)
      have hw0 : NewMem w ((w3of w j).alloc (.cells #[.slice a les.length cp] 71)) := (w3of_new w j).trans (NewMem.alloc _ _)
      have hd0 : DrumAt ((w3of w j).alloc (.cells #[.slice a les.length cp] 71)) b sb cap (.slice a les.length cp) D := by
        have := h.kept (F := fun _ => False) (Mod.of_below hw0) (fun _ _ => id); rwa [hlv] at this
      have hz0 : ((w3of w j).alloc (.cells #[.slice a les.length cp] 71)).heap.size = w.heap.size + 4 := by rw [World.size_alloc, hs3]
      obtain ⟨W0, hW0⟩ : ∃ W0, (w3of w j).alloc (.cells #[.slice a les.length cp] 71) = W0 := ⟨_, rfl⟩
      rw [hW0] at b0 b1 b2 b3 hw0 hd0 hz0
      unfold w3of at hW0
      have hin : LooseIn W0.heap.size W0 (.slice a les.length cp) les := hd0.loose_in hles (Nat.le_refl _)
      have HW0 := Lib.hid hW0
      have B0 := Lib.hid b0
      have B1 := Lib.hid b1
      have B2 := Lib.hid b2
      have B3 := Lib.hid b3
      have HW := Lib.hid hw0
      have HD0 := Lib.hid hd0
      have HZ := Lib.hid hz0
      have HIN := Lib.hid hin
      have HLES := Lib.hid hles
      have HJ := Lib.hid hj
      have HN := Lib.hid hn
      clear cm ch hlv b0 b1 b2 b3 hw0 hd0 hz0 hin hW0 h3 h hn hr hles hs3 hlen hj
      refine (callsIn_wide (n := 30)).1 ?_
      refine callsIn_of_wp_marks Tryd.func51 rfl trivial ?_ rfl
      simp only [Tryd.ntmps51, List.size_toArray, List.length_cons, List.length_nil, Nat.reduceAdd, Nat.reduceSub, Array.replicate_succ, Array.replicate_zero, List.push_toArray, List.append_toArray, List.nil_append, List.cons_append]
      gi_wp2_with (first
        | (refine ⟨trivial, ?_⟩; gi_at_call 39; refine (callsIn_wide.2 CM.out).mono ?_; rintro e w' ⟨rfl, rfl⟩; unfold w3of)
        | (refine ⟨trivial, ?_⟩; gi_at_call 58; refine (callsIn_wide.2 CH.out).mono ?_; rintro e w' ⟨rfl, rfl⟩; unfold w3of)
        | (refine ⟨trivial, ?_⟩; gi_at_call 68; refine (back_in Fence.wide _ trivial rfl _ _ _ _).mono ?_; rintro e w' ⟨rfl, rfl⟩))
      rw [HW0.out]
      refine wpIn_rangeFunc_ownH rfl (by decide) (gf := 79) (lb := #[.pointer (some ⟨w.heap.size + 1 + 1 + 1, 0, none⟩)]) rfl trivial (enters_of Tryd.func79 (by kernel_rfl) rfl)
        (back_stops Fence.wide (30 - 1) trivial rfl (by decide) (w.heap.size + 1 + 1 + 1) W0.heap.size _ les HN.out W0 (by have := HZ.out; omega) (Nat.le_refl _) B3.out.cell HIN.out) belowK_t (belowK_b (Nat.le_refl _)) (Below.refl _ _) (by intro x; rfl)
        (fun pre W => (∀ p ∈ pre, p.2.1.1 ≠ j) ∧ Below W0.heap.size W0 W)
        (fun c pre W => (c = .ret ∧ ∃ (ini : List (Nat × LE)) (last : Nat × LE), pre = ini ++ [last] ∧ (∀ p ∈ ini, p.2.1.1 ≠ j) ∧ last.2.1.1 = j ∧ W.heap[w.heap.size + 1]? = some (.cells #[.string ⟨last.2.1.2.toArray⟩] 9 (0, 0)) ∧ W.heap[w.heap.size + 1 + 1]? = some (.cells #[.int .i64 0] 25 (0, 0))) ∧ Below w.heap.size w W)
        (OwnFrom.and (ownFrom_pure _ _) (ownFrom_below (Nat.le_refl _) (Nat.le_refl _)))
        (fun c => OwnFrom.and (fun s A B row hs hg hr => by
          obtain ⟨hc, ini, last, e1, e2, e3, e4, e5⟩ := hs
          exact ⟨hc, ini, last, e1, e2, e3, block_own _ _ _ _ W0.heap.size () A B row e4 hg hr, block_own _ _ _ _ W0.heap.size () A B row e5 hg hr⟩) (ownFrom_below (Nat.le_refl _) (by have := HZ.out; omega)))
        ⟨by simp, Below.refl _ _⟩
        (fun x a' W => ∃ Bx, W0.heap.size ≤ Bx ∧ W.heap[Bx]? = some (.cells (looseCell x.2.1).toArray 100 (0, 0)) ∧ a' = { tmps := #[Value.pointer (some { block := b, off := 0 }), Value.int IntKind.i64 j, undef, Value.pointer (some { block := w.heap.size, off := 0 }), Value.pointer (some { block := w.heap.size + 1, off := 0 }), Value.pointer (some { block := w.heap.size + 1 + 1, off := 0 }), undef, Value.pointer (some { block := Bx, off := 0 }), Value.bool false, Value.pointer (some { block := b, off := 0 }), Value.bool true, Value.bool false, Value.bool false, Value.pointer (some { block := b, off := 0 }), Value.pointer (some { block := b, off := 0 }), Value.pointer (some { block := b, off := 4 }), Value.bool false, Value.bool false, Value.pointer (some { block := b, off := 0 }), Value.int IntKind.i64 j, Value.bool true, Value.bool false, Value.pointer (some { block := b, off := 0 }), Value.pointer (some { block := b, off := 0 }), Value.pointer (some { block := b, off := 1 }), Value.slice a les.length cp, Value.func (Fn.func 79) #[] #[Value.pointer (some { block := w.heap.size + 1 + 1 + 1, off := 0 })], .int .i64 (x.1 : Int), .agg (looseCell x.2.1).toArray, undef, undef, undef, undef, undef, undef, undef, undef, undef, undef, undef, undef, undef, undef, undef], defers := [] })
        (fun x a' s X Y row hs hg hr => by obtain ⟨Bx, h1, h2, h3⟩ := hs; exact ⟨Bx, h1, block_own _ _ _ _ W0.heap.size () X Y row h2 hg hr, h3⟩)
        ?assign ?body ?done ?stop
      case assign =>
        rintro l pre x W K ⟨hne, hB⟩ hK
        have hql := looseCell_len x.2.1 x.2.2
        have hqz2 : (Tryd.prog.info? 100).map (·.size) = some (looseCell x.2.1).toArray.size := by rw [List.size_toArray, hql]; exact info_looseb
        have hq1 : (looseCell x.2.1).toArray.all (·.oneCell') = true := all_oneCell_toArray (loose_one x.2.1.2 x.2.1.1)
        have hzq : Tryd.zeroCells100.size = (looseCell x.2.1).toArray.size := by rw [zero_loose]; simp [hql]
        have HQZ2 := Lib.hid hqz2
        have HQ1 := Lib.hid hq1
        have HZQ := Lib.hid hzq
        have HNE := Lib.hid hne
        have HB := Lib.hid hB
        have HK := Lib.hid hK
        clear hqz2 hq1 hzq hql hne hB hK
        unfold encLE
        gi_wp2_with (refine wpListIn_skipped rfl (fun _ h => by cases h) rfl (exec_store_row 100 _ _ rfl W.heap.size (looseCell x.2.1).toArray rfl rfl 100 _ (heap_alloc_last _ _) HQZ2.out HZQ.out HQ1.out) ?_; rw [World.setRow_alloc_new])
        exact HK.out _ _ ((KeepsOthers.alloc _ _).from _) ((Below.refl _ W).alloc HB.out.size _) ⟨HNE.out, HB.out.alloc HB.out.size _⟩ ⟨W.heap.size, HB.out.size, heap_alloc_last _ _, rfl⟩
      case body =>
        rintro l pre ⟨xi, ⟨⟨qi, s⟩, hq⟩⟩ a' W hl ⟨r, hr⟩ ⟨hne, hB⟩ ⟨Bx, hBx, hcell, rfl⟩ hlt
        have hlen : s.length = 64 := hq
        have c64 : W.cell? ⟨Bx, 64, none⟩ = some (.int .i64 (qi : Int)) := by rw [cell_of_row _ _ _ _ _ _ hcell]; simp [looseCell, secCells_len, hlen]
        have ci : W.cell? ⟨w.heap.size, 0, none⟩ = some (.int .i64 (j : Int)) := (hB.cell (p := ⟨w.heap.size, 0, none⟩) (by have := HZ.out; show w.heap.size < _; omega)).trans B0.out.cell
        have hra : W.rangeAt Bx 0 (secCells s) := range_of_block hcell (by simp [looseCell])
        have hsz : (Tryd.prog.info? 97).map (·.size) = some (secCells s).length := by rw [secCells_len, hlen]; exact info_secb
        have HRA := Lib.hid hra
        have HSZ := Lib.hid hsz
        have HNE := Lib.hid hne
        have HB := Lib.hid hB
        have HLEN := Lib.hid hlen
        clear hra hsz hne hB hcell hlen hr
        by_cases hx : qi = j
        · subst hx
          have bb : ∀ W2, NewMem W W2 → Boxed W2 (w.heap.size + 1) 9 (.string ByteArray.empty) ∧ Boxed W2 (w.heap.size + 1 + 1) 25 (.int .i64 0) := fun W2 h2 => by
            have hz := HZ.out
            have hb2 : Below W0.heap.size W0 W2 := HB.out.trans (h2.mono HB.out.size)
            exact ⟨(hb2.block _ (by omega)).trans B1.out, (hb2.block _ (by omega)).trans B2.out⟩
          have BB := Lib.hid bb
          clear bb
          gi_wp2_with (first
            | (refine wpListIn_value rfl (fun _ h => by cases h) rfl (exec_load_mid 97 _ rfl Bx 0 rfl (secCells s) _ HRA.out Tryd.underlying97 rfl HSZ.out) ?_)
            | (refine ⟨trivial, ?_⟩; gi_at_call 69; refine (CallsIn.inRound l (callsIn_wide.2 (text_any s HLEN.out _))).mono ?_; rintro e W2 ⟨rfl, hnm⟩; have k1 := (BB.out W2 hnm).1.cell; have k2 := (BB.out W2 hnm).1.frozen; have k3 := (BB.out W2 hnm).2.cell; have k4 := (BB.out W2 hnm).2.frozen; have HNM := Lib.hid hnm; clear hnm))
          have hnm := HNM.out
          have hz := HZ.out
          have hB2 : Below w.heap.size w W2 := Below.trans HW.out (Below.trans (HB.out.mono (by omega)) (Below.mono hnm (by have := HB.out.size; omega)))
          have kf : KeepsFrom W0.heap.size W ((W2.setCell ⟨w.heap.size + 1, 0, none⟩ (.string ⟨s.toArray⟩)).setCell ⟨w.heap.size + 1 + 1, 0, none⟩ (.int .i64 0)) :=
            (((KeepsOthers.of_new hnm).trans (KeepsOthers.setCell _ _ _)).trans (KeepsOthers.setCell _ _ _)).from _
          have x1 : Boxed ((W2.setCell ⟨w.heap.size + 1, 0, none⟩ (.string ⟨s.toArray⟩)).setCell ⟨w.heap.size + 1 + 1, 0, none⟩ (.int .i64 0)) (w.heap.size + 1) 9 (.string ⟨s.toArray⟩) :=
            ((BB.out W2 hnm).1.set _).other (by omega) _
          have x2 : Boxed ((W2.setCell ⟨w.heap.size + 1, 0, none⟩ (.string ⟨s.toArray⟩)).setCell ⟨w.heap.size + 1 + 1, 0, none⟩ (.int .i64 0)) (w.heap.size + 1 + 1) 25 (.int .i64 0) :=
            ((BB.out W2 hnm).2.other (by omega) _).set _
          exact ⟨kf, ⟨rfl, pre, _, rfl, HNE.out, rfl, x1, x2⟩, (hB2.setCell (p := ⟨w.heap.size + 1, 0, none⟩) (by simp) _).setCell (p := ⟨w.heap.size + 1 + 1, 0, none⟩) (by simp; omega) _⟩
        · gi_wp2
          refine ⟨KeepsFrom.refl _ _, Below.refl _ _, fun p hp => ?_, HB.out⟩
          rcases List.mem_append.1 hp with hp | hp
          · exact HNE.out p hp
          · rw [List.mem_singleton.1 hp]; exact hx
      case done =>
        rintro D' ys W hD rfl ⟨hne, hB⟩ hK
        have hz := HZ.out
        have hnf := comes_none les j hne
        rw [← HLES.out] at hnf
        have hsh : D.shows j = D.sure.getD j [] := by unfold DS.shows; rw [hnf]
        have hs : D.sure[j]? = some (D.sure.getD j []) := by simp [List.getElem?_eq_getElem HJ.out]
        obtain ⟨s, hsd⟩ : ∃ s, s = D.sure.getD j [] := ⟨_, rfl⟩
        rw [← hsd] at hs
        have hrs : res = s := by rw [HRES.out, hsh, hsd]
        have HRS := Lib.hid hrs
        clear hrs
        have hdW : DrumAt W b sb cap (.slice a les.length cp) D := HD0.out.kept (F := fun _ => False) (Mod.of_below hB) (fun _ _ => id)
        have hw64 := hdW.wsure s (List.mem_of_getElem? hs)
        have hsz : (Tryd.prog.info? 97).map (·.size) = some (secCells s).length := by rw [secCells_len, hw64]; exact info_secb
        have HDW := Lib.hid hdW
        have HS := Lib.hid hs
        have HW64 := Lib.hid hw64
        have HSZ := Lib.hid hsz
        have HB := Lib.hid hB
        have HK := Lib.hid hK
        clear hne hnf hsh hsd hdW hw64 hsz hs hB hK hz
        gi_wp2
        refine wpIn_wide.2 ?_
        have far : ∀ W', NewMem W W' → DrumAt W' b sb cap (.slice a les.length cp) D ∧ Boxed W' w.heap.size 3 (.int .i64 (j : Int)) ∧ Boxed W' (w.heap.size + 1) 9 (.string ByteArray.empty) ∧ Boxed W' (w.heap.size + 1 + 1) 25 (.int .i64 0) ∧ W'.heap[D']? = some (.deferred (some [])) := fun W' h => by
          have hz := HZ.out
          have hb2 : Below W0.heap.size W0 W' := HB.out.trans (h.mono HB.out.size)
          exact ⟨HDW.out.kept (F := fun _ => False) (Mod.of_below h) (fun _ _ => id), (hb2.block _ (by omega)).trans B0.out, (hb2.block _ (by omega)).trans B1.out, (hb2.block _ (by omega)).trans B2.out, (h.block _ (Array.getElem?_eq_some_iff.1 HK.out).1).trans HK.out⟩
        have FAR := Lib.hid far
        clear far
        refine' wp_region_facts (S := (fun W' => NewMem W W')) (R := NewMem) [eqF _ _, eqF _ _, eqF _ _, eqF _ (.slice (some ⟨sb, 0, none⟩) D.sure.length cap), eqF _ (.int .i64 (j : Int)), eqF _ (.pointer (some ⟨sb, j * 64, none⟩)), eqF _ (.agg (secCells s).toArray), eqF _ (.string ⟨s.toArray⟩)] (by kernel_rfl) (by kernel_rfl) ?hS ?h0 (Ord.steps_cons ?s0 (Ord.steps_cons ?s1 (Ord.steps_cons ?s2 (Ord.steps_cons ?s3 (Ord.steps_cons ?s4 (Ord.steps_cons ?s5 (Ord.steps_cons ?s6 (Ord.steps_cons ?s7 (Ord.steps_nil))))))))) ?fin
        case s0 =>
          intro g W hSW hd
          try simp only [Nat.zero_add, Nat.reduceAdd] at hd ⊢
          with_reducible refine OpGives.pre_reads [] 44 ?_ ?_ ?_
          · rfl
          · kernel_rfl
          simp only [List.map_cons, List.map_nil]
          refine OpGives.val (w' := W) ?_ ⟨NewMem.refl _, rfl⟩
          go_simp
          try with_reducible rfl
        case s1 =>
          intro g W hSW hd
          try simp only [Nat.zero_add, Nat.reduceAdd] at hd ⊢
          have h0 : g 0 = _ := hd 0 (by decide) (by kernel_rfl)
          with_reducible refine OpGives.pre_reads [(36, 0)] 44 ?_ ?_ ?_
          · rfl
          · kernel_rfl
          simp only [List.map_cons, List.map_nil]
          refine OpGives.val (w' := W) ?_ ⟨NewMem.refl _, rfl⟩
          go_simp
          try with_reducible rfl
        case s2 =>
          intro g W hSW hd
          try simp only [Nat.zero_add, Nat.reduceAdd] at hd ⊢
          have h1 : g 1 = _ := hd 1 (by decide) (by kernel_rfl)
          with_reducible refine OpGives.pre_reads [(37, 1)] 44 ?_ ?_ ?_
          · rfl
          · kernel_rfl
          simp only [List.map_cons, List.map_nil]
          refine OpGives.val (w' := W) ?_ ⟨NewMem.refl _, rfl⟩
          go_simp
          try with_reducible rfl
        case s3 =>
          intro g W hSW hd
          try simp only [Nat.zero_add, Nat.reduceAdd] at hd ⊢
          have h2 : g 2 = _ := hd 2 (by decide) (by kernel_rfl)
          with_reducible refine OpGives.pre_reads [(38, 2)] 44 ?_ ?_ ?_
          · rfl
          · kernel_rfl
          simp only [List.map_cons, List.map_nil]
          have c0 := (FAR.out W hSW).1.cell.cells.1; refine OpGives.val (w' := W) ?_ ⟨NewMem.refl _, rfl⟩; go_simp
        case s4 =>
          intro g W hSW hd
          try simp only [Nat.zero_add, Nat.reduceAdd] at hd ⊢
          with_reducible refine OpGives.pre_reads [] 44 ?_ ?_ ?_
          · rfl
          · kernel_rfl
          simp only [List.map_cons, List.map_nil]
          have c0 := (FAR.out W hSW).2.1.cell; refine OpGives.val (w' := W) ?_ ⟨NewMem.refl _, rfl⟩; go_simp
        case s5 =>
          intro g W hSW hd
          try simp only [Nat.zero_add, Nat.reduceAdd] at hd ⊢
          have h3 : g 3 = _ := hd 3 (by decide) (by kernel_rfl)
          have h4 : g 4 = _ := hd 4 (by decide) (by kernel_rfl)
          with_reducible refine OpGives.pre_reads [(39, 3), (40, 4)] 44 ?_ ?_ ?_
          · rfl
          · kernel_rfl
          simp only [List.map_cons, List.map_nil]
          have hb := HJ.out; refine OpGives.val (w' := W) ?_ ⟨NewMem.refl _, rfl⟩; go_simp
        case s6 =>
          intro g W hSW hd
          try simp only [Nat.zero_add, Nat.reduceAdd] at hd ⊢
          have h5 : g 5 = _ := hd 5 (by decide) (by kernel_rfl)
          with_reducible refine OpGives.pre_reads [(41, 5)] 44 ?_ ?_ ?_
          · rfl
          · kernel_rfl
          simp only [List.map_cons, List.map_nil]
          refine OpGives.val (w' := W) (exec_load_mid 97 _ rfl sb (j * 64) ?_ (secCells s) _ ((FAR.out W hSW).1.sure_at HS.out) Tryd.underlying97 rfl HSZ.out) ⟨NewMem.refl _, rfl⟩; (rw [h5]; simp [rdl_cons])
        case s7 =>
          intro g W hSW hd
          try simp only [Nat.zero_add, Nat.reduceAdd] at hd ⊢
          have h6 : g 6 = _ := hd 6 (by decide) (by kernel_rfl)
          with_reducible refine OpGives.pre_reads [(42, 6)] 44 ?_ ?_ ?_
          · rfl
          · kernel_rfl
          simp only [List.map_cons, List.map_nil]
          refine OpGives.call (f := 69) (args := #[.agg (secCells s).toArray]) (w' := W) (by go_simp) ((text_any s HW64.out W).mono fun e w' ⟨he, hn⟩ => ⟨_, he, hn, rfl⟩)
        case hS => exact fun a b h k => NewMem.trans h k
        case h0 => exact below_drewN' (n := 1) (Below.refl _ _)
        case fin =>
          intro v W' hSW hf
          have h7 : v 7 = _ := hf 7 (Nat.lt_of_lt_of_eq (by decide : 7 < 8) rfl)
          clear hf
          generalize hF : Ord.pre _ _ v _ = F
          rw [Ord.pre_lit [some 36, some 37, some 38, some 39, some 40, some 41, some 42, some 43]
            (by kernel_rfl)] at hF
          simp only [Ord.puts, Nat.zero_add, Nat.reduceAdd] at hF
          subst hF
          rw [h7]
          clear h7
          obtain ⟨_, _, x1, x2, x3⟩ := FAR.out W' hSW
          have c1 := x1.cell
          have f1 := x1.frozen
          have c2 := x2.cell
          have f2 := x2.frozen
          have y1 : Boxed ((W'.setCell ⟨w.heap.size + 1, 0, none⟩ (.string ⟨s.toArray⟩)).setCell ⟨w.heap.size + 1 + 1, 0, none⟩ (.int .i64 0)) (w.heap.size + 1) 9 (.string ⟨s.toArray⟩) := (x1.set _).other (by omega) _
          have y2 : Boxed ((W'.setCell ⟨w.heap.size + 1, 0, none⟩ (.string ⟨s.toArray⟩)).setCell ⟨w.heap.size + 1 + 1, 0, none⟩ (.int .i64 0)) (w.heap.size + 1 + 1) 25 (.int .i64 0) := (x2.other (by omega) _).set _
          have y3 : ((W'.setCell ⟨w.heap.size + 1, 0, none⟩ (.string ⟨s.toArray⟩)).setCell ⟨w.heap.size + 1 + 1, 0, none⟩ (.int .i64 0)).heap[D']? = some (.deferred (some [])) :=
            ((KeepsOthers.setCell _ _ _).trans (KeepsOthers.setCell _ _ _)).same D' _ x3 rfl
          have y4 : Below w.heap.size w ((W'.setCell ⟨w.heap.size + 1, 0, none⟩ (.string ⟨s.toArray⟩)).setCell ⟨w.heap.size + 1 + 1, 0, none⟩ (.int .i64 0)) := by
            have hz := HZ.out
            have : Below w.heap.size w W' := Below.trans HW.out ((HB.out.trans (Below.mono hSW HB.out.size)).mono (by omega))
            exact (this.setCell (p := ⟨w.heap.size + 1, 0, none⟩) (by simp) _).setCell (p := ⟨w.heap.size + 1 + 1, 0, none⟩) (by simp; omega) _
          have Y1 := Lib.hid y1
          have Y2 := Lib.hid y2
          have Y3 := Lib.hid y3
          have Y4 := Lib.hid y4
          clear y1 y2 y3 y4 x3
          refine any_one (i := 8) (by kernel_rfl) ?_
          refine wpOp_skip (w' := W'.setCell ⟨w.heap.size + 1, 0, none⟩ (.string ⟨s.toArray⟩)) rfl rfl (by go_simp) ?_
          refine any_one (i := 9) (by kernel_rfl) ?_
          refine wpOp_skip (w' := (W'.setCell ⟨w.heap.size + 1, 0, none⟩ (.string ⟨s.toArray⟩)).setCell ⟨w.heap.size + 1 + 1, 0, none⟩ (.int .i64 0)) rfl rfl (by go_simp) ?_
          refine wpAny_done (by kernel_rfl) ?_ _
          simp only [List.getElem_toArray, List.getElem_cons_succ, List.getElem_cons_zero]
          go_frame
          clear c1 c2 f1 f2 x1 x2
          generalize (W'.setCell ⟨w.heap.size + 1, 0, none⟩ (.string ⟨s.toArray⟩)).setCell ⟨w.heap.size + 1 + 1, 0, none⟩ (.int .i64 0) = W2 at *
          gi_wp2
          have hK := Y3.out
          refine ⟨by simp, .inl ⟨_, _, rfl, run_takeDeferred hK, ?_⟩⟩
          have hz := HZ.out
          have hg := grownBy_putObj' W2 D' (.deferred none)
          have q1 := Boxed.kept (row := some D') Y1.out hg (by simp; omega)
          have q2 := Boxed.kept (row := some D') Y2.out hg (by simp; omega)
          have c1 := q1.cell
          have c2 := q2.cell
          refine ⟨.tuple #[.string ⟨s.toArray⟩, .int .i64 0], ?_, by rw [HRS.out], Y4.out.trans (belowK_b (w := w) (Nat.le_refl _) W2 D' _ _ (by omega) hK rfl rfl)⟩
          simp [results, Tryd.f51, go_sem, c1, c2]
      case stop =>
        rintro D' c pre W hD ⟨k, hk, rfl⟩ ⟨⟨rfl, ini, last, e1, e2, e3, hs1, hs2⟩, hB⟩ hK
        have hz := HZ.out
        obtain ⟨k', rfl⟩ : ∃ k', k = k' + 1 := by
          cases k with
          | zero => simp [comes] at e1
          | succ k' => exact ⟨k', rfl⟩
        rw [comes_succ] at e1
        obtain ⟨rfl, e5⟩ := List.append_inj' e1 rfl
        have e6 := (List.cons.inj e5).1
        subst e6
        have hf := comes_find les j k' (by omega) e2 e3
        rw [← HLES.out] at hf
        have hsh : D.shows j = (les.getD (les.length - 1 - k') LE.zero).1.2 := by unfold DS.shows; rw [hf]
        have hrs := HRES.out.trans hsh
        gi_wp2
        refine ⟨by simp, .inl ⟨_, _, rfl, run_takeDeferred hK, ?_⟩⟩
        have hg := grownBy_putObj' W D' (.deferred none)
        have q1 : Boxed (W.putObj D' (.deferred none)) (w.heap.size + 1) 9 (.string ⟨(les.getD (les.length - 1 - k') LE.zero).1.2.toArray⟩) := Boxed.kept (row := some D') hs1 hg (by simp; omega)
        have q2 : Boxed (W.putObj D' (.deferred none)) (w.heap.size + 1 + 1) 25 (.int .i64 0) := Boxed.kept (row := some D') hs2 hg (by simp; omega)
        have c1 := q1.cell
        have c2 := q2.cell
        refine ⟨.tuple #[.string ⟨(les.getD (les.length - 1 - k') LE.zero).1.2.toArray⟩, .int .i64 0], ?_, by simp, hB.trans (belowK_b (w := w) (Nat.le_refl _) W D' _ _ (by omega) hK rfl rfl)⟩
        simp [results, Tryd.f51, go_sem, c1, c2]
    · rw [if_neg hr]
      rw [decide_eq_false hr] at ch
      have CH := Lib.hid ch
      clear h h3 cm ch
      refine (callsIn_wide (n := 3)).1 ?_
      refine callsIn_of_wp_marks Tryd.func51 rfl trivial ?_ rfl
      simp only [Tryd.ntmps51, List.size_toArray, List.length_cons, List.length_nil, Nat.reduceAdd, Nat.reduceSub, Array.replicate_succ, Array.replicate_zero, List.push_toArray, List.append_toArray, List.nil_append, List.cons_append]
      gi_wp2_with (first
        | (refine ⟨trivial, ?_⟩; gi_at_call 39; refine (callsIn_wide.2 CM.out).mono ?_; rintro e w' ⟨rfl, rfl⟩; unfold w3of)
        | (refine ⟨trivial, ?_⟩; gi_at_call 58; refine (callsIn_wide.2 CH.out).mono ?_; rintro e w' ⟨rfl, rfl⟩; unfold w3of))
      refine ⟨.tuple #[.string ⟨([] : List UInt8).toArray⟩, .int .i64 6], by simp [results, Tryd.f51, go_sem], rfl, ?_⟩
      exact ((NewMem.alloc _ _).trans (NewMem.alloc _ _)).trans (NewMem.alloc _ _)
end Go.Proofs.YteljihpheffjnaaDoor.Drum
/- The drum: Copy. -/
namespace Go.Proofs.YteljihpheffjnaaDoor.Drum
open Go.RowKit Go.Proofs.YteljihpheffjnaaDoor.Ord Go.Proofs.YteljihpheffjnaaDoorW.PrintWords Go.Proofs.YteljihpheffjnaaDoor.Base
set_option linter.unusedVariables false
attribute [local go_sem] rdl_const rdl_func rdl_global rdl_nil rdl_cons

theorem info_sec3 : (Tryd.prog.info? 97).map (fun i => (i.zero, i.size, i.bytes)) = some (some (.agg (List.replicate 64 (.int .u8 0)).toArray), 64, 64) := info_sec
theorem wpList_value {P : Program} {ops : Array Oper} {Q : Exit → Act → World → Prop} {a : Act} {w w' : World} {rest : List Oper} {o : Oper} {v : Value} (hg : o.guard = none) (hr : (execOp a.eval o).run P w = .ok (.value v) w') (h : wpList P ops Q rest (a.put o.dst v) w') : wpList P ops Q (o :: rest) a w :=
  wpList_plain hg fun K hK => by unfold Oper.wp; rw [hr]; exact hK _ _ h
theorem build_none (t E : TypeId) (i : TypeInfo) (ht : Tryd.prog.underlying t = some (.slice E)) (hi : Tryd.prog.info? E = some i) (w : World) : (Instr.buildSlice t 0 #[]).run Tryd.prog w = .ok (.slice (some ⟨w.heap.size, 0, none⟩) 0 0) (w.alloc (.cells #[] E)) := by
  simp [Instr.buildSlice, run_underlying ht, sizeOf, typeInfo, hi, newRow, Instr.fill]
  exact congrArg (fun c => w.alloc (Obj.cells c E)) (Array.eq_empty_of_size_eq_zero (by simp))
/-- A slice of its own with the same cells. -/
def Cloned (E : TypeId) (size : Nat) (n : Nat) (xs : List Value) (w : World) (e : Ending) (w' : World) : Prop :=
  ∃ a cap, e = .returned (.slice a n cap) ∧ NewMem w w' ∧ w'.ownsRow 0 E size (.slice a n cap) n xs ∧ (∀ k, (Value.slice a n cap).ownBlock = some k → w.heap.size ≤ k)
theorem clone_run {t ty E : TypeId} {z : Value} {size bytes : Nat} (ht : Tryd.prog.underlying t = some (.slice E)) (hi : (Tryd.prog.info? E).map (fun i => (i.zero, i.size, i.bytes)) = some (some z, size, bytes)) (hz : z.cells.size = size) (hs : 0 < size)
    (g n cap : Nat) (xs : List Value) (w : World) (h : w.ownsRow 0 E size (.slice (some ⟨g, 0, none⟩) n cap) n xs) (h1 : ∀ u ∈ xs, u.oneCell' = true) (hn : n ≤ 1000000) (hb : bytes ≤ 1000) :
    ∃ a cp w', (Builtin.append_ #[t, t] ty #[.slice (some ⟨w.heap.size, 0, none⟩) 0 0, .slice (some ⟨g, 0, none⟩) n cap]).run Tryd.prog (w.alloc (.cells #[] E)) = .ok (.slice a n cp) w' ∧ NewMem w w' ∧
      w'.ownsRow 0 E size (.slice a n cp) n xs ∧ (∀ k, (Value.slice a n cp).ownBlock = some k → w.heap.size ≤ k) := by
  obtain ⟨i0, hi0, hz0, hz1, hz2⟩ := info_parts hi
  have h0 := World.ownsRow_made (e := E) (size := size) w #[] 0 (Nat.zero_le _) (by decide) (by simp)
  have hsrc := h.alloc (.cells #[] E)
  have hbn : n * bytes ≤ 1000000 * 1000 := Nat.mul_le_mul hn hb
  obtain ⟨v', w', hr, hown, hg, _, hat⟩ := run_append_own_at (P := Tryd.prog) (w.alloc (.cells #[] E)) 0 t ty E i0 z size bytes ht hi0 hz0 hz1 hz2 hz hs (.slice (some ⟨w.heap.size, 0, none⟩) 0 0) 0 [] h0 ⟨g, 0, none⟩ n cap xs h.1 (hsrc.cells rfl) h1 (by unfold maxLen; omega) (by rw [Nat.zero_add]; omega) (Nat.zero_le _)
  rw [Nat.zero_add, List.nil_append] at hown
  have hnew : NewMem w w' := ⟨hg.os, hg.tape, hg.output, by have := hg.size; simp at this; omega, fun k hk => (hg.block k (by simp; omega) (by simp [Value.ownBlock]; omega)).trans (heap_alloc_old w _ hk)⟩
  have hat' : ∀ k, v'.ownBlock = some k → w.heap.size ≤ k := fun k hk => by
    rcases hat with e | e
    · rw [hk] at e; simp [Value.ownBlock] at e; omega
    · rw [hk] at e; simp at e; omega
  rcases hown.2 with ⟨rfl, h0⟩ | ⟨g', cp, cur, rfl, _⟩
  · subst h0; exact ⟨none, 0, w', hr, hnew, hown, hat'⟩
  · exact ⟨_, cp, w', hr, hnew, hown, hat'⟩
set_option maxRecDepth 100000 in
set_option maxHeartbeats 4000000 in
theorem clone_sector (lv : Value) (n : Nat) (xs : List Value) (w : World) (h : w.ownsRow 0 97 64 lv n xs) (h1 : ∀ u ∈ xs, u.oneCell' = true) (hn : n ≤ 1000000) :
    Calls Tryd.prog 53 #[lv] w (Cloned 97 64 n xs w) := by
  rcases h.2 with ⟨rfl, h0⟩ | ⟨g, cap, cur, rfl, _⟩
  · subst h0
    have hx : xs = [] := by simpa using h.1
    subst hx
    have he := fun W => Lib.run_eql_slice_nil (P := Tryd.prog) W 70 97 none 0 0 0 0 Tryd.underlying70
    clear h h1 hn
    go_enter Tryd.func53, Tryd.ntmps53
    go_wp2
    go_ret
    exact ⟨none, 0, rfl, NewMem.refl _, World.ownsRow_nil _ _ _ _, by simp [Value.ownBlock]⟩
  · have he := fun W => Lib.run_eql_slice_nil (P := Tryd.prog) W 70 97 (some ⟨g, 0, none⟩) n cap 0 0 Tryd.underlying70
    obtain ⟨a, cp, w', hr, hnew, hown, hat⟩ := clone_run (ty := 70) Tryd.underlying70 info_sec3 (by rfl) (by decide) g n cap xs w h h1 hn (by decide)
    obtain ⟨ib, hib, _⟩ := info_parts info_sec3
    have HNEW  := Lib.hid hnew
    have HOWN := Lib.hid hown
    have HAT := Lib.hid hat
    clear hnew hown hat h h1 hn
    go_enter Tryd.func53, Tryd.ntmps53
    go_wp2_with (first
      | (refine wpList_value rfl (exec_buildSlice 70 0 #[] rfl (build_none 70 97 ib Tryd.underlying70 hib _)) ?_)
      | (refine wpList_value rfl (exec_append _ _ 70 rfl hr) ?_))
    go_ret
    exact ⟨a, cp, rfl, HNEW.out, HOWN.out, HAT.out⟩
set_option maxRecDepth 100000 in
set_option maxHeartbeats 4000000 in
theorem clone_loose (lv : Value) (n : Nat) (xs : List Value) (w : World) (h : w.ownsRow 0 100 65 lv n xs) (h1 : ∀ u ∈ xs, u.oneCell' = true) (hn : n ≤ 1000000) :
    Calls Tryd.prog 54 #[lv] w (Cloned 100 65 n xs w) := by
  rcases h.2 with ⟨rfl, h0⟩ | ⟨g, cap, cur, rfl, _⟩
  · subst h0
    have hx : xs = [] := by simpa using h.1
    subst hx
    have he := fun W => Lib.run_eql_slice_nil (P := Tryd.prog) W 71 100 none 0 0 0 0 Tryd.underlying71
    clear h h1 hn
    go_enter Tryd.func54, Tryd.ntmps54
    go_wp2
    go_ret
    exact ⟨none, 0, rfl, NewMem.refl _, World.ownsRow_nil _ _ _ _, by simp [Value.ownBlock]⟩
  · have he := fun W => Lib.run_eql_slice_nil (P := Tryd.prog) W 71 100 (some ⟨g, 0, none⟩) n cap 0 0 Tryd.underlying71
    obtain ⟨a, cp, w', hr, hnew, hown, hat⟩ := clone_run (ty := 71) Tryd.underlying71 info_loose (by show Tryd.zeroCells100.size = 65; rw [zero_loose]; rfl) (by decide) g n cap xs w h h1 hn (by decide)
    obtain ⟨ib, hib, _⟩ := info_parts info_loose
    have HNEW  := Lib.hid hnew
    have HOWN := Lib.hid hown
    have HAT := Lib.hid hat
    clear hnew hown hat h h1 hn
    go_enter Tryd.func54, Tryd.ntmps54
    go_wp2_with (first
      | (refine wpList_value rfl (exec_buildSlice 71 0 #[] rfl (build_none 71 100 ib Tryd.underlying71 hib _)) ?_)
      | (refine wpList_value rfl (exec_append _ _ 71 rfl hr) ?_))
    go_ret
    exact ⟨a, cp, rfl, HNEW.out, HOWN.out, HAT.out⟩
end Go.Proofs.YteljihpheffjnaaDoor.Drum
/- The drum: Copy. -/
namespace Go.Proofs.YteljihpheffjnaaDoor.Drum
open Go.RowKit Go.Proofs.YteljihpheffjnaaDoor.Ord Go.Proofs.YteljihpheffjnaaDoorW.PrintWords Go.Proofs.YteljihpheffjnaaDoor.Base
set_option linter.unusedVariables false
set_option linter.unusedSimpArgs false
attribute [local go_sem] rdl_const rdl_func rdl_global rdl_nil rdl_cons

/-- A copy. -/
def CopyAt (D : DS) (w : World) (e : Ending) (w' : World) : Prop := ∃ b sb cap lv, e = .returned (.pointer (some ⟨b, 0, none⟩)) ∧ w.heap.size ≤ b ∧ w.heap.size ≤ sb ∧ (∀ k, lv.ownBlock = some k → w.heap.size ≤ k) ∧ DrumAt w' b sb cap lv D ∧ NewMem w w'
theorem sureCells_one (l : List (List UInt8)) : ∀ u ∈ sureCells l, u.oneCell' = true := by
  intro u hu
  obtain ⟨s, _, hs⟩ := List.mem_flatMap.1 hu
  unfold secCells at hs; rw [nums_ints] at hs; exact Lib.byteCells_one _ u hs
theorem looseCells_one (l : List (Nat × List UInt8)) : ∀ u ∈ looseCells l, u.oneCell' = true := by
  intro u hu
  obtain ⟨s, _, hs⟩ := List.mem_flatMap.1 hu
  exact loose_one s.2 s.1 u hs
def clonedF (base : Nat) (E : TypeId) (size n : Nat) (xs : List Value) : Fact (Mod (fun _ => False)) :=
  ⟨fun v W => ∃ a cap, v = .slice a n cap ∧ W.ownsRow 0 E size (.slice a n cap) n xs ∧ (∀ k, (Value.slice a n cap).ownBlock = some k → base ≤ k), fun v W W' ⟨a, cap, e, ho, hk⟩ hm => ⟨a, cap, e, ownsRow_mod ho hm (fun _ _ => id), hk⟩⟩
theorem ownsRow_apart {w : World} {e e' : TypeId} {s s' : Nat} {v v' : Value} {n n' : Nat} {xs xs' : List Value} (h : w.ownsRow 0 e s v n xs) (h' : w.ownsRow 0 e' s' v' n' xs') (he : e ≠ e') (k : Nat) (hk : v.ownBlock = some k) : v'.ownBlock ≠ some k := by
  intro hk'
  rcases h.2 with ⟨rfl, _⟩ | ⟨g, cap, cur, rfl, _, hg, _⟩
  · simp [Value.ownBlock] at hk
  · rcases h'.2 with ⟨rfl, _⟩ | ⟨g', cap', cur', rfl, _, hg', _⟩
    · simp [Value.ownBlock] at hk'
    · simp [Value.ownBlock] at hk hk'
      subst hk; subst hk'
      rw [hg] at hg'
      injection hg' with hg'
      injection hg' with _ hg' _
      exact he hg'
set_option maxRecDepth 100000 in
set_option maxHeartbeats 8000000 in
theorem copy_at (b sb cap : Nat) (lv : Value) (D : DS) (w : World) (h : DrumAt w b sb cap lv D) (hn : D.loose.length ≤ 1000000) :
    Calls Tryd.prog 29 #[.pointer (some ⟨b, 0, none⟩)] w (CopyAt D w) := by
  have c0 := h.cell.cells.1
  have cm : Calls Tryd.prog 39 #[.pointer (some ⟨b, 0, none⟩)] w fun e w' => e = .returned (.bool true) ∧ w = w' := by
    have := made_of b _ _ _ w c0
    rwa [decide_eq_true h.pos] at this
  have CM := Lib.hid cm
  have hc := h.cell
  unfold DCell at hc
  have H := Lib.hid h
  clear cm c0 h
  have HC := Lib.hid hc
  have ho : (#[.slice (some ⟨sb, 0, none⟩) D.sure.length cap, lv, .bool D.armed, .int .i64 D.left, .bool D.down] : Array Value).all (·.oneCell') = true := by
    rcases H.out.loose.2 with ⟨e, _⟩ | ⟨_, _, _, e, _⟩ <;> (rw [e]; simp [Value.oneCell'])
  have HO := Lib.hid ho
  clear ho
  clear hc
  have hsz : (Tryd.prog.info? 73).map (·.size) = some 5 := by kernel_rfl
  go_enter Tryd.func29, Tryd.ntmps29
  go_wp2_with fail
  refine CM.out.mono ?_
  rintro e w' ⟨rfl, rfl⟩
  go_wp2_with (first
    | (refine wpList_load_row rfl 73 _ rfl b rfl 73 _ _ _ HC.out Tryd.underlying73 rfl hsz ?_)
    | (refine wpList_store_row rfl 73 _ _ rfl w.heap.size #[.slice (some ⟨sb, 0, none⟩) D.sure.length cap, lv, .bool D.armed, .int .i64 D.left, .bool D.down] rfl rfl 73 _ (heap_alloc_last _ _) hsz rfl HO.out ?_; rw [World.setRow_alloc_new]))
  go_frame
  obtain ⟨wx, hwx⟩ : ∃ wx : World, wx = w.alloc (.cells #[.slice (some ⟨sb, 0, none⟩) D.sure.length cap, lv, .bool D.armed, .int .i64 D.left, .bool D.down] 73) := ⟨_, rfl⟩
  rw [← hwx]
  obtain ⟨c, hc⟩ : ∃ c, c = w.heap.size := ⟨_, rfl⟩
  rw [← hc]
  have hx : DCell wx c (.slice (some ⟨sb, 0, none⟩) D.sure.length cap) lv D.armed D.left D.down := by rw [hwx, hc]; exact heap_alloc_last _ _
  have hnx : NewMem w wx := by rw [hwx]; exact NewMem.alloc _ _
  have hxs : wx.heap.size = c + 1 := by rw [hwx, hc]; simp
  have HX := Lib.hid hx
  have HNX := Lib.hid hnx
  have HXS := Lib.hid hxs
  have HCC := Lib.hid hc
  clear hx hnx hxs hc hwx
  have far : ∀ W, Mod (fun _ => False) wx W → DrumAt W b sb cap lv D ∧ DCell W c (.slice (some ⟨sb, 0, none⟩) D.sure.length cap) lv D.armed D.left D.down ∧ c + 1 ≤ W.heap.size := fun W hW =>
    ⟨(H.out.kept (F := fun _ => False) (Mod.of_below HNX.out) (fun _ _ => id)).kept hW (fun _ _ => id), HX.out.kept hW id, by have := hW.size; have := HXS.out; omega⟩
  have FAR := Lib.hid far
  clear far
  refine' wp_region_factsT (S := (fun W => Mod (fun _ => False) wx W)) (R := (Mod (fun _ => False))) [eqF _ _, eqF _ _, eqF _ _, eqF _ (.slice (some ⟨sb, 0, none⟩) D.sure.length cap), clonedF (c + 1) 97 64 D.sure.length (sureCells D.sure), eqF _ _, eqF _ _, eqF _ _, eqF _ lv, clonedF (c + 1) 100 65 D.loose.length (looseCells D.loose)] (by kernel_rfl) (by kernel_rfl) ?hS ?h0 (Ord.steps_cons ?s0 (Ord.steps_cons ?s1 (Ord.steps_cons ?s2 (Ord.steps_cons ?s3 (Ord.steps_cons ?s4 (Ord.steps_cons ?s5 (Ord.steps_cons ?s6 (Ord.steps_cons ?s7 (Ord.steps_cons ?s8 (Ord.steps_cons ?s9 (Ord.steps_nil))))))))))) ?fin
  case s0 =>
    intro g W hSW hd
    try simp only [Nat.zero_add, Nat.reduceAdd] at hd ⊢
    with_reducible refine OpGives.pre_reads [] 22 ?_ ?_ ?_
    · rfl
    · kernel_rfl
    simp only [List.map_cons, List.map_nil]
    refine OpGives.val (w' := W) ?_ ⟨Mod.refl _ _, rfl⟩
    go_simp
    try with_reducible rfl
  case s1 =>
    intro g W hSW hd
    try simp only [Nat.zero_add, Nat.reduceAdd] at hd ⊢
    have h0 : g 0 = _ := hd 0 (by decide) (by kernel_rfl)
    with_reducible refine OpGives.pre_reads [(10, 0)] 22 ?_ ?_ ?_
    · rfl
    · kernel_rfl
    simp only [List.map_cons, List.map_nil]
    refine OpGives.val (w' := W) ?_ ⟨Mod.refl _ _, rfl⟩
    go_simp
    try with_reducible rfl
  case s2 =>
    intro g W hSW hd
    try simp only [Nat.zero_add, Nat.reduceAdd] at hd ⊢
    have h1 : g 1 = _ := hd 1 (by decide) (by kernel_rfl)
    with_reducible refine OpGives.pre_reads [(11, 1)] 22 ?_ ?_ ?_
    · rfl
    · kernel_rfl
    simp only [List.map_cons, List.map_nil]
    refine OpGives.val (w' := W) ?_ ⟨Mod.refl _ _, rfl⟩
    go_simp
    try with_reducible rfl
  case s3 =>
    intro g W hSW hd
    try simp only [Nat.zero_add, Nat.reduceAdd] at hd ⊢
    have h2 : g 2 = _ := hd 2 (by decide) (by kernel_rfl)
    with_reducible refine OpGives.pre_reads [(12, 2)] 22 ?_ ?_ ?_
    · rfl
    · kernel_rfl
    simp only [List.map_cons, List.map_nil]
    have c0 := (FAR.out W hSW).1.cell.cells.1; refine OpGives.val (w' := W) ?_ ⟨Mod.refl _ _, rfl⟩; go_simp
  case s4 =>
    intro g W hSW hd
    try simp only [Nat.zero_add, Nat.reduceAdd] at hd ⊢
    have h3 : g 3 = _ := hd 3 (by decide) (by kernel_rfl)
    with_reducible refine OpGives.pre_reads [(13, 3)] 22 ?_ ?_ ?_
    · rfl
    · kernel_rfl
    simp only [List.map_cons, List.map_nil]
    refine OpGives.call (f := 53) (args := #[.slice (some ⟨sb, 0, none⟩) D.sure.length cap]) (w' := W) (by go_simp) ((clone_sector _ _ _ W (FAR.out W hSW).1.sure (sureCells_one _) (by have := H.out.few; omega)).mono fun e w' ⟨a, cp, he, hn, ho, hk⟩ => ⟨_, he, Mod.of_below hn, a, cp, rfl, ho, fun k e => Nat.le_trans (FAR.out W hSW).2.2 (hk k e)⟩)
  case s5 =>
    intro g W hSW hd
    try simp only [Nat.zero_add, Nat.reduceAdd] at hd ⊢
    with_reducible refine OpGives.pre_reads [] 22 ?_ ?_ ?_
    · rfl
    · kernel_rfl
    simp only [List.map_cons, List.map_nil]
    refine OpGives.val (w' := W) ?_ ⟨Mod.refl _ _, rfl⟩
    go_simp
    try with_reducible rfl
  case s6 =>
    intro g W hSW hd
    try simp only [Nat.zero_add, Nat.reduceAdd] at hd ⊢
    have h5 : g 5 = _ := hd 5 (by decide) (by kernel_rfl)
    with_reducible refine OpGives.pre_reads [(15, 5)] 22 ?_ ?_ ?_
    · rfl
    · kernel_rfl
    simp only [List.map_cons, List.map_nil]
    refine OpGives.val (w' := W) ?_ ⟨Mod.refl _ _, rfl⟩
    go_simp
    try with_reducible rfl
  case s7 =>
    intro g W hSW hd
    try simp only [Nat.zero_add, Nat.reduceAdd] at hd ⊢
    have h6 : g 6 = _ := hd 6 (by decide) (by kernel_rfl)
    with_reducible refine OpGives.pre_reads [(16, 6)] 22 ?_ ?_ ?_
    · rfl
    · kernel_rfl
    simp only [List.map_cons, List.map_nil]
    refine OpGives.val (w' := W) ?_ ⟨Mod.refl _ _, rfl⟩
    go_simp
    try with_reducible rfl
  case s8 =>
    intro g W hSW hd
    try simp only [Nat.zero_add, Nat.reduceAdd] at hd ⊢
    have h7 : g 7 = _ := hd 7 (by decide) (by kernel_rfl)
    with_reducible refine OpGives.pre_reads [(17, 7)] 22 ?_ ?_ ?_
    · rfl
    · kernel_rfl
    simp only [List.map_cons, List.map_nil]
    have c0 := (FAR.out W hSW).1.cell.cells.2.1; refine OpGives.val (w' := W) ?_ ⟨Mod.refl _ _, rfl⟩; go_simp
  case s9 =>
    intro g W hSW hd
    try simp only [Nat.zero_add, Nat.reduceAdd] at hd ⊢
    have h8 : g 8 = _ := hd 8 (by decide) (by kernel_rfl)
    with_reducible refine OpGives.pre_reads [(18, 8)] 22 ?_ ?_ ?_
    · rfl
    · kernel_rfl
    simp only [List.map_cons, List.map_nil]
    refine OpGives.call (f := 54) (args := #[lv]) (w' := W) (by go_simp) ((clone_loose _ _ _ W (FAR.out W hSW).1.loose (looseCells_one _) hn).mono fun e w' ⟨a, cp, he, hn, ho, hk⟩ => ⟨_, he, Mod.of_below hn, a, cp, rfl, ho, fun k e => Nat.le_trans (FAR.out W hSW).2.2 (hk k e)⟩)
  case hS => exact fun a b h k => Mod.trans h k (fun _ e => .inl e)
  case h0 => exact Mod.drew (Mod.refl _ _)
  case fin =>
    intro v W hSW hf
    have h4 : (clonedF (c + 1) 97 64 D.sure.length (sureCells D.sure)).p (v 4) W := hf 4 (Nat.lt_of_lt_of_eq (by decide : 4 < 10) rfl)
    have h9 : (clonedF (c + 1) 100 65 D.loose.length (looseCells D.loose)).p (v 9) W := hf 9 (Nat.lt_of_lt_of_eq (by decide : 9 < 10) rfl)
    clear hf
    generalize hF : Ord.pre _ _ v _ = F
    rw [Ord.pre_lit [some 10, some 11, some 12, some 13, some 14, some 15, some 16, some 17, some 18, some 19]
      (by kernel_rfl)] at hF
    simp only [Ord.puts, Nat.zero_add, Nat.reduceAdd] at hF
    subst hF
    obtain ⟨a4, cp4, e4, o4, k4⟩ := h4
    obtain ⟨a9, cp9, e9, o9, k9⟩ := h9
    obtain ⟨g4, c4', e4', _, _⟩ := o4.form H.out.pos
    injection e4' with e5 e6 e7
    subst e5
    rw [e4, e9]
    clear e4 e9
    obtain ⟨hdW, hcW, _⟩ := FAR.out W hSW
    have f0 := hcW.free 0
    have f1 := hcW.free 1
    have c0 := hcW.cells.1
    have c1 := hcW.cells.2.1
    have hm : Mod (fun i => i = c) W ((W.setCell ⟨c, 0, none⟩ (.slice (some ⟨g4, 0, none⟩) D.sure.length cp4)).setCell ⟨c, 1, none⟩ (.slice a9 D.loose.length cp9)) :=
      Mod.trans (F := fun i => i = c) (G := fun i => i = c) (Mod.setCell _ _ _ rfl) (Mod.setCell _ _ _ rfl) (fun _ e => .inl e)
    have hb4 : c + 1 ≤ g4 := k4 g4 rfl
    have hdone : CopyAt D w (.returned (.pointer (some ⟨c, 0, none⟩))) ((W.setCell ⟨c, 0, none⟩ (.slice (some ⟨g4, 0, none⟩) D.sure.length cp4)).setCell ⟨c, 1, none⟩ (.slice a9 D.loose.length cp9)) := by
      have hcc := HCC.out
      refine ⟨c, g4, cp4, .slice a9 D.loose.length cp9, rfl, by omega, by omega, fun k hk => by have := k9 k hk; omega, ⟨(hcW.set0 _).set1 _, ?_, ?_, by omega, fun e => by have := k9 c e; omega, ownsRow_apart o4 o9 (by decide) g4 rfl, H.out.pos, H.out.few, H.out.wsure, H.out.wloose⟩, ?_⟩
      · exact ownsRow_mod o4 hm (fun k hk e => by have := k4 k hk; omega)
      · exact ownsRow_mod o9 hm (fun k hk e => by have := k9 k hk; omega)
      · have h1 : Mod (fun i => i = c) w W := (Mod.of_below HNX.out : Mod (fun i => i = c) w wx).trans hSW (fun _ e => e.elim)
        exact (h1.trans hm (fun _ e => .inl e)).below (Nat.le_refl _) (fun i e => by omega)
    have HDONE := Lib.hid hdone
    clear hdone hm hdW hcW o4 o9 k4 k9 hb4
    refine any_one (i := 10) (by kernel_rfl) ?_
    refine wpOp_value (v := .pointer (some ⟨c, 0, none⟩)) (w' := W) rfl rfl (by go_simp) ?_
    refine any_one (i := 11) (by kernel_rfl) ?_
    refine wpOp_skip (w' := W.setCell ⟨c, 0, none⟩ (.slice (some ⟨g4, 0, none⟩) D.sure.length cp4)) rfl rfl (by go_simp) ?_
    refine any_one (i := 12) (by kernel_rfl) ?_
    refine wpOp_value (v := .pointer (some ⟨c, 1, none⟩)) (w' := W.setCell ⟨c, 0, none⟩ (.slice (some ⟨g4, 0, none⟩) D.sure.length cp4)) rfl rfl (by go_simp) ?_
    refine any_one (i := 13) (by kernel_rfl) ?_
    refine wpOp_skip (w' := (W.setCell ⟨c, 0, none⟩ (.slice (some ⟨g4, 0, none⟩) D.sure.length cp4)).setCell ⟨c, 1, none⟩ (.slice a9 D.loose.length cp9)) rfl rfl (by go_simp) ?_
    refine wpAny_done (by kernel_rfl) ?_ _
    simp only [List.getElem_toArray, List.getElem_cons_succ, List.getElem_cons_zero]
    go_frame
    generalize (W.setCell ⟨c, 0, none⟩ (.slice (some ⟨g4, 0, none⟩) D.sure.length cp4)).setCell ⟨c, 1, none⟩ (.slice a9 D.loose.length cp9) = W2 at *
    clear c0 c1 f0 f1
    go_wp2_with fail
    go_ret
    exact HDONE.out
end Go.Proofs.YteljihpheffjnaaDoor.Drum
/- Things in memory that lie apart; the drum's methods over them. -/
namespace Go.Proofs.YteljihpheffjnaaDoor.Drum
open Go.RowKit Go.Proofs.YteljihpheffjnaaDoor.Ord Go.Proofs.YteljihpheffjnaaDoorW.PrintWords Go.Proofs.YteljihpheffjnaaDoor.Base
set_option linter.unusedVariables false

/-- Something that lies in memory: what is said of it, and its blocks. -/
structure Thing where
  P : World → Prop
  F : Nat → Prop
  kept : ∀ (W W' : World) (G : Nat → Prop), P W → Mod G W W' → (∀ k, F k → ¬ G k) → P W'
  lt : ∀ (W : World), P W → ∀ k, F k → k < W.heap.size
def Thing.apart (a b : Thing) : Prop := ∀ k, a.F k → ¬ b.F k
/-- From w on, beyond block B, there are these things, each apart from the others. -/
structure Sep (B : Nat) (w W : World) (l : List Thing) : Prop where
  below : Below B w W
  le : B ≤ W.heap.size
  all : ∀ t ∈ l, t.P W ∧ ∀ k, t.F k → B ≤ k
  apart : l.Pairwise Thing.apart
theorem Sep.start (w : World) : Sep w.heap.size w w [] := ⟨Below.refl _ _, Nat.le_refl _, fun _ h => (by cases h), List.Pairwise.nil⟩
theorem Sep.turn {B : Nat} {w W W' : World} {t t' : Thing} {l : List Thing} (h : Sep B w W (t :: l)) (hm : Mod t.F W W') (ht : t'.P W') (hF : ∀ k, t'.F k → t.F k ∨ W.heap.size ≤ k) : Sep B w W' (t' :: l) := by
  have hp := List.pairwise_cons.1 h.apart
  have h0 := h.all t List.mem_cons_self
  refine ⟨h.below.trans (hm.below h.le h0.2), Nat.le_trans h.le hm.size, fun x hx => ?_, List.pairwise_cons.2 ⟨fun y hy k hk hy' => ?_, hp.2⟩⟩
  · rcases List.mem_cons.1 hx with rfl | hx
    · exact ⟨ht, fun k hk => by rcases hF k hk with e | e; exact h0.2 k e; exact Nat.le_trans h.le e⟩
    · have := h.all x (List.mem_cons_of_mem _ hx)
      exact ⟨x.kept _ _ _ this.1 hm (fun k hk hk' => hp.1 x hx k hk' hk), this.2⟩
  · have hy0 := h.all y (List.mem_cons_of_mem _ hy)
    rcases hF k hk with e | e
    · exact hp.1 y hy k e hy'
    · have := y.lt _ hy0.1 k hy'; omega
theorem Sep.new {B : Nat} {w W W' : World} {t : Thing} {l : List Thing} (h : Sep B w W l) (hn : NewMem W W') (ht : t.P W') (hF : ∀ k, t.F k → W.heap.size ≤ k) : Sep B w W' (t :: l) := by
  refine ⟨h.below.trans (hn.mono h.le), Nat.le_trans h.le hn.size, fun x hx => ?_, List.pairwise_cons.2 ⟨fun y hy k hk hy' => ?_, h.apart⟩⟩
  · rcases List.mem_cons.1 hx with rfl | hx
    · exact ⟨ht, fun k hk => Nat.le_trans h.le (hF k hk)⟩
    · have := h.all x hx
      exact ⟨x.kept _ _ (fun _ => False) this.1 (Mod.of_below hn) (fun _ _ => id), this.2⟩
  · have := y.lt _ (h.all y hy).1 k hy'
    have := hF k hk; omega
theorem Sep.grown {B : Nat} {w W W' : World} {l : List Thing} (h : Sep B w W l) (hn : NewMem W W') : Sep B w W' l :=
  ⟨h.below.trans (hn.mono h.le), Nat.le_trans h.le hn.size, fun x hx => ⟨x.kept _ _ (fun _ => False) (h.all x hx).1 (Mod.of_below hn) (fun _ _ => id), (h.all x hx).2⟩, h.apart⟩
theorem Thing.apart_symm {a b : Thing} (h : a.apart b) : b.apart a := fun k hb ha => h k ha hb
theorem Sep.perm {B : Nat} {w W : World} {l l' : List Thing} (h : Sep B w W l) (hp : l.Perm l') : Sep B w W l' :=
  ⟨h.below, h.le, fun t ht => h.all t (hp.mem_iff.2 ht), hp.pairwise h.apart Thing.apart_symm⟩
theorem Sep.swap {B : Nat} {w W : World} {a b : Thing} {l : List Thing} (h : Sep B w W (a :: b :: l)) : Sep B w W (b :: a :: l) := h.perm (List.Perm.swap b a l)
theorem Sep.tail {B : Nat} {w W : World} {a : Thing} {l : List Thing} (h : Sep B w W (a :: l)) : Sep B w W l :=
  ⟨h.below, h.le, fun t ht => h.all t (List.mem_cons_of_mem _ ht), (List.pairwise_cons.1 h.apart).2⟩
theorem Sep.drewN {B : Nat} {w W : World} {l : List Thing} (h : Sep B w W l) (n : Nat) : Sep B w (W.drewN n) l := h.grown (below_drewN' (Below.refl _ _))
theorem Sep.drew {B : Nat} {w W : World} {l : List Thing} (h : Sep B w W l) : Sep B w W.drew l := h.drewN 1

/-- A drum. -/
def drumT (b sb cap : Nat) (lv : Value) (D : DS) : Thing where
  P := fun W => DrumAt W b sb cap lv D
  F := foot b sb lv
  kept := fun W W' G h hm hG => h.kept hm hG
  lt := fun W h k hk => by
    rcases hk with rfl | rfl | hk
    · exact h.cell.lt
    · exact (h.sure.lt _ rfl).2
    · exact (h.loose.lt k hk).2
def IsDrum (b : Nat) (D : DS) (t : Thing) : Prop := ∃ sb cap lv, t = drumT b sb cap lv D
/-- A call that turned a drum to D'. -/
def Turned (B : Nat) (w : World) (l : List Thing) (b : Nat) (r : Int × DS) (e : Ending) (W' : World) : Prop := ∃ t, e = .returned (.int .i64 r.1) ∧ IsDrum b r.2 t ∧ Sep B w W' (t :: l)
theorem Turned.of_did {B : Nat} {w W W' : World} {l : List Thing} {b sb cap : Nat} {lv : Value} {D : DS} {r : Int × DS} {e : Ending} (h : Sep B w W (drumT b sb cap lv D :: l)) (hd : Did W b sb cap lv r e W') : Turned B w l b r e W' := by
  obtain ⟨lv', he, hat, hlv, hm⟩ := hd
  refine ⟨drumT b sb cap lv' r.2, he, ⟨_, _, _, rfl⟩, h.turn hm hat (fun k hk => ?_)⟩
  rcases hk with rfl | rfl | hk
  · exact .inl (.inl rfl)
  · exact .inl (.inr (.inl rfl))
  · rcases hlv k hk with e | e
    · exact .inl (.inr (.inr e))
    · exact .inr e
section
variable {B : Nat} {w W : World} {l : List Thing} {b : Nat} {D : DS} {t : Thing}
theorem write_sep (h : Sep B w W (t :: l)) (ht : IsDrum b D t) (i : Int) (s : ByteArray) (hs : s.size ≤ 1000000) (hn : D.loose.length ≤ 1000000) :
    Calls Tryd.prog 34 #[.pointer (some ⟨b, 0, none⟩), .int .i64 i, .string s] W (Turned B w l b (D.write i s.data.toList)) := by
  obtain ⟨sb, cap, lv, rfl⟩ := ht
  exact (write_at b sb cap lv D i s W (h.all _ List.mem_cons_self).1 hs hn).mono fun e W' hd => Turned.of_did h hd
theorem settle_sep (h : Sep B w W (t :: l)) (ht : IsDrum b D t) (hn : D.loose.length ≤ 1000000) :
    Calls Tryd.prog 36 #[.pointer (some ⟨b, 0, none⟩)] W (Turned B w l b D.settle) := by
  obtain ⟨sb, cap, lv, rfl⟩ := ht
  exact (settle_at b sb cap lv D W (h.all _ List.mem_cons_self).1 hn).mono fun e W' hd => Turned.of_did h hd
theorem crash_sep (h : Sep B w W (t :: l)) (ht : IsDrum b D t) (hn : D.loose.length ≤ 1000000) (a : Option Addr) (n kc : Nat) (zs : List Int) (hz : IntsAt W a n zs) (ha : 0 < n → ∀ ad, a = some ad → ¬ t.F ad.block) :
    Calls Tryd.prog 17 #[.pointer (some ⟨b, 0, none⟩), .slice a n kc] W (Turned B w l b (0, D.crash zs)) := by
  obtain ⟨sb, cap, lv, rfl⟩ := ht
  exact (crash_at b sb cap lv D a n kc zs W (h.all _ List.mem_cons_self).1 hn hz (fun h0 ad e x => ha h0 ad e (.inr (.inl x)))).mono fun e W' hd => Turned.of_did h hd
def DS.arm (D : DS) (i : Int) : Int × DS := if i < 0 then (2, D) else if D.down then (9, D) else (0, { D with armed := true, left := i })
theorem arm_sep (h : Sep B w W (t :: l)) (ht : IsDrum b D t) (i : Int) :
    Calls Tryd.prog 28 #[.pointer (some ⟨b, 0, none⟩), .int .i64 i] W (Turned B w l b (D.arm i)) := by
  obtain ⟨sb, cap, lv, rfl⟩ := ht
  have hd : DrumAt W b sb cap lv D := (h.all _ List.mem_cons_self).1
  refine (arm_at b _ _ _ lv _ _ _ i W hd.cell hd.pos).mono fun e W' hx => ?_
  refine Turned.of_did h ?_
  unfold DS.arm
  rcases hx with ⟨hi, he, rfl⟩ | ⟨hi, hdn, he, rfl⟩ | ⟨hi, hdn, he, hc, hm⟩
  · rw [if_pos hi, he]; exact Did.same hd 2
  · rw [if_neg (by omega), if_pos hdn, he]; exact Did.same hd 9
  · rw [if_neg (by omega), if_neg (by rw [hdn]; simp)]
    exact ⟨lv, he, ⟨hc, ownsRow_mod hd.sure hm (fun k hk e => hd.ne (by subst e; simpa [Value.ownBlock] using hk.symm)), ownsRow_mod hd.loose hm (fun k hk e => hd.nel (by rw [hk, e])), hd.ne, hd.nel, hd.nes, hd.pos, hd.few, hd.wsure, hd.wloose⟩, fun k hk => .inl hk, hm.mono (fun _ e => .inl e)⟩
theorem read_sep (h : Sep B w W (t :: l)) (ht : IsDrum b D t) (hn : D.loose.length ≤ 1000000) (i : Int) :
    Calls Tryd.prog 51 #[.pointer (some ⟨b, 0, none⟩), .int .i64 i] W fun e W' => e = .returned (.tuple #[.string ⟨(D.read i).1.toArray⟩, .int .i64 (D.read i).2]) ∧ Sep B w W' (t :: l) := by
  obtain ⟨sb, cap, lv, rfl⟩ := ht
  exact (read_at b sb cap lv D i W (h.all _ List.mem_cons_self).1 hn).mono fun e W' ⟨he, hm⟩ => ⟨he, h.grown hm⟩
theorem loose_sep (h : Sep B w W (t :: l)) (ht : IsDrum b D t) :
    Calls Tryd.prog 19 #[.pointer (some ⟨b, 0, none⟩)] W fun e W' => e = .returned (.int .i64 (D.loose.length : Int)) ∧ W = W' := by
  obtain ⟨sb, cap, lv, rfl⟩ := ht
  have hd : DrumAt W b sb cap lv D := (h.all _ List.mem_cons_self).1
  obtain ⟨a, cp, hlv⟩ : ∃ a cp, lv = .slice a D.loose.length cp := by
    rcases hd.loose.2 with ⟨e, h0⟩ | ⟨g, cp, cur, e, _⟩
    · exact ⟨none, 0, by rw [e, h0]⟩
    · exact ⟨_, cp, e⟩
  exact loose_of b _ a _ _ _ cp W hd.cell.cells.1 (hlv ▸ hd.cell.cells.2.1) hd.pos
theorem size_sep (h : Sep B w W (t :: l)) (ht : IsDrum b D t) :
    Calls Tryd.prog 38 #[.pointer (some ⟨b, 0, none⟩)] W fun e W' => e = .returned (.int .i64 (D.sure.length : Int)) ∧ W = W' := by
  obtain ⟨sb, cap, lv, rfl⟩ := ht
  have hd : DrumAt W b sb cap lv D := (h.all _ List.mem_cons_self).1
  exact size_of b _ _ _ W hd.cell.cells.1 hd.pos
theorem down_sep (h : Sep B w W (t :: l)) (ht : IsDrum b D t) :
    Calls Tryd.prog 55 #[.pointer (some ⟨b, 0, none⟩)] W fun e W' => e = .returned (.bool D.down) ∧ W = W' := by
  obtain ⟨sb, cap, lv, rfl⟩ := ht
  have hd : DrumAt W b sb cap lv D := (h.all _ List.mem_cons_self).1
  exact down_of b _ _ _ _ W hd.cell.cells.1 hd.cell.cells.2.2.2.2 hd.pos
/-- A pointer to a drum of its own. -/
def Made (B : Nat) (w : World) (l : List Thing) (D : DS) (v : Value) (W' : World) : Prop := ∃ b t, v = .pointer (some ⟨b, 0, none⟩) ∧ IsDrum b D t ∧ Sep B w W' (t :: l)
theorem copy_sep (h : Sep B w W (t :: l)) (ht : IsDrum b D t) (hn : D.loose.length ≤ 1000000) :
    Calls Tryd.prog 29 #[.pointer (some ⟨b, 0, none⟩)] W fun e W' => ∃ v, e = .returned v ∧ Made B w (t :: l) D v W' := by
  obtain ⟨sb, cap, lv, rfl⟩ := ht
  refine (copy_at b sb cap lv D W (h.all _ List.mem_cons_self).1 hn).mono fun e W' ⟨b', sb', cap', lv', he, h1, h2, h3, hd, hm⟩ => ?_
  refine ⟨_, he, b', drumT b' sb' cap' lv' D, rfl, ⟨_, _, _, rfl⟩, h.new hm hd (fun k hk => ?_)⟩
  rcases hk with rfl | rfl | hk
  · exact h1
  · exact h2
  · exact h3 k hk
theorem new_sep (h : Sep B w W l) (n : Nat) (h0 : 0 < n) (hn : n ≤ 4096) :
    Calls Tryd.prog 15 #[.int .i64 (n : Int)] W fun e W' => ∃ v, e = .returned (.tuple #[v, .int .i64 0]) ∧ Made B w l (DS.zero n) v W' := by
  refine (new_ok n h0 hn W).mono fun e W' ⟨b', sb', cap', he, h1, h2, hd, hm⟩ => ?_
  refine ⟨_, he, b', drumT b' sb' cap' (.slice none 0 0) (DS.zero n), rfl, ⟨_, _, _, rfl⟩, h.new hm hd (fun k hk => ?_)⟩
  rcases hk with rfl | rfl | hk
  · exact h1
  · exact h2
  · simp [Value.ownBlock] at hk
end
end Go.Proofs.YteljihpheffjnaaDoor.Drum
