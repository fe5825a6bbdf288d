/- The drum: plain states, how they lie in memory, which blocks a call may turn. -/
import Derived.Test.YtjnbdikhajnciaaRg
import Derived.Test.YtjnbdikhajnciaaBa
import Derived.Deep.AppendLies
import Derived.Lib.Hide
namespace Go.Proofs.Ytjnbdikhajnciaa.Drum
open Go.RowKit Go.Proofs.Ytjnbdikhajnciaa.Ord Go.Proofs.YtjnbdikhajnciaaW.PrintWords Go.Proofs.Ytjnbdikhajnciaa.Base

/-- From w to w' nothing that was there has turned but blocks of F. -/
structure Mod (F : Nat → Prop) (w w' : World) : Prop where
  os : w'.os = w.os
  tape : w'.tape = w.tape
  output : w'.output = w.output
  size : w.heap.size ≤ w'.heap.size
  block : ∀ k, k < w.heap.size → ¬ F k → w'.heap[k]? = w.heap[k]?
theorem Mod.refl (F : Nat → Prop) (w : World) : Mod F w w := ⟨rfl, rfl, rfl, Nat.le_refl _, fun _ _ _ => rfl⟩
theorem Mod.trans {F G : Nat → Prop} {a b c : World} (h : Mod F a b) (k : Mod G b c) (hG : ∀ i, G i → F i ∨ a.heap.size ≤ i) : Mod F a c :=
  ⟨k.os.trans h.os, k.tape.trans h.tape, k.output.trans h.output, Nat.le_trans h.size k.size, fun i hi hF =>
    (k.block i (Nat.lt_of_lt_of_le hi h.size) (fun hg => by rcases hG i hg with x | x; exact hF x; omega)).trans (h.block i hi hF)⟩
theorem Mod.below {F : Nat → Prop} {B : Nat} {w w' : World} (h : Mod F w w') (hB : B ≤ w.heap.size) (hF : ∀ i, F i → B ≤ i) : Below B w w' :=
  ⟨h.os, h.tape, h.output, h.size, fun k hk => h.block k (by omega) (fun hf => by have := hF k hf; omega)⟩
theorem Mod.of_below {F : Nat → Prop} {w w' : World} (h : Below w.heap.size w w') : Mod F w w' := ⟨h.os, h.tape, h.output, h.size, fun k hk _ => h.block k hk⟩
theorem Mod.of_grown {F : Nat → Prop} {w w' : World} {row : Option Nat} (h : w.grownBy w' row) (hF : ∀ k, row = some k → F k) : Mod F w w' :=
  ⟨h.os, h.tape, h.output, h.size, fun k hk hf => h.block k hk (fun e => hf (hF k e.symm))⟩
theorem Mod.setCell {F : Nat → Prop} (w : World) (a : Addr) (v : Value) (ha : F a.block) : Mod F w (w.setCell a v) :=
  ⟨rfl, rfl, rfl, by simp [World.setCell], fun k _ hf => Below.heap_setCell _ _ _ _ (fun e => hf (e ▸ ha))⟩
theorem Mod.mono {F G : Nat → Prop} {w w' : World} (h : Mod F w w') (hFG : ∀ i, F i → G i) : Mod G w w' :=
  ⟨h.os, h.tape, h.output, h.size, fun k hk hg => h.block k hk (fun hf => hg (hFG k hf))⟩
theorem Mod.drewN {F : Nat → Prop} {w w' : World} (h : Mod F w w') (n : Nat) : Mod F w (w'.drewN n) := ⟨h.os, h.tape, h.output, h.size, h.block⟩
theorem Mod.drew {F : Nat → Prop} {w w' : World} (h : Mod F w w') : Mod F w w'.drew := ⟨h.os, h.tape, h.output, h.size, h.block⟩

/-- A drum in plain terms. -/
structure DS where
  sure : List (List UInt8)
  loose : List (Nat × List UInt8)
  armed : Bool
  left : Int
  down : Bool

def secCells (s : List UInt8) : List Value := nums .u8 (ints s)
def sureCells (l : List (List UInt8)) : List Value := l.flatMap secCells
def looseCells (l : List (Nat × List UInt8)) : List Value := l.flatMap fun p => secCells p.2 ++ [.int .i64 (p.1 : Int)]
theorem secCells_len (s : List UInt8) : (secCells s).length = s.length := by simp [secCells, nums, ints]

/-- The five cells of a drum's struct. -/
def DCell (w : World) (b : Nat) (sv lv : Value) (armed : Bool) (left : Int) (down : Bool) : Prop :=
  w.heap[b]? = some (.cells #[sv, lv, .bool armed, .int .i64 left, .bool down] 73 (0, 0))
theorem DCell.cells {w : World} {b : Nat} {sv lv : Value} {armed down : Bool} {left : Int} (h : DCell w b sv lv armed left down) :
    w.cell? ⟨b, 0, none⟩ = some sv ∧ w.cell? ⟨b, 1, none⟩ = some lv ∧ w.cell? ⟨b, 2, none⟩ = some (.bool armed) ∧ w.cell? ⟨b, 3, none⟩ = some (.int .i64 left) ∧ w.cell? ⟨b, 4, none⟩ = some (.bool down) := by
  unfold DCell at h; simp [World.cell?, h]
theorem DCell.free {w : World} {b : Nat} {sv lv : Value} {armed down : Bool} {left : Int} (h : DCell w b sv lv armed left down) (i : Nat) : w.frozen? ⟨b, i, none⟩ = false := frozen_of_row w b i _ _ h
theorem DCell.lt {w : World} {b : Nat} {sv lv : Value} {armed down : Bool} {left : Int} (h : DCell w b sv lv armed left down) : b < w.heap.size := (Array.getElem?_eq_some_iff.1 h).1
theorem DCell.kept {F : Nat → Prop} {w w' : World} {b : Nat} {sv lv : Value} {armed down : Bool} {left : Int} (h : DCell w b sv lv armed left down) (hm : Mod F w w') (hb : ¬ F b) : DCell w' b sv lv armed left down :=
  (hm.block b h.lt hb).trans h

/-- The drum D at block b: its sure sectors in block sb, its loose writes under lv. -/
structure DrumAt (w : World) (b sb : Nat) (cap : Nat) (lv : Value) (D : DS) : Prop where
  cell : DCell w b (.slice (some ⟨sb, 0, none⟩) D.sure.length cap) lv D.armed D.left D.down
  sure : w.ownsRow 0 84 64 (.slice (some ⟨sb, 0, none⟩) D.sure.length cap) D.sure.length (sureCells D.sure)
  loose : w.ownsRow 0 86 65 lv D.loose.length (looseCells D.loose)
  ne : b ≠ sb
  nel : lv.ownBlock ≠ some b
  nes : lv.ownBlock ≠ some sb
  pos : 0 < D.sure.length
  few : D.sure.length ≤ 4096
  wsure : ∀ s ∈ D.sure, s.length = 64
  wloose : ∀ p ∈ D.loose, p.2.length = 64 ∧ p.1 < D.sure.length
/-- The blocks of a drum. -/
def foot (b sb : Nat) (lv : Value) (k : Nat) : Prop := k = b ∨ k = sb ∨ lv.ownBlock = some k
theorem ownsRow_mod {F : Nat → Prop} {w w' : World} {base : Nat} {e : TypeId} {size : Nat} {v : Value} {n : Nat} {xs : List Value} (h : w.ownsRow base e size v n xs) (hm : Mod F w w') (hv : ∀ k, v.ownBlock = some k → ¬ F k) :
    w'.ownsRow base e size v n xs := by
  refine ⟨h.1, ?_⟩
  rcases h.2 with hn | ⟨g, cap, cur, rfl, hb, hg, rest⟩
  · exact .inl hn
  · exact .inr ⟨g, cap, cur, rfl, hb, (hm.block g ((Array.getElem?_eq_some_iff.1 hg).1) (hv g rfl)).trans hg, rest⟩
theorem DrumAt.kept {F : Nat → Prop} {w w' : World} {b sb cap : Nat} {lv : Value} {D : DS} (h : DrumAt w b sb cap lv D) (hm : Mod F w w') (hF : ∀ k, foot b sb lv k → ¬ F k) : DrumAt w' b sb cap lv D :=
  ⟨h.cell.kept hm (hF b (.inl rfl)), ownsRow_mod h.sure hm (fun k hk => hF k (.inr (.inl (by simpa [Value.ownBlock] using hk.symm)))), ownsRow_mod h.loose hm (fun k hk => hF k (.inr (.inr hk))), h.ne, h.nel, h.nes, h.pos, h.few, h.wsure, h.wloose⟩
end Go.Proofs.Ytjnbdikhajnciaa.Drum
