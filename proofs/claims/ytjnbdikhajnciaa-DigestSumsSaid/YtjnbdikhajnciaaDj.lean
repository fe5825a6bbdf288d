/- Walks of the digest: hashes behind pointers. -/
import Derived.Test.YtjnbdikhajnciaaDi
namespace Go.Proofs.Ytjnbdikhajnciaa.Dig
open Go.RowKit Go.Proofs.Ytjnbdikhajnciaa.Sha Go.Proofs.Ytjnbdikhajnciaa.Ord

/-- A hash's cells. -/
def hcells (m : Bool) (x : S8) (r : ByteArray) (n : Int) : List Value :=
  [.bool m, .int .u32 (u x.a), .int .u32 (u x.b), .int .u32 (u x.c), .int .u32 (u x.d), .int .u32 (u x.e), .int .u32 (u x.f), .int .u32 (u x.g), .int .u32 (u x.h), .string r, .int .i64 n]
def HashAt (w : World) (b : Nat) (m : Bool) (x : S8) (r : ByteArray) (n : Int) : Prop := w.heap[b]? = some (.cells (hcells m x r n).toArray 37 (0, 0))
theorem HashAt.cell {w : World} {b : Nat} {m : Bool} {x : S8} {r : ByteArray} {n : Int} (h : HashAt w b m x r n) (i : Nat) : w.cell? ⟨b, i, none⟩ = (hcells m x r n)[i]? := by
  rw [cell_of_row w b i _ _ (0, 0) h]; simp
theorem HashAt.free {w : World} {b : Nat} {m : Bool} {x : S8} {r : ByteArray} {n : Int} (h : HashAt w b m x r n) (i : Nat) : w.frozen? ⟨b, i, none⟩ = false := frozen_of_row w b i _ _ h
theorem HashAt.lt {w : World} {b : Nat} {m : Bool} {x : S8} {r : ByteArray} {n : Int} (h : HashAt w b m x r n) : b < w.heap.size := (Array.getElem?_eq_some_iff.1 h).1
theorem HashAt.below {w w' : World} {b B : Nat} {m : Bool} {x : S8} {r : ByteArray} {n : Int} (h : HashAt w b m x r n) (hb : Below B w w') (hlt : b < B) : HashAt w' b m x r n := (hb.block b hlt).trans h
theorem grown_trans {w1 w2 w3 : World} {row : Option Nat} (h : w1.grownBy w2 row) (k : w2.grownBy w3 row) : w1.grownBy w3 row :=
  ⟨k.os.trans h.os, k.tape.trans h.tape, k.output.trans h.output, Nat.le_trans h.size k.size, fun i hi hne => (k.block i (Nat.lt_of_lt_of_le hi h.size) hne).trans (h.block i hi hne)⟩
theorem grown_refl (w : World) (row : Option Nat) : w.grownBy w row := ⟨rfl, rfl, rfl, Nat.le_refl _, fun _ _ _ => rfl⟩
theorem grown_below {w w' : World} (h : Below w.heap.size w w') (row : Option Nat) : w.grownBy w' row := ⟨h.os, h.tape, h.output, h.size, fun k hk _ => h.block k hk⟩
theorem grown_set (w : World) (a : Addr) (v : Value) : w.grownBy (w.setCell a v) (some a.block) :=
  ⟨rfl, rfl, rfl, by simp [World.setCell], fun k _ hne => Below.heap_setCell _ _ _ _ (fun e => hne (by rw [e]))⟩
theorem HashAt.set {w : World} {b : Nat} {m : Bool} {x : S8} {r : ByteArray} {n : Int} (h : HashAt w b m x r n) (i : Nat) (v : Value) : (w.setCell ⟨b, i, none⟩ v).heap[b]? = some (.cells ((hcells m x r n).set i v).toArray 37 (0, 0)) := by
  have := heap_setCell_same w b i _ _ v h
  rw [this]; simp

set_option maxRecDepth 100000 in
set_option maxHeartbeats 8000000 in
theorem new_any (w : World) :
    Calls Try.prog 15 #[] w fun e w' => ∃ b, e = .returned (.pointer (some ⟨b, 0, none⟩)) ∧ w.heap.size ≤ b ∧ HashAt w' b true init ⟨#[]⟩ 0 ∧ Below w.heap.size w w' := by
  go_enter Try.func15, Try.ntmps15
  go_wp2_with fail
  refine (begin_any _).mono ?_
  rintro e w1 ⟨rfl, hb⟩
  have hz := hb.size
  go_wp2_with (refine wpList_build_as rfl 37 _ rfl (hcells true init ⟨#[]⟩ 0).toArray (by kernel_rfl) ?_)
  go_ret
  exact ⟨w1.heap.size, rfl, hz, heap_alloc_last w1 _, hb.alloc hz _⟩

set_option maxRecDepth 100000 in
set_option maxHeartbeats 8000000 in
theorem is_nil (w : World) :
    Calls Try.prog 46 #[.pointer none] w fun e w' => e = .returned (.bool false) ∧ w = w' := by
  go_enter Try.func46, Try.ntmps46
  go_wp2
  go_ret
  exact ⟨rfl, rfl⟩
set_option maxRecDepth 100000 in
set_option maxHeartbeats 8000000 in
theorem is_at (b : Nat) (m : Bool) (w : World) (h : w.cell? ⟨b, 0, none⟩ = some (.bool m)) :
    Calls Try.prog 46 #[.pointer (some ⟨b, 0, none⟩)] w fun e w' => e = .returned (.bool m) ∧ w = w' := by
  go_enter Try.func46, Try.ntmps46
  go_wp2
  go_ret
  exact ⟨rfl, rfl⟩
end Go.Proofs.Ytjnbdikhajnciaa.Dig
