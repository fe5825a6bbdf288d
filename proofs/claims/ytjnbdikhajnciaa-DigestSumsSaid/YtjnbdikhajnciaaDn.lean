/- Walks of the reference's digest: a word's bytes, a text's blocks. -/
import Derived.Test.YtjnbdikhajnciaaDm
namespace Go.Proofs.Ytjnbdikhajnciaa.Dig
open Go.RowKit Go.Proofs.Ytjnbdikhajnciaa.Sha Go.Proofs.Ytjnbdikhajnciaa.Ord Go.Proofs.YtjnbdikhajnciaaW.PrintWords

set_option maxRecDepth 100000 in
set_option maxHeartbeats 8000000 in
theorem refbytes_any (v : BitVec 32) (w : World) :
    Calls Try.prog 44 #[.int .u32 (u v)] w fun e w' => e = .returned (.string ⟨(bytesOf v).toArray⟩) ∧ Below w.heap.size w w' := by
  obtain ⟨b3, b2, b1, b0, hbs, e24, e16, e8, e0⟩ := bytesOf_spec v
  rw [hbs]
  clear hbs
  have hcv : ∀ W : World, (convert 87 9 (.slice (some ⟨W.heap.size, 0, none⟩) 4 4)).run Try.prog (W.alloc (.cells (nums .u8 (ints [b3, b2, b1, b0])).toArray 5)) = .ok (.string ⟨[b3, b2, b1, b0].toArray⟩) (W.alloc (.cells (nums .u8 (ints [b3, b2, b1, b0])).toArray 5)) := fun W => by
    have h : (W.alloc (.cells (nums .u8 (ints [b3, b2, b1, b0])).toArray 5)).ownsRow 0 5 1 (.slice (some ⟨W.heap.size, 0, none⟩) 4 4) 4 (nums .u8 (ints [b3, b2, b1, b0])) :=
      ⟨rfl, .inr ⟨_, 4, _, rfl, Nat.zero_le _, heap_alloc_last W _, Nat.le_refl _, by unfold maxLen; omega, rfl, rfl⟩⟩
    have := own_string (P := Try.prog) Try.underlying87 Try.underlying5 Try.underlying9 h
    rw [str_ints] at this
    exact this
  have hcv' : ∀ W : World, (convert 87 9 (.slice (some ⟨W.heap.size, 0, none⟩) 4 4)).run Try.prog (W.alloc (.cells #[.int .u8 (b3.toNat : Int), .int .u8 (b2.toNat : Int), .int .u8 (b1.toNat : Int), .int .u8 (b0.toNat : Int)] 5)) = .ok (.string ⟨[b3, b2, b1, b0].toArray⟩) (W.alloc (.cells #[.int .u8 (b3.toNat : Int), .int .u8 (b2.toNat : Int), .int .u8 (b1.toNat : Int), .int .u8 (b0.toNat : Int)] 5)) := hcv
  clear hcv
  go_enter Try.func44, Try.ntmps44
  go_wp2_with fail
  go_ret
  exact ⟨rfl, (Below.refl _ _).alloc (Nat.le_refl _) _⟩
end Go.Proofs.Ytjnbdikhajnciaa.Dig
