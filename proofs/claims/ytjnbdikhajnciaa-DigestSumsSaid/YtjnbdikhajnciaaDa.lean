/- Walks of the digest's small functions: rotations. -/
import Derived.Test.YtjnbdikhajnciaaProg
import Derived.Test.YtjnbdikhajnciaaSha
import Derived.WalkKit
import Derived.WalkSpells
import Derived.WalkLawsBesides
import Derived.KernelRfl
import Derived.Deep.Draws
import Derived.Deep.QuietTactic
import Derived.BigQuiet
import Derived.Lib.Hide
namespace Go.Proofs.Ytjnbdikhajnciaa.Dig
open Go.RowKit Go.Proofs.Ytjnbdikhajnciaa.Sha

def Quiet (w w' : World) : Prop := ∃ n, w' = w.drewN n
theorem Quiet.refl (w : World) : Quiet w w := ⟨0, rfl⟩

theorem mask_all : ∀ n : Fin 32, 0 < n.val → bits .and .u64 (IntKind.u64.wrap (-(n.val : Int))) 31 = ((32 - n.val : Nat) : Int) := by decide +kernel
theorem mask_of (m n : Nat) (hn : 0 < n ∧ n < 32) (hm : m + n = 32) : bits .and .u64 (IntKind.u64.wrap (-(n : Int))) 31 = (m : Int) := by
  have := mask_all ⟨n, hn.2⟩ hn.1; rw [this]; simp; omega

theorem ret_u32 {a b : Int} (h : a = b) : Ending.returned (.int .u32 a) = .returned (.int .u32 b) := by rw [h]

set_option maxHeartbeats 8000000 in
theorem rotl_any (x : BitVec 32) (m n : Nat) (w : World) (h0 : 0 < n) (hn : n < 32) (hm : m + n = 32) :
    Calls Try.prog 81 #[.int .u32 (u x), .int .i64 (-(n : Int))] w fun e w' => e = .returned (.int .u32 (u (rotr x n))) ∧ w = w' := by
  have hb := mask_of m n ⟨h0, hn⟩ hm
  have h1 : (32 : Int) - (m : Int) = (n : Int) := by omega
  have h2 : IntKind.u32.wrap (u x * 2 ^ m) = u (x <<< m) := shl_nat x m
  have h3 : u x / 2 ^ n = u (x >>> n) := shr_nat x n
  have h4 := bits_or (x <<< m) (x >>> n)
  have h5 : ((x <<< m) ||| (x >>> n)) = rotr x n := by unfold rotr; rw [BitVec.or_comm]; congr 2; omega
  rw [h5] at h4
  have H := Lib.hid hm
  clear hm h5
  go_enter Try.func81, Try.ntmps81
  go_wp2
  go_ret
  exact ⟨rfl, rfl⟩

set_option maxHeartbeats 8000000 in
theorem right_any (x : BitVec 32) (n : Nat) (w : World) (h0 : 0 < n) (hn : n < 32) :
    Calls Try.prog 80 #[.int .u32 (u x), .int .i64 (n : Int)] w fun e w' => e = .returned (.int .u32 (u (rotr x n))) ∧ w = w' := by
  go_enter Try.func80, Try.ntmps80
  go_wp2_with (go_at_call 81; refine (rotl_any x (32 - n) n _ h0 hn (by omega)).mono ?_; rintro e w' ⟨rfl, rfl⟩)
  go_ret
  exact ⟨rfl, rfl⟩

set_option maxHeartbeats 8000000 in
theorem rot_core (x : BitVec 32) (m n : Nat) (w : World) (h0 : 0 < n) (hn : n < 32) (hm : m + n = 32) :
    Calls Try.prog 70 #[.int .u32 (u x), .int .i64 (n : Int)] w fun e w' => e = .returned (.int .u32 (u (rotr x n))) ∧ ∃ q, w' = w.drewN q := by
  have h1 : (32 : Int) - (n : Int) = (m : Int) := by omega
  have h2 : IntKind.u32.wrap (u x * 2 ^ m) = u (x <<< m) := shl_nat x m
  have h3 : u x / 2 ^ n = u (x >>> n) := shr_nat x n
  have h4 := bits_or (x >>> n) (x <<< m)
  have h5 : ((x >>> n) ||| (x <<< m)) = rotr x n := by unfold rotr; congr 2; omega
  rw [h5] at h4
  have hm' : m < 32 := by omega
  have H := Lib.hid hm
  clear hm h5
  go_enter Try.func70, Try.ntmps70
  go_wp2
  go_quiet (fail)
  go_wp2
  go_ret
  exact ⟨rfl, nq, rfl⟩
theorem rot_any (x : BitVec 32) (n : Nat) (w : World) (h0 : 0 < n) (hn : n < 32) :
    Calls Try.prog 70 #[.int .u32 (u x), .int .i64 (n : Int)] w fun e w' => e = .returned (.int .u32 (u (rotr x n))) ∧ ∃ q, w' = w.drewN q :=
  rot_core x (32 - n) n w h0 hn (by omega)
theorem right_2 (x : BitVec 32) (w : World) : Calls Try.prog 80 #[.int .u32 (u x), .int .i64 2] w fun e w' => e = .returned (.int .u32 (u (rotr x 2))) ∧ w' = w :=
  (right_any x 2 w (by omega) (by omega)).mono fun _ _ h => ⟨h.1, h.2.symm⟩
theorem rot_2 (x : BitVec 32) (w : World) : Calls Try.prog 70 #[.int .u32 (u x), .int .i64 2] w fun e w' => e = .returned (.int .u32 (u (rotr x 2))) ∧ ∃ q, w' = w.drewN q := rot_any x 2 w (by omega) (by omega)
theorem right_6 (x : BitVec 32) (w : World) : Calls Try.prog 80 #[.int .u32 (u x), .int .i64 6] w fun e w' => e = .returned (.int .u32 (u (rotr x 6))) ∧ w' = w :=
  (right_any x 6 w (by omega) (by omega)).mono fun _ _ h => ⟨h.1, h.2.symm⟩
theorem rot_6 (x : BitVec 32) (w : World) : Calls Try.prog 70 #[.int .u32 (u x), .int .i64 6] w fun e w' => e = .returned (.int .u32 (u (rotr x 6))) ∧ ∃ q, w' = w.drewN q := rot_any x 6 w (by omega) (by omega)
theorem right_7 (x : BitVec 32) (w : World) : Calls Try.prog 80 #[.int .u32 (u x), .int .i64 7] w fun e w' => e = .returned (.int .u32 (u (rotr x 7))) ∧ w' = w :=
  (right_any x 7 w (by omega) (by omega)).mono fun _ _ h => ⟨h.1, h.2.symm⟩
theorem rot_7 (x : BitVec 32) (w : World) : Calls Try.prog 70 #[.int .u32 (u x), .int .i64 7] w fun e w' => e = .returned (.int .u32 (u (rotr x 7))) ∧ ∃ q, w' = w.drewN q := rot_any x 7 w (by omega) (by omega)
theorem right_11 (x : BitVec 32) (w : World) : Calls Try.prog 80 #[.int .u32 (u x), .int .i64 11] w fun e w' => e = .returned (.int .u32 (u (rotr x 11))) ∧ w' = w :=
  (right_any x 11 w (by omega) (by omega)).mono fun _ _ h => ⟨h.1, h.2.symm⟩
theorem rot_11 (x : BitVec 32) (w : World) : Calls Try.prog 70 #[.int .u32 (u x), .int .i64 11] w fun e w' => e = .returned (.int .u32 (u (rotr x 11))) ∧ ∃ q, w' = w.drewN q := rot_any x 11 w (by omega) (by omega)
theorem right_13 (x : BitVec 32) (w : World) : Calls Try.prog 80 #[.int .u32 (u x), .int .i64 13] w fun e w' => e = .returned (.int .u32 (u (rotr x 13))) ∧ w' = w :=
  (right_any x 13 w (by omega) (by omega)).mono fun _ _ h => ⟨h.1, h.2.symm⟩
theorem rot_13 (x : BitVec 32) (w : World) : Calls Try.prog 70 #[.int .u32 (u x), .int .i64 13] w fun e w' => e = .returned (.int .u32 (u (rotr x 13))) ∧ ∃ q, w' = w.drewN q := rot_any x 13 w (by omega) (by omega)
theorem right_17 (x : BitVec 32) (w : World) : Calls Try.prog 80 #[.int .u32 (u x), .int .i64 17] w fun e w' => e = .returned (.int .u32 (u (rotr x 17))) ∧ w' = w :=
  (right_any x 17 w (by omega) (by omega)).mono fun _ _ h => ⟨h.1, h.2.symm⟩
theorem rot_17 (x : BitVec 32) (w : World) : Calls Try.prog 70 #[.int .u32 (u x), .int .i64 17] w fun e w' => e = .returned (.int .u32 (u (rotr x 17))) ∧ ∃ q, w' = w.drewN q := rot_any x 17 w (by omega) (by omega)
theorem right_18 (x : BitVec 32) (w : World) : Calls Try.prog 80 #[.int .u32 (u x), .int .i64 18] w fun e w' => e = .returned (.int .u32 (u (rotr x 18))) ∧ w' = w :=
  (right_any x 18 w (by omega) (by omega)).mono fun _ _ h => ⟨h.1, h.2.symm⟩
theorem rot_18 (x : BitVec 32) (w : World) : Calls Try.prog 70 #[.int .u32 (u x), .int .i64 18] w fun e w' => e = .returned (.int .u32 (u (rotr x 18))) ∧ ∃ q, w' = w.drewN q := rot_any x 18 w (by omega) (by omega)
theorem right_19 (x : BitVec 32) (w : World) : Calls Try.prog 80 #[.int .u32 (u x), .int .i64 19] w fun e w' => e = .returned (.int .u32 (u (rotr x 19))) ∧ w' = w :=
  (right_any x 19 w (by omega) (by omega)).mono fun _ _ h => ⟨h.1, h.2.symm⟩
theorem rot_19 (x : BitVec 32) (w : World) : Calls Try.prog 70 #[.int .u32 (u x), .int .i64 19] w fun e w' => e = .returned (.int .u32 (u (rotr x 19))) ∧ ∃ q, w' = w.drewN q := rot_any x 19 w (by omega) (by omega)
theorem right_22 (x : BitVec 32) (w : World) : Calls Try.prog 80 #[.int .u32 (u x), .int .i64 22] w fun e w' => e = .returned (.int .u32 (u (rotr x 22))) ∧ w' = w :=
  (right_any x 22 w (by omega) (by omega)).mono fun _ _ h => ⟨h.1, h.2.symm⟩
theorem rot_22 (x : BitVec 32) (w : World) : Calls Try.prog 70 #[.int .u32 (u x), .int .i64 22] w fun e w' => e = .returned (.int .u32 (u (rotr x 22))) ∧ ∃ q, w' = w.drewN q := rot_any x 22 w (by omega) (by omega)
theorem right_25 (x : BitVec 32) (w : World) : Calls Try.prog 80 #[.int .u32 (u x), .int .i64 25] w fun e w' => e = .returned (.int .u32 (u (rotr x 25))) ∧ w' = w :=
  (right_any x 25 w (by omega) (by omega)).mono fun _ _ h => ⟨h.1, h.2.symm⟩
theorem rot_25 (x : BitVec 32) (w : World) : Calls Try.prog 70 #[.int .u32 (u x), .int .i64 25] w fun e w' => e = .returned (.int .u32 (u (rotr x 25))) ∧ ∃ q, w' = w.drewN q := rot_any x 25 w (by omega) (by omega)
end Go.Proofs.Ytjnbdikhajnciaa.Dig
