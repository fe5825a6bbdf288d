/- What stands behind a text: the printed function tells the plain tail. -/
import Derived.Test.YtjnbdikhajnciaaDh
import Derived.Test.YtjnbdikhajnciaaPDigestHexesx1
namespace Go.Proofs.Ytjnbdikhajnciaa.Dig
open Go.RowKit Go.Proofs.Ytjnbdikhajnciaa.Sha Go.Proofs.Ytjnbdikhajnciaa.Ord Go.Proofs.YtjnbdikhajnciaaW.PrintWords Go.Proofs.YtjnbdikhajnciaaW.PrintLast Go.Proofs.YtjnbdikhajnciaaW.PrintMore Go.Proofs.Ytjnbdikhajnciaa.PDigestHexes

theorem w64 (n : Int) (h : -9223372036854775808 ≤ n ∧ n ≤ 9223372036854775807) : wrap64 n = n := IntWalk.wrap64_in n h
theorem u64w (n : Int) (h : 0 ≤ n ∧ n ≤ 18446744073709551615) : IntKind.u64.wrap n = n := IntWalk.u64_in n h

/-- The length's eight bytes, the first i of them. -/
def lens (n i : Nat) : List UInt8 := (List.range i).map fun i => UInt8.ofNat (n * 8 / 2 ^ (56 - 8 * i))
theorem lens_succ (n i : Nat) : lens n (i + 1) = lens n i ++ [UInt8.ofNat (n * 8 / 2 ^ (56 - 8 * i))] := by
  simp [lens, List.range_succ]
theorem lens_len (n i : Nat) : (lens n i).length = i := by simp [lens]

theorem end_l1 (n : Nat) (x : List UInt8) (hx : x.length ≤ 200) : ∀ d k i : Nat, i + d = 8 → d < k →
    digest_end.l1 k (ints (x ++ lens n i)) ((n : Int) * 8) i = some (strOfNums (ints (x ++ lens n 8))) := by
  intro d
  induction d with
  | zero =>
    intro k i hi hk
    obtain ⟨k, rfl⟩ : ∃ m, k = m + 1 := ⟨k - 1, by omega⟩
    obtain rfl : i = 8 := by omega
    simp only [digest_end.l1]
    rw [if_neg (by omega)]
  | succ d ih =>
    intro k i hi hk
    obtain ⟨k, rfl⟩ : ∃ m, k = m + 1 := ⟨k - 1, by omega⟩
    have ih' := ih k (i + 1) (by omega) (by omega)
    have e1 : wrap64 (8 * (i : Int)) = 8 * (i : Int) := w64 _ (by omega)
    have e2 : wrap64 (56 - 8 * (i : Int)) = ((56 - 8 * i : Nat) : Int) := by rw [w64 _ (by omega)]; omega
    have e3 : wrap64 ((i : Int) + 1) = ((i + 1 : Nat) : Int) := by rw [w64 _ (by omega)]; omega
    simp only [digest_end.l1]
    rw [if_pos (by omega), e1, e2, if_pos (by omega), e3]
    have hl : (ints (x ++ lens n i)).length < 140737488355328 := by simp [ints, lens_len]; omega
    rw [if_pos hl]
    have hs : shr .u64 ((n : Int) * 8) ((56 - 8 * i : Nat) : Int) % 256 = ((UInt8.ofNat (n * 8 / 2 ^ (56 - 8 * i))).toNat : Int) := by
      have hm : min (56 - 8 * i) IntKind.u64.bits = 56 - 8 * i := by show min (56 - 8 * i) 64 = _; omega
      simp only [shr, Int.toNat_natCast, hm]
      simp
    rw [hs]
    have hc : ints (x ++ lens n i) ++ [((UInt8.ofNat (n * 8 / 2 ^ (56 - 8 * i))).toNat : Int)] = ints (x ++ lens n (i + 1)) := by
      rw [lens_succ, ← List.append_assoc, ints_append (x ++ lens n i)]; rfl
    rw [hc]
    exact ih'

theorem end_l0 (n : Nat) (hn : n ≤ 2000000) : ∀ d k j : Nat, j + d = (119 - n % 64) % 64 → d + 9 < k →
    digest_end.l0 k n (ints ([0x80] ++ List.replicate j 0)) = some (strOfNums (ints (tail n))) := by
  intro d
  induction d with
  | zero =>
    intro k j hj hk
    obtain ⟨k, rfl⟩ : ∃ m, k = m + 1 := ⟨k - 1, by omega⟩
    have hlen : (ints ([0x80] ++ List.replicate j 0)).length = 1 + j := by simp [ints]; omega
    simp only [digest_end.l0]
    rw [hlen, w64 _ (by omega), Int.tmod_eq_emod_of_nonneg (by omega), if_pos (by omega), u64w (n : Int) (by omega), u64w ((n : Int) * 8) (by omega)]
    have h := end_l1 n ([0x80] ++ List.replicate j 0) (by simp; omega) 8 k 0 (by omega) (by omega)
    have e0 : lens n 0 = [] := rfl
    rw [e0, List.append_nil] at h
    have ej : j = (119 - n % 64) % 64 := by omega
    have et : tail n = [0x80] ++ List.replicate j 0 ++ lens n 8 := by rw [ej]; rfl
    rw [et]
    exact h
  | succ d ih =>
    intro k j hj hk
    obtain ⟨k, rfl⟩ : ∃ m, k = m + 1 := ⟨k - 1, by omega⟩
    have hlen : (ints ([0x80] ++ List.replicate j 0)).length = 1 + j := by simp [ints]; omega
    simp only [digest_end.l0]
    rw [hlen, w64 _ (by omega), Int.tmod_eq_emod_of_nonneg (by omega), if_neg (by omega), if_pos (by omega)]
    have hc : ints ([0x80] ++ List.replicate j 0) ++ [0] = ints ([0x80] ++ List.replicate (j + 1) 0) := by
      rw [List.replicate_succ', ← List.append_assoc, ints_append ([0x80] ++ List.replicate j 0)]; rfl
    rw [hc]
    exact ih k (j + 1) (by omega) (by omega)

theorem end_any (n : Nat) (hn : n ≤ 2000000) (w : World) :
    Calls Try.prog 48 #[.int .i64 (n : Int)] w fun e w' => e = .returned (.string ⟨(tail n).toArray⟩) ∧ Below w.heap.size w w' := by
  have h := end_l0 n hn ((119 - n % 64) % 64) 1000 0 (by omega) (by omega)
  have h2 : digest_end.f 1000 (n : Int) = some (strOfNums (ints (tail n))) := h
  rw [str_ints] at h2
  exact digest_end.calls 1000 n _ w h2
end Go.Proofs.Ytjnbdikhajnciaa.Dig
