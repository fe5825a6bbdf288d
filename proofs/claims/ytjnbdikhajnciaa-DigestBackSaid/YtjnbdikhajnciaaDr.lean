/- Digits to the base 16, read: what the printed functions compute. -/
import Derived.Test.YtjnbdikhajnciaaDp
namespace Go.Proofs.Ytjnbdikhajnciaa.Dig
open Go.RowKit Go.Proofs.Ytjnbdikhajnciaa.Sha Go.Proofs.YtjnbdikhajnciaaW.PrintWords Go.Proofs.Ytjnbdikhajnciaa.PDigestHexes

def dig (b : UInt8) : Option Nat := if 48 ≤ b.toNat ∧ b.toNat ≤ 57 then some (b.toNat - 48) else if 97 ≤ b.toNat ∧ b.toNat ≤ 102 then some (b.toNat - 87) else none
def unhex : List UInt8 → Option (List UInt8)
  | [] => some []
  | [_] => none
  | a :: b :: r => match dig a, dig b with
    | some x, some y => (unhex r).map fun l => UInt8.ofNat (16 * x + y) :: l
    | _, _ => none
def unhexR (l : List UInt8) : ByteArray × Int := match unhex l with
  | some t => (⟨t.toArray⟩, 0)
  | none => (⟨#[]⟩, 4)
theorem dig_lt {b : UInt8} {n : Nat} (h : dig b = some n) : n < 16 := by
  unfold dig at h
  split at h
  · injection h with h; omega
  · split at h
    · injection h with h; omega
    · cases h
theorem digit_f (k : Nat) (b : UInt8) : digest_digit.f (k + 1) (b.toNat : Int) = match dig b with | some n => some ((n : Int), true) | none => some (0, false) := by
  have h : ∀ n : Fin 256, digest_digit.f 1 ((n.val : Nat) : Int) = match (if 48 ≤ n.val ∧ n.val ≤ 57 then some (n.val - 48) else if 97 ≤ n.val ∧ n.val ≤ 102 then some (n.val - 87) else none) with | some m => some ((m : Int), true) | none => some (0, false) := by decide +kernel
  exact h ⟨b.toNat, b.toNat_lt⟩
theorem refdigit_f (k : Nat) (b : UInt8) : fastiref03_digit.f (k + 1) (b.toNat : Int) = match dig b with | some n => some (n : Int) | none => some (-1) := by
  have h : ∀ n : Fin 256, fastiref03_digit.f 1 ((n.val : Nat) : Int) = match (if 48 ≤ n.val ∧ n.val ≤ 57 then some (n.val - 48) else if 97 ≤ n.val ∧ n.val ≤ 102 then some (n.val - 87) else none) with | some m => some (m : Int) | none => some (-1) := by decide +kernel
  exact h ⟨b.toNat, b.toNat_lt⟩
theorem or16 : ∀ a b : Fin 16, Go.bits .or .u8 ((((a.val : Nat) : Int) * 16) % 256) ((b.val : Nat) : Int) = (((UInt8.ofNat (16 * a.val + b.val)).toNat : Nat) : Int) := by decide +kernel

theorem unhex_loop (s : ByteArray) (hs : s.size ≤ 1000000) (he : s.size % 2 = 0) : ∀ (m k i : Nat) (acc : List UInt8), i + m = s.size / 2 → m + 1 < k → acc.length = i →
    digest_Unhex.l0 k s (ints acc) ((s.size / 2 : Nat) : Int) (i : Int) = match unhex (s.data.toList.drop (2 * i)) with | some l => some (⟨(acc ++ l).toArray⟩, 0) | none => some (⟨#[]⟩, 4)
  | m, 0, i, _, _, h, _ => by omega
  | 0, k + 1, i, acc, hi, _, _ => by
    unfold digest_Unhex.l0
    rw [if_neg (by omega), List.drop_of_length_le (by simp; omega), str_ints]
    simp [unhex]
  | m + 1, 0 + 1, i, acc, hi, hk, _ => by omega
  | m + 1, k + 1 + 1, i, acc, hi, hk, hl => by
    have hdrop : s.data.toList.drop (2 * i) = gb s (2 * i) :: gb s (2 * i + 1) :: s.data.toList.drop (2 * (i + 1)) := by
      rw [drop_gb s (2 * i) (by omega), drop_gb s (2 * i + 1) (by omega), show 2 * (i + 1) = 2 * i + 1 + 1 by omega]
    have v1 : wrap64 (2 * (i : Int)) = ((2 * i : Nat) : Int) := by rw [wr64 _ (by omega) (by omega)]; omega
    have v2 : wrap64 (((2 * i : Nat) : Int) + 1) = ((2 * i + 1 : Nat) : Int) := by rw [wr64 _ (by omega) (by omega)]; omega
    have v3 : wrap64 ((i : Int) + 1) = ((i + 1 : Nat) : Int) := by rw [wr64 _ (by omega) (by omega)]; omega
    rw [hdrop]
    unfold digest_Unhex.l0
    rw [v1, v2, v3, if_pos (by omega), if_pos (by omega), if_pos (by omega), bt_gb, bt_gb, digit_f, digit_f]
    generalize gb s (2 * i) = a
    generalize gb s (2 * i + 1) = b
    cases ha : dig a with
    | none =>
      cases hb : dig b with
      | none => simp only [Option.bind, unhex, ha, hb]; rw [if_pos (by omega), if_pos (by omega)]; rfl
      | some y => simp only [Option.bind, unhex, ha, hb]; rw [if_pos (by omega), if_pos (by omega)]; rfl
    | some x =>
      cases hb : dig b with
      | none => simp only [Option.bind, unhex, ha, hb]; rw [if_pos (by omega), if_pos (by omega)]; rfl
      | some y =>
        simp only [Option.bind, unhex, ha, hb]
        rw [if_pos (by omega), if_pos (by omega), if_pos trivial, if_pos trivial, if_pos (by rw [ints_len]; omega)]
        have ho := or16 ⟨x, dig_lt ha⟩ ⟨y, dig_lt hb⟩
        simp only at ho
        have hap : ints acc ++ [Go.bits .or .u8 (((x : Int) * 16) % 256) (y : Int)] = ints (acc ++ [UInt8.ofNat (16 * x + y)]) := by
          rw [ints_append, ho]; rfl
        rw [hap]
        have ih := unhex_loop s hs he m (k + 1) (i + 1) (acc ++ [UInt8.ofNat (16 * x + y)]) (by omega) (by omega) (by simp [hl])
        rw [ih]
        cases unhex (s.data.toList.drop (2 * (i + 1))) <;> simp
theorem unhex_odd : ∀ l : List UInt8, l.length % 2 = 1 → unhex l = none
  | [], h => by simp at h
  | [_], _ => rfl
  | a :: b :: r, h => by
    have ih := unhex_odd r (by simp at h; omega)
    unfold unhex
    rw [ih]; cases dig a <;> cases dig b <;> rfl
theorem unhex_any (s : ByteArray) (hs : s.size ≤ 1000000) (w : World) :
    Calls Try.prog 30 #[.string s] w fun e w' => e = .returned (.tuple #[.string (unhexR s.data.toList).1, .int .i64 (unhexR s.data.toList).2]) ∧ Below w.heap.size w w' := by
  refine digest_Unhex.calls (s.size + 2) _ _ _ w ?_
  unfold digest_Unhex.f
  by_cases he : s.size % 2 = 0
  · rw [if_pos (by omega)]
    have h := unhex_loop s hs he (s.size / 2) (s.size + 2) 0 [] (by omega) (by omega) rfl
    have v : wrap64 ((s.size : Int) / 2) = ((s.size / 2 : Nat) : Int) := by rw [wr64 _ (by omega) (by omega)]; omega
    rw [v]
    refine h.trans ?_
    simp only [Nat.mul_zero, List.drop_zero, List.nil_append, unhexR]
    cases unhex s.data.toList <;> rfl
  · rw [if_neg (by omega)]
    have h := unhex_odd s.data.toList (by simp; omega)
    simp only [unhexR, h]

theorem refunhex_loop (s : ByteArray) (hs : s.size ≤ 1000000) (he : s.size % 2 = 0) : ∀ (m k i : Nat) (acc : List UInt8), i + m = s.size / 2 → m + 1 < k → acc.length = i →
    fastiref03_Unhex.l0 k s ⟨acc.toArray⟩ ((2 * i : Nat) : Int) = match unhex (s.data.toList.drop (2 * i)) with | some l => some (⟨(acc ++ l).toArray⟩, 0) | none => some (⟨#[]⟩, 4)
  | m, 0, i, _, _, h, _ => by omega
  | 0, k + 1, i, acc, hi, _, _ => by
    unfold fastiref03_Unhex.l0
    rw [if_neg (by omega), List.drop_of_length_le (by simp; omega)]
    simp [unhex]
  | m + 1, 0 + 1, i, acc, hi, hk, _ => by omega
  | m + 1, k + 1 + 1, i, acc, hi, hk, hl => by
    have hdrop : s.data.toList.drop (2 * i) = gb s (2 * i) :: gb s (2 * i + 1) :: s.data.toList.drop (2 * (i + 1)) := by
      rw [drop_gb s (2 * i) (by omega), drop_gb s (2 * i + 1) (by omega), show 2 * (i + 1) = 2 * i + 1 + 1 by omega]
    have v2 : wrap64 (((2 * i : Nat) : Int) + 1) = ((2 * i + 1 : Nat) : Int) := by rw [wr64 _ (by omega) (by omega)]; omega
    have v3 : wrap64 (((2 * i : Nat) : Int) + 2) = ((2 * (i + 1) : Nat) : Int) := by rw [wr64 _ (by omega) (by omega)]; omega
    rw [hdrop]
    unfold fastiref03_Unhex.l0
    rw [v2, v3, if_pos (by omega), if_pos (by omega), bt_gb, bt_gb, refdigit_f, refdigit_f]
    generalize gb s (2 * i) = a
    generalize gb s (2 * i + 1) = b
    cases ha : dig a with
    | none =>
      cases hb : dig b with
      | none => simp only [Option.bind, unhex, ha, hb]; rw [if_pos (by omega), if_pos (by omega)]; rfl
      | some y => simp only [Option.bind, unhex, ha, hb]; rw [if_pos (by omega), if_pos (by omega)]; rfl
    | some x =>
      cases hb : dig b with
      | none => simp only [Option.bind, unhex, ha, hb]; rw [if_pos (by omega), if_pos (by omega), if_neg (by omega)]; rfl
      | some y =>
        have hx := dig_lt ha
        have hy := dig_lt hb
        simp only [Option.bind, unhex, ha, hb]
        have n1 : ¬ ((x : Int) < 0) := by omega
        have n2 : ¬ ((y : Int) < 0) := by omega
        have n3 : (0 : Int) ≤ ((2 * i + 1 : Nat) : Int) := by omega
        have n4 : ((2 * i + 1 : Nat) : Int) < (s.size : Int) := by omega
        have v4 : wrap64 (wrap64 (16 * (x : Int)) + (y : Int)) % 256 = ((16 * x + y : Nat) : Int) := by rw [wr64 (16 * (x : Int)) (by omega) (by omega), wr64 _ (by omega) (by omega)]; omega
        have v5 : ∀ n : Nat, strOfNums [((n : Nat) : Int)] = ⟨([UInt8.ofNat n] : List UInt8).toArray⟩ := fun n => by simp [strOfNums]
        rw [v4, v5, if_pos n3, if_pos n4, if_neg n1, if_neg n2]
        have hsz : (⟨acc.toArray⟩ : ByteArray).size + (⟨([UInt8.ofNat (16 * x + y)] : List UInt8).toArray⟩ : ByteArray).size ≤ 9223372036854775807 := by rw [ba_size, ba_size, hl, List.length_singleton]; omega
        rw [if_pos hsz, ba_app]
        have ih := refunhex_loop s hs he m (k + 1) (i + 1) (acc ++ [UInt8.ofNat (16 * x + y)]) (by omega) (by omega) (by simp [hl])
        rw [ih]
        cases unhex (s.data.toList.drop (2 * (i + 1))) <;> simp
theorem refunhex_any (s : ByteArray) (hs : s.size ≤ 1000000) (w : World) :
    Calls Try.prog 31 #[.string s] w fun e w' => e = .returned (.tuple #[.string (unhexR s.data.toList).1, .int .i64 (unhexR s.data.toList).2]) ∧ Below w.heap.size w w' := by
  refine fastiref03_Unhex.calls (s.size + 2) _ _ _ w ?_
  unfold fastiref03_Unhex.f
  by_cases he : s.size % 2 = 0
  · rw [if_neg (by omega)]
    have h := refunhex_loop s hs he (s.size / 2) (s.size + 2) 0 [] (by omega) (by omega) rfl
    refine h.trans ?_
    simp only [Nat.mul_zero, List.drop_zero, List.nil_append, unhexR]
    cases unhex s.data.toList <;> rfl
  · rw [if_pos (by omega)]
    have h := unhex_odd s.data.toList (by simp; omega)
    simp only [unhexR, h]

theorem dig_hexd : ∀ n : Fin 16, dig (hexd n.val) = some n.val := by decide +kernel
theorem hexd_dig : ∀ n : Fin 256, (match dig (UInt8.ofNat n.val) with | some m => hexd m == UInt8.ofNat n.val | none => true) = true := by decide +kernel
theorem hexd_of {b : UInt8} {n : Nat} (h : dig b = some n) : hexd n = b := by
  have := hexd_dig ⟨b.toNat, b.toNat_lt⟩
  simp only [UInt8.ofNat_toNat, h, beq_iff_eq] at this
  exact this
theorem unhex_hex : ∀ l : List UInt8, unhex (hex l) = some l
  | [] => rfl
  | b :: l => by
    have hb := b.toNat_lt
    have ih := unhex_hex l
    have h1 := dig_hexd ⟨b.toNat / 16, by omega⟩
    have h2 := dig_hexd ⟨b.toNat % 16, by omega⟩
    simp only at h1 h2
    show unhex (hexd (b.toNat / 16) :: hexd (b.toNat % 16) :: hex l) = _
    simp only [unhex, h1, h2, ih, Option.map_some]
    rw [show 16 * (b.toNat / 16) + b.toNat % 16 = b.toNat by omega, UInt8.ofNat_toNat]
theorem hex_unhex : ∀ l t : List UInt8, unhex l = some t → hex t = l
  | [], t, h => by simp [unhex] at h; subst h; rfl
  | [_], t, h => by simp [unhex] at h
  | a :: b :: r, t, h => by
    unfold unhex at h
    cases ha : dig a with
    | none => rw [ha] at h; cases h
    | some x =>
      cases hb : dig b with
      | none => rw [ha, hb] at h; cases h
      | some y =>
        rw [ha, hb] at h
        simp only at h
        cases hr : unhex r with
        | none => rw [hr] at h; cases h
        | some l =>
          rw [hr] at h
          injection h with h; subst h
          have ih := hex_unhex r l hr
          have hx := dig_lt ha
          have hy := dig_lt hb
          show hexd ((UInt8.ofNat (16 * x + y)).toNat / 16) :: hexd ((UInt8.ofNat (16 * x + y)).toNat % 16) :: hex l = _
          have e : (UInt8.ofNat (16 * x + y)).toNat = 16 * x + y := by rw [UInt8.toNat_ofNat']; omega
          rw [e, ih, show (16 * x + y) / 16 = x by omega, show (16 * x + y) % 16 = y by omega, hexd_of ha, hexd_of hb]
end Go.Proofs.Ytjnbdikhajnciaa.Dig
