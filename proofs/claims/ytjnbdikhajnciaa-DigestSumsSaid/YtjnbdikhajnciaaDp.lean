/- Digits to the base 16: what the printed functions compute. -/
import Derived.Test.YtjnbdikhajnciaaPDigestHexesx1
import Derived.Test.YtjnbdikhajnciaaPDigestHexesx2
import Derived.Test.YtjnbdikhajnciaaDh
namespace Go.Proofs.Ytjnbdikhajnciaa.Dig
open Go.RowKit Go.Proofs.Ytjnbdikhajnciaa.Sha Go.Proofs.YtjnbdikhajnciaaW.PrintWords Go.Proofs.Ytjnbdikhajnciaa.PDigestHexes

def gb (s : ByteArray) (i : Nat) : UInt8 := s.data.toList.getD i 0
theorem bt_gb (s : ByteArray) (i : Nat) : bt s (i : Int) = ((gb s i).toNat : Int) := by
  unfold bt gb
  by_cases h : i < s.size
  · have h' : i < s.data.toList.length := by simpa using h
    simp only [Int.toNat_natCast, h, dif_pos, List.getD_eq_getElem?_getD, List.getElem?_eq_getElem h', Option.getD_some]
    simp [ByteArray.getElem_eq_getElem_data]
  · have h' : s.data.toList.length ≤ i := by simp; exact Nat.le_of_not_lt h
    simp only [Int.toNat_natCast, h, dif_neg, not_false_eq_true, List.getD_eq_getElem?_getD, List.getElem?_eq_none h', Option.getD_none]
    rfl
theorem take_gb (s : ByteArray) (i : Nat) (h : i < s.size) : s.data.toList.take (i + 1) = s.data.toList.take i ++ [gb s i] := by
  have h' : i < s.data.toList.length := by simpa using h
  rw [List.take_succ_eq_append_getElem h']; simp [gb, h]
theorem drop_gb (s : ByteArray) (i : Nat) (h : i < s.size) : s.data.toList.drop i = gb s i :: s.data.toList.drop (i + 1) := by
  have h' : i < s.data.toList.length := by simpa using h
  rw [List.drop_eq_getElem_cons h']; simp [gb, h]
def DG : ByteArray := ⟨#[48, 49, 50, 51, 52, 53, 54, 55, 56, 57, 97, 98, 99, 100, 101, 102]⟩
theorem dg_at : ∀ n : Fin 16, bt DG ((n.val : Nat) : Int) = ((hexd n.val).toNat : Int) := by decide +kernel
theorem dg_cut : ∀ n : Fin 16, (DG.extract n.val (n.val + 1)).data.toList = [hexd n.val] := by decide +kernel
theorem and15 : ∀ n : Fin 256, Go.bits .and .u8 ((n.val : Nat) : Int) 15 = ((n.val % 16 : Nat) : Int) := by decide +kernel
theorem byte_lt (b : UInt8) : b.toNat < 256 := b.toNat_lt
theorem hex_append (a b : List UInt8) : hex (a ++ b) = hex a ++ hex b := by simp [hex]
theorem hex_len (a : List UInt8) : (hex a).length = 2 * a.length := by
  induction a with
  | nil => rfl
  | cons b a ih => simp only [hex, List.flatMap_cons, List.length_append, List.length_cons, List.length_nil] at *; omega
theorem ints_len (a : List UInt8) : (ints a).length = a.length := by simp [ints]
theorem wr64 (n : Int) (h : 0 ≤ n) (h2 : n < 9223372036854775808) : wrap64 n = n := by unfold wrap64; omega

theorem hex_loop (s : ByteArray) (hs : s.size ≤ 1000000) : ∀ m k i : Nat, i + m = s.size → m < k →
    digest_Hex.l0 k s (ints (hex (s.data.toList.take i))) (s.size : Int) (i : Int) = some ⟨(hex s.data.toList).toArray⟩
  | m, 0, i, _, h => by omega
  | 0, k + 1, i, hi, _ => by
    unfold digest_Hex.l0
    rw [if_neg (by omega), List.take_of_length_le (by simp; omega), str_ints]
  | m + 1, k + 1, i, hi, hk => by
    have hb := byte_lt (gb s i)
    unfold digest_Hex.l0
    rw [if_pos (by omega), if_pos (by omega), if_pos (by omega), bt_gb]
    have e1 : ((gb s i).toNat : Int) / 16 = (((gb s i).toNat / 16 : Nat) : Int) := by omega
    have e2 := and15 ⟨(gb s i).toNat, hb⟩
    simp only at e2
    rw [e2, e1]
    have d1 := dg_at ⟨(gb s i).toNat / 16, by omega⟩
    have d2 := dg_at ⟨(gb s i).toNat % 16, by omega⟩
    simp only [DG] at d1 d2
    rw [if_pos (by omega), if_pos (by omega), if_pos (by omega), if_pos (by omega), d1, d2]
    simp only [Option.bind]
    have hl : (s.data.toList.take i).length ≤ 1000000 := by rw [List.length_take]; simp; omega
    rw [if_pos (by rw [ints_len, hex_len]; simp only [List.length_cons, List.length_nil]; omega), wr64 _ (by omega) (by omega)]
    have ih := hex_loop s hs m k (i + 1) (by omega) (by omega)
    rw [take_gb s i (by omega), hex_append, ints_append] at ih
    exact ih
theorem hex_f (s : ByteArray) (hs : s.size ≤ 1000000) : digest_Hex.f (s.size + 1) s = some ⟨(hex s.data.toList).toArray⟩ :=
  hex_loop s hs s.size (s.size + 1) 0 (by omega) (by omega)
theorem hex_any (s : ByteArray) (hs : s.size ≤ 1000000) (w : World) :
    Calls Try.prog 32 #[.string s] w fun e w' => e = .returned (.string ⟨(hex s.data.toList).toArray⟩) ∧ Below w.heap.size w w' :=
  digest_Hex.calls _ _ _ w (hex_f s hs)

theorem refdiv : ∀ n : Fin 256, wrap64 (Int.tdiv (wrap64 ((n.val : Nat) : Int)) 16) = ((n.val / 16 : Nat) : Int) ∧ Int.tmod (wrap64 ((n.val : Nat) : Int)) 16 = ((n.val % 16 : Nat) : Int) := by decide +kernel
theorem ba_app (a b : List UInt8) : (⟨a.toArray⟩ : ByteArray) ++ ⟨b.toArray⟩ = ⟨(a ++ b).toArray⟩ := by apply ByteArray.ext; simp
theorem ba_size (a : List UInt8) : (⟨a.toArray⟩ : ByteArray).size = a.length := by simp [ByteArray.size]
theorem refhex_loop (s : ByteArray) (hs : s.size ≤ 1000000) : ∀ m k i : Nat, i + m = s.size → m < k →
    fastiref03_Hex.l0 k s ⟨(hex (s.data.toList.take i)).toArray⟩ (i : Int) = some ⟨(hex s.data.toList).toArray⟩
  | m, 0, i, _, h => by omega
  | 0, k + 1, i, hi, _ => by
    unfold fastiref03_Hex.l0
    rw [if_neg (by omega), List.take_of_length_le (by simp; omega)]
  | m + 1, k + 1, i, hi, hk => by
    have hb := byte_lt (gb s i)
    unfold fastiref03_Hex.l0
    rw [if_pos (by omega), if_pos (by omega), bt_gb]
    obtain ⟨e1, e2⟩ := refdiv ⟨(gb s i).toNat, hb⟩
    simp only at e1 e2
    rw [e1, e2]
    have d1 := dg_cut ⟨(gb s i).toNat / 16, by omega⟩
    have d2 := dg_cut ⟨(gb s i).toNat % 16, by omega⟩
    simp only [DG] at d1 d2
    have v1 : wrap64 ((((gb s i).toNat / 16 : Nat) : Int) + 1) = (((gb s i).toNat / 16 + 1 : Nat) : Int) := by rw [wr64 _ (by omega) (by omega)]; omega
    have v2 : wrap64 ((((gb s i).toNat % 16 : Nat) : Int) + 1) = (((gb s i).toNat % 16 + 1 : Nat) : Int) := by rw [wr64 _ (by omega) (by omega)]; omega
    rw [v1, v2]
    simp only [Int.toNat_natCast]
    have c1 : (⟨#[48, 49, 50, 51, 52, 53, 54, 55, 56, 57, 97, 98, 99, 100, 101, 102]⟩ : ByteArray).extract ((gb s i).toNat / 16) ((gb s i).toNat / 16 + 1) = ⟨([hexd ((gb s i).toNat / 16)] : List UInt8).toArray⟩ := by
      apply ByteArray.ext; rw [← d1]
    have c2 : (⟨#[48, 49, 50, 51, 52, 53, 54, 55, 56, 57, 97, 98, 99, 100, 101, 102]⟩ : ByteArray).extract ((gb s i).toNat % 16) ((gb s i).toNat % 16 + 1) = ⟨([hexd ((gb s i).toNat % 16)] : List UInt8).toArray⟩ := by
      apply ByteArray.ext; rw [← d2]
    have hl : (s.data.toList.take i).length ≤ 1000000 := by rw [List.length_take]; simp; omega
    rw [c1, c2, ba_app, ba_app, ba_size, ba_size, ba_size, ba_size, hex_len, List.length_append, hex_len]
    simp only [List.length_cons, List.length_nil]
    rw [if_pos (by omega), if_pos (by omega), if_pos (by omega), if_pos (by omega), if_pos (by omega), if_pos (by omega), if_pos (by omega), if_pos (by omega), wr64 _ (by omega) (by omega)]
    have ih := refhex_loop s hs m k (i + 1) (by omega) (by omega)
    rw [take_gb s i (by omega), hex_append] at ih
    rw [List.append_assoc]
    exact ih
theorem refhex_any (s : ByteArray) (hs : s.size ≤ 1000000) (w : World) :
    Calls Try.prog 33 #[.string s] w fun e w' => e = .returned (.string ⟨(hex s.data.toList).toArray⟩) ∧ Drawn0 w w' :=
  fastiref03_Hex.calls (s.size + 1) s _ w (refhex_loop s hs s.size (s.size + 1) 0 (by omega) (by omega))
end Go.Proofs.Ytjnbdikhajnciaa.Dig
