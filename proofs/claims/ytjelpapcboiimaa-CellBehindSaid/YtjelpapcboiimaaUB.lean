/- (*writer).head: a number's bytes, and how many. -/
import Derived.Test.YtjelpapcboiimaaUA
namespace Go.Proofs.Ytjelpapcboiimaa.PCellPuts
open Go.RowKit Go.Proofs.YtjelpapcboiimaaW.PrintWords Go.Proofs.YtjelpapcboiimaaW.PrintLast Go.Proofs.YtjelpapcboiimaaW.PrintMore
set_option linter.unusedVariables false
set_option linter.unusedSimpArgs false

/-- A number's bytes, the first not zero. -/
def bes (n : Nat) : List UInt8 := if h : n = 0 then [] else bes (n / 256) ++ [UInt8.ofNat (n % 256)]
theorem bes_zero : bes 0 = [] := by unfold bes; simp
theorem bes_pos {n : Nat} (h : 0 < n) : bes n = bes (n / 256) ++ [UInt8.ofNat (n % 256)] := by
  rw [bes]; rw [dif_neg (by omega)]
theorem bes_len : ∀ (k n : Nat), n < 256 ^ k → (bes n).length ≤ k
  | 0, n, h => by
    have : n = 0 := by simp at h; exact h
    rw [this, bes_zero]; exact Nat.le_refl _
  | k + 1, n, h => by
    rcases Nat.eq_zero_or_pos n with rfl | h0
    · rw [bes_zero]; exact Nat.zero_le _
    · rw [bes_pos h0, List.length_append]
      have := bes_len k (n / 256) (by rw [Nat.pow_succ] at h; exact Nat.div_lt_of_lt_mul (by omega))
      simp only [List.length_singleton]; omega
theorem bes_len8 {n : Nat} (h : n < 18446744073709551616) : (bes n).length ≤ 8 := bes_len 8 n (by simpa using h)
theorem bes_at : ∀ (k n i : Nat), (bes n).length = k → i < k → (bes n)[i]? = some (UInt8.ofNat (n / 256 ^ (k - 1 - i) % 256))
  | 0, n, i, _, h => by omega
  | k + 1, n, i, hl, hi => by
    rcases Nat.eq_zero_or_pos n with rfl | h0
    · rw [bes_zero] at hl; cases hl
    · rw [bes_pos h0] at hl ⊢
      have hl' : (bes (n / 256)).length = k := by simpa using hl
      rcases Nat.lt_or_ge i k with h | h
      · rw [List.getElem?_append_left (by omega), bes_at k (n / 256) i hl' h, Nat.div_div_eq_div_mul]
        rw [show k + 1 - 1 - i = (k - 1 - i) + 1 by omega, Nat.pow_succ, Nat.mul_comm (256 ^ (k - 1 - i)) 256]
      · have : i = k := by omega
        subst this
        rw [List.getElem?_append_right (by omega), hl']
        simp
/-- What 'head' writes. -/
def headB (kind n : Nat) : List UInt8 := UInt8.ofNat (kind * 16 + (bes n).length) :: bes n

theorem byteCells_append (a b : List UInt8) : Lib.byteCells (a ++ b) = Lib.byteCells a ++ Lib.byteCells b := by simp [Lib.byteCells]
theorem bits_or_head' : ∀ k : Fin 5, ∀ j : Fin 9, bits BinOp.or IntKind.u8 (((k : Nat) : Int) * 16) ((j : Nat) : Int) = ((k : Nat) : Int) * 16 + ((j : Nat) : Int) := by decide
theorem bits_or_head (k j : Nat) (hk : k ≤ 4) (hj : j ≤ 8) : bits BinOp.or IntKind.u8 ((k : Int) * 16) (j : Int) = (k : Int) * 16 + (j : Int) := bits_or_head' ⟨k, by omega⟩ ⟨j, by omega⟩
/-- All but the last i bytes are written. -/
def HeadAt (B b : Nat) (bs : List Value) (kind n : Nat) (w : World) (i : Nat) (W : World) : Prop :=
  i ≤ (bes n).length ∧ Wr B b (.pointer (some ⟨b, 0, none⟩)) (bs ++ Lib.byteCells ((headB kind n).take ((bes n).length - i + 1))) W ∧ Below B w W ∧ ModW b w W

set_option maxHeartbeats 4000000 in
set_option maxRecDepth 100000 in
theorem head_calls (B b : Nat) (bs : List Value) (kind n : Nat) (w : World) (h : IsWr B b bs w) (hk : kind ≤ 4) (hn : n < 18446744073709551616) (hlen : bs.length + 9 ≤ 140737488355328) (hBw : B ≤ w.heap.size) :
    Calls Try.prog 32 #[.pointer (some ⟨b, 0, none⟩), .int .u8 (kind : Int), .int .u64 (n : Int)] w fun e w' => e = .returned (.tuple #[]) ∧ (Wr B b (.pointer (some ⟨b, 0, none⟩)) (bs ++ Lib.byteCells (headB kind n)) w' ∧ Below B w w' ∧ ModW b w w') := by
  have HL := Lib.hid (bes_len8 hn)
  have H := Lib.hid h
  clear h
  go_enter Try.func32, Try.ntmps32
  go_wp2_with fail
  go_loopw [6, 7] (fun k m wr => w = wr ∧ ∃ j mm : Nat, k = .int .u8 (j : Int) ∧ m = .int .u64 (mm : Int) ∧ mm ≤ n ∧ j + (bes mm).length = (bes n).length) (fun _ m _ => (intOf m).toNat)
  case atStart => exact ⟨rfl, 0, n, rfl, rfl, Nat.le_refl _, by simp⟩
  case round =>
    obtain ⟨rfl, j, mm, rfl, rfl, hle, hj⟩ := hrel
    by_cases h0 : 0 < mm
    · have h1 := bes_pos h0
      go_wp2_with fail
      have HLo := HL.out
      have h2 : (bes mm).length = (bes (mm / 256)).length + 1 := by rw [h1]; simp
      go_roundw
      case rel => exact ⟨trivial, j + 1, mm / 256, by congr 1; omega, by congr 1, by omega, by omega⟩
      case measure => simp [intOf]; omega
    · have hm0 : mm = 0 := by omega
      rw [hm0, bes_zero] at hj
      clear hm0
      have hj' : j = (bes n).length := by simpa using hj
      have hj8 : j ≤ 8 := by rw [hj']; exact HL.out
      have hor := bits_or_head kind j hk hj8
      have HJ := Lib.hid hj'
      have HX := Lib.hid (writeByte B b bs ((kind : Int) * 16 + (j : Int)) w H.out (by omega) hBw)
      clear hj hj'
      go_wp2_with fail
      refine HX.out.mono ?_
      rintro e W1 ⟨rfl, hw, hb, hm⟩
      have hi : HeadAt B b bs kind n w j W1 := ⟨by rw [← HJ.out]; exact Nat.le_refl _, by
        rw [HJ.out, Nat.sub_self, Nat.zero_add]
        have e1 : Lib.byteCells ((headB kind n).take 1) = [.int .u8 ((kind : Int) * 16 + (j : Int))] := by
          simp only [headB, List.take_succ_cons, List.take_zero, Lib.byteCells, List.map_cons, List.map_nil]
          rw [← HJ.out, UInt8.toNat_ofNat']
          congr 1
          congr 1
          omega
        rw [e1]; exact hw, hb, hm⟩
      have HI := Lib.hid hi
      clear hw hb HX hi hm
      go_wp2_with fail
      go_loopw [6] (fun k wx => ∃ i : Nat, k = .int .u8 (i : Int) ∧ HeadAt B b bs kind n w i wx) (fun k _ => (intOf k).toNat)
      case atStart => exact ⟨j, rfl, HI.out⟩
      case round =>
        obtain ⟨i, rfl, hle, hw, hb, hm⟩ := hrel
        have HM := Lib.hid hm
        clear hm
        have hi8 : i ≤ 8 := Nat.le_trans hle HL.out
        by_cases h0 : 0 < i
        · have hat := bes_at (bes n).length n ((bes n).length - i) rfl (by omega)
          rw [show (bes n).length - 1 - ((bes n).length - i) = i - 1 by omega] at hat
          have HAT := Lib.hid hat
          have hlt : (bs ++ Lib.byteCells ((headB kind n).take ((bes n).length - i + 1))).length + 1 ≤ 140737488355328 := by
            rw [List.length_append, Lib.byteCells_length, List.length_take]
            have := HL.out; omega
          have HX := Lib.hid (fun c => writeByte B b _ c wr (.inr hw) hlt (Nat.le_trans hBw hb.size))
          have HB := Lib.hid hb
          clear hat hlt hw hb
          go_wp2_with fail
          refine (HX.out _).mono ?_
          rintro e W2 ⟨rfl, hw2, hb2, hm2⟩
          have hn2 : HeadAt B b bs kind n w (i - 1) W2 := by
            refine ⟨by omega, ?_, HB.out.trans hb2, HM.out.trans hm2⟩
            rw [show (bes n).length - (i - 1) + 1 = ((bes n).length - i + 1) + 1 by omega, List.take_add_one]
            have h2 : (headB kind n)[(bes n).length - i + 1]? = some (UInt8.ofNat (n / 256 ^ (i - 1) % 256)) := HAT.out
            rw [h2, Option.toList_some]
            have h3 : Lib.byteCells [UInt8.ofNat (n / 256 ^ (i - 1) % 256)] = [.int .u8 ((n : Int) / 2 ^ (8 * (i - 1)) % 256)] := by
              simp only [Lib.byteCells, List.map_cons, List.map_nil]
              rw [UInt8.toNat_ofNat']
              congr 1
              congr 1
              rw [show (256 : Nat) = 2 ^ 8 from rfl, ← Nat.pow_mul]
              simp
            rw [byteCells_append, h3, ← List.append_assoc]
            exact hw2
          have HN := Lib.hid hn2
          clear hw2 hb2 hn2 HX hm2
          go_wp2_with fail
          go_roundw
          case rel => exact ⟨i - 1, by congr 1; omega, HN.out⟩
          case measure => simp [intOf]; omega
        · have hi0 : i = 0 := by omega
          have hfin : Wr B b (.pointer (some ⟨b, 0, none⟩)) (bs ++ Lib.byteCells (headB kind n)) wr := by
            rw [hi0, Nat.sub_zero] at hw
            rw [List.take_of_length_le (by simp [headB])] at hw
            exact hw
          have HF := Lib.hid hfin
          have HB := Lib.hid hb
          clear hw hb hfin hi0
          go_wp2_with fail
          go_end0
          exact ⟨rfl, HF.out, HB.out, HM.out⟩
end Go.Proofs.Ytjelpapcboiimaa.PCellPuts
