/- Texts of one proof, joined: TB, TC, TQ, TO1, TSC, TD, TE, TF, TG, TI, TH, TJ, TK. -/
import Derived.Test.YtgjlchcfdbmmlaaDoorYd
import Derived.Deep.WholeRow
import Derived.Laws.DeepNot64
import Derived.WalkSmall
import Derived.WalkLawsBesides
import Derived.Test.YtgjlchcfdbmmlaaDoorYb
import Derived.Maps.RangeWalk
import Derived.Laws.Strings2
import Derived.Deep.AppendLies
import Derived.Lib.ConvBytes
import Derived.Laws.BitsAllLaws
import Derived.Defers
import Derived.Recover
import Derived.Laws.Pointers
import Derived.Tactics2
set_option linter.unusedSimpArgs false
set_option linter.unusedVariables false
namespace Go.Proofs.YtgjlchcfdbmmlaaDoor.PObjectTakes
open Go.RowKit Go.Proofs.YtgjlchcfdbmmlaaDoorW.PrintWords Go.Proofs.YtgjlchcfdbmmlaaDoorW.PrintLast Go.Proofs.YtgjlchcfdbmmlaaDoorW.PrintMore

/-- A number's bytes, the first not zero. -/
def bes (n : Nat) : List UInt8 := if h : n = 0 then [] else bes (n / 256) ++ [UInt8.ofNat (n % 256)]
theorem bes_zero : bes 0 = [] := by unfold bes; simp
theorem bes_pos {n : Nat} (h : 0 < n) : bes n = bes (n / 256) ++ [UInt8.ofNat (n % 256)] := by
  rw [bes]; rw [dif_neg (by omega)]
theorem bes_len : ∀ (k n : Nat), n < 256 ^ k → (bes n).length ≤ k
  | 0, n, h => by
    have : n = 0 := by simp at h; exact h
    rw [this, bes_zero]; exact Nat.le_refl _
  | k + 1, n, h => by
    rcases Nat.eq_zero_or_pos n with rfl | h0
    · rw [bes_zero]; exact Nat.zero_le _
    · rw [bes_pos h0, List.length_append]
      have := bes_len k (n / 256) (by rw [Nat.pow_succ] at h; exact Nat.div_lt_of_lt_mul (by omega))
      simp only [List.length_singleton]; omega
theorem bes_len8 {n : Nat} (h : n < 18446744073709551616) : (bes n).length ≤ 8 := bes_len 8 n (by simpa using h)
theorem bes_at : ∀ (k n i : Nat), (bes n).length = k → i < k → (bes n)[i]? = some (UInt8.ofNat (n / 256 ^ (k - 1 - i) % 256))
  | 0, n, i, _, h => by omega
  | k + 1, n, i, hl, hi => by
    rcases Nat.eq_zero_or_pos n with rfl | h0
    · rw [bes_zero] at hl; cases hl
    · rw [bes_pos h0] at hl ⊢
      have hl' : (bes (n / 256)).length = k := by simpa using hl
      rcases Nat.lt_or_ge i k with h | h
      · rw [List.getElem?_append_left (by omega), bes_at k (n / 256) i hl' h, Nat.div_div_eq_div_mul]
        rw [show k + 1 - 1 - i = (k - 1 - i) + 1 by omega, Nat.pow_succ, Nat.mul_comm (256 ^ (k - 1 - i)) 256]
      · have : i = k := by omega
        subst this
        rw [List.getElem?_append_right (by omega), hl']
        simp
/-- What 'head' writes. -/
def headB (kind n : Nat) : List UInt8 := UInt8.ofNat (kind * 16 + (bes n).length) :: bes n

theorem byteCells_append (a b : List UInt8) : Lib.byteCells (a ++ b) = Lib.byteCells a ++ Lib.byteCells b := by simp [Lib.byteCells]
theorem bits_or_head' : ∀ k : Fin 5, ∀ j : Fin 9, bits BinOp.or IntKind.u8 (((k : Nat) : Int) * 16) ((j : Nat) : Int) = ((k : Nat) : Int) * 16 + ((j : Nat) : Int) := by decide
theorem bits_or_head (k j : Nat) (hk : k ≤ 4) (hj : j ≤ 8) : bits BinOp.or IntKind.u8 ((k : Int) * 16) (j : Int) = (k : Int) * 16 + (j : Int) := bits_or_head' ⟨k, by omega⟩ ⟨j, by omega⟩
/-- All but the last i bytes are written. -/
def HeadAt (B b : Nat) (bs : List Value) (kind n : Nat) (w : World) (i : Nat) (W : World) : Prop :=
  i ≤ (bes n).length ∧ Wr B b (.pointer (some ⟨b, 0, none⟩)) (bs ++ Lib.byteCells ((headB kind n).take ((bes n).length - i + 1))) W ∧ Below B w W ∧ ModW b w W

set_option maxHeartbeats 4000000 in
set_option maxRecDepth 100000 in
theorem head_calls (B b : Nat) (bs : List Value) (kind n : Nat) (w : World) (h : IsWr B b bs w) (hk : kind ≤ 4) (hn : n < 18446744073709551616) (hlen : bs.length + 9 ≤ 140737488355328) (hBw : B ≤ w.heap.size) :
    Calls Tryd.prog 63 #[.pointer (some ⟨b, 0, none⟩), .int .u8 (kind : Int), .int .u64 (n : Int)] w fun e w' => e = .returned (.tuple #[]) ∧ (Wr B b (.pointer (some ⟨b, 0, none⟩)) (bs ++ Lib.byteCells (headB kind n)) w' ∧ Below B w w' ∧ ModW b w w') := by
  have HL := Lib.hid (bes_len8 hn)
  have H := Lib.hid h
  clear h
  go_enter Tryd.func63, Tryd.ntmps63
  go_wp2_with fail
  go_loopw [6, 7] (fun k m wr => w = wr ∧ ∃ j mm : Nat, k = .int .u8 (j : Int) ∧ m = .int .u64 (mm : Int) ∧ mm ≤ n ∧ j + (bes mm).length = (bes n).length) (fun _ m _ => (intOf m).toNat)
  case atStart => exact ⟨rfl, 0, n, rfl, rfl, Nat.le_refl _, by simp⟩
  case round =>
    obtain ⟨rfl, j, mm, rfl, rfl, hle, hj⟩ := hrel
    by_cases h0 : 0 < mm
    · have h1 := bes_pos h0
      go_wp2_with fail
      have HLo := HL.out
      have h2 : (bes mm).length = (bes (mm / 256)).length + 1 := by rw [h1]; simp
      go_roundw
      case rel => exact ⟨trivial, j + 1, mm / 256, by congr 1; omega, by congr 1, by omega, by omega⟩
      case measure => simp [intOf]; omega
    · have hm0 : mm = 0 := by omega
      rw [hm0, bes_zero] at hj
      clear hm0
      have hj' : j = (bes n).length := by simpa using hj
      have hj8 : j ≤ 8 := by rw [hj']; exact HL.out
      have hor := bits_or_head kind j hk hj8
      have HJ := Lib.hid hj'
      have HX := Lib.hid (writeByte B b bs ((kind : Int) * 16 + (j : Int)) w H.out (by omega) hBw)
      clear hj hj'
      go_wp2_with fail
      refine HX.out.mono ?_
      rintro e W1 ⟨rfl, hw, hb, hm⟩
      have hi : HeadAt B b bs kind n w j W1 := ⟨by rw [← HJ.out]; exact Nat.le_refl _, by
        rw [HJ.out, Nat.sub_self, Nat.zero_add]
        have e1 : Lib.byteCells ((headB kind n).take 1) = [.int .u8 ((kind : Int) * 16 + (j : Int))] := by
          simp only [headB, List.take_succ_cons, List.take_zero, Lib.byteCells, List.map_cons, List.map_nil]
          rw [← HJ.out, UInt8.toNat_ofNat']
          congr 1
          congr 1
          omega
        rw [e1]; exact hw, hb, hm⟩
      have HI := Lib.hid hi
      clear hw hb HX hi hm
      go_wp2_with fail
      go_loopw [6] (fun k wx => ∃ i : Nat, k = .int .u8 (i : Int) ∧ HeadAt B b bs kind n w i wx) (fun k _ => (intOf k).toNat)
      case atStart => exact ⟨j, rfl, HI.out⟩
      case round =>
        obtain ⟨i, rfl, hle, hw, hb, hm⟩ := hrel
        have HM := Lib.hid hm
        clear hm
        have hi8 : i ≤ 8 := Nat.le_trans hle HL.out
        by_cases h0 : 0 < i
        · have hat := bes_at (bes n).length n ((bes n).length - i) rfl (by omega)
          rw [show (bes n).length - 1 - ((bes n).length - i) = i - 1 by omega] at hat
          have HAT := Lib.hid hat
          have hlt : (bs ++ Lib.byteCells ((headB kind n).take ((bes n).length - i + 1))).length + 1 ≤ 140737488355328 := by
            rw [List.length_append, Lib.byteCells_length, List.length_take]
            have := HL.out; omega
          have HX := Lib.hid (fun c => writeByte B b _ c wr (.inr hw) hlt (Nat.le_trans hBw hb.size))
          have HB := Lib.hid hb
          clear hat hlt hw hb
          go_wp2_with fail
          refine (HX.out _).mono ?_
          rintro e W2 ⟨rfl, hw2, hb2, hm2⟩
          have hn2 : HeadAt B b bs kind n w (i - 1) W2 := by
            refine ⟨by omega, ?_, HB.out.trans hb2, HM.out.trans hm2⟩
            rw [show (bes n).length - (i - 1) + 1 = ((bes n).length - i + 1) + 1 by omega, List.take_add_one]
            have h2 : (headB kind n)[(bes n).length - i + 1]? = some (UInt8.ofNat (n / 256 ^ (i - 1) % 256)) := HAT.out
            rw [h2, Option.toList_some]
            have h3 : Lib.byteCells [UInt8.ofNat (n / 256 ^ (i - 1) % 256)] = [.int .u8 ((n : Int) / 2 ^ (8 * (i - 1)) % 256)] := by
              simp only [Lib.byteCells, List.map_cons, List.map_nil]
              rw [UInt8.toNat_ofNat']
              congr 1
              congr 1
              rw [show (256 : Nat) = 2 ^ 8 from rfl, ← Nat.pow_mul]
              simp
            rw [byteCells_append, h3, ← List.append_assoc]
            exact hw2
          have HN := Lib.hid hn2
          clear hw2 hb2 hn2 HX hm2
          go_wp2_with fail
          go_roundw
          case rel => exact ⟨i - 1, by congr 1; omega, HN.out⟩
          case measure => simp [intOf]; omega
        · have hi0 : i = 0 := by omega
          have hfin : Wr B b (.pointer (some ⟨b, 0, none⟩)) (bs ++ Lib.byteCells (headB kind n)) wr := by
            rw [hi0, Nat.sub_zero] at hw
            rw [List.take_of_length_le (by simp [headB])] at hw
            exact hw
          have HF := Lib.hid hfin
          have HB := Lib.hid hb
          clear hw hb hfin hi0
          go_wp2_with fail
          go_end0
          exact ⟨rfl, HF.out, HB.out, HM.out⟩
end Go.Proofs.YtgjlchcfdbmmlaaDoor.PObjectTakes
namespace Go.Proofs.YtgjlchcfdbmmlaaDoor.PObjectTakes
open Go.RowKit Go.Proofs.YtgjlchcfdbmmlaaDoorW.PrintWords Go.Proofs.YtgjlchcfdbmmlaaDoorW.PrintLast Go.Proofs.YtgjlchcfdbmmlaaDoorW.PrintMore

mutual
/-- A cell's bytes. -/
def encS : S42 → List UInt8
  | ⟨k, n, s, l⟩ => if k = 1 then (if n < 0 then headB 2 (-(n + 1)).toNat else headB 1 n.toNat) else if k = 2 then headB 3 s.size ++ s.data.toList else headB 4 l.length ++ encL l
def encL : List S42 → List UInt8
  | [] => []
  | x :: xs => encS x ++ encL xs
end
mutual
/-- Its numbers are of their kind. -/
def wfS : S42 → Prop
  | ⟨k, n, s, l⟩ => -9223372036854775808 ≤ n ∧ n ≤ 9223372036854775807 ∧ s.size ≤ 140737488355328 ∧ l.length ≤ 140737488355328 ∧ wfL l
def wfL : List S42 → Prop
  | [] => True
  | x :: xs => wfS x ∧ wfL xs
end
theorem wfL_at : ∀ {l : List S42}, wfL l → ∀ {i : Nat} {x : S42}, l[i]? = some x → wfS x
  | [], _, i, x, h => by simp at h
  | y :: ys, hw, i, x, h => by
    rw [wfL] at hw
    cases i with
    | zero => simp at h; exact h ▸ hw.1
    | succ i => exact wfL_at hw.2 (by simpa using h)
theorem encL_snoc : ∀ (l : List S42) (x : S42), encL (l ++ [x]) = encL l ++ encS x
  | [], x => by simp [encL]
  | y :: ys, x => by simp [encL, encL_snoc ys x]
theorem encL_take_le : ∀ (l : List S42) (i : Nat), (encL (l.take i)).length ≤ (encL l).length
  | [], i => by simp
  | y :: ys, 0 => by simp [encL]
  | y :: ys, i + 1 => by
    have := encL_take_le ys i
    simp [encL]; exact this

theorem IsWr.far {B b : Nat} {bs : List Value} {w w' : World} (h : IsWr B b bs w) (hb : Below w.heap.size w w') : IsWr B b bs w' := by
  have f : ∀ p, Wr B b p bs w → Wr B b p bs w' := fun p ⟨h1, v, h2, h3, h4⟩ =>
    ⟨h1, v, (hb.block b (Array.getElem?_eq_some_iff.1 h2).1).trans h2, own_move h3 (fun k hk => hb.block k (own_lt h3 k hk)), h4⟩
  exact h.elim (fun x => .inl (f _ x)) (fun x => .inr (f _ x))
/-- The first i elements are written. -/
def PutAt (w0 : World) (b : Nat) (bs : List Value) (w : World) (g : Nat) (cs : Array Value) (l : List S42) (i : Nat) (W : World) : Prop :=
  i ≤ l.length ∧ Wr w0.heap.size b (.pointer (some ⟨b, 0, none⟩)) (bs ++ Lib.byteCells (headB 4 l.length ++ encL (l.take i))) W ∧ Below w0.heap.size w0 W ∧ ModW b w W
theorem i64_not_neg (n : Int) (h0 : -9223372036854775808 ≤ n) (h1 : n < 0) : bits .xor .i64 (-1) n = -1 - n := by
  show IntKind.i64.wrap ((BitVec.ofInt 64 (-1) ^^^ BitVec.ofInt 64 n).toNat : Int) = _
  have h2 : BitVec.ofInt 64 (-1) = BitVec.allOnes 64 := by decide
  rw [h2, BitVec.allOnes_xor, BitVec.toNat_not, BitVec.toNat_ofInt]
  simp [IntKind.wrap, IntKind.bits, IntKind.signed]
  omega
theorem headB_len (k n : Nat) (h : n < 18446744073709551616) : (headB k n).length ≤ 9 := by
  have := bes_len8 h
  simp only [headB, List.length_cons]; omega
theorem strCells_bytes (s : ByteArray) : Lib.strCells s = Lib.byteCells s.data.toList := by simp [Lib.strCells, Lib.byteCells]
set_option maxHeartbeats 8000000 in
set_option maxRecDepth 100000 in
theorem put_calls (m : Nat) : ∀ (x : S42) (hm : SizeOf.sizeOf x < m) (w0 : World) (b : Nat) (bs : List Value) (A : Option Addr) (c : Nat) (w : World) (h : IsWr w0.heap.size b bs w) (hA : Kd.C k42 w0 A x.f3.length x.f3) (hx : wfS x)
    (hlen : bs.length + (encS x).length + 16 ≤ 140737488355328) (hb0 : Below w0.heap.size w0 w),
    Calls Tryd.prog 38 #[.pointer (some ⟨b, 0, none⟩), .agg #[.int .i64 x.f0, .int .i64 x.f1, .string x.f2, .slice A x.f3.length c]] w fun e w' => e = .returned (.tuple #[]) ∧ (Wr w0.heap.size b (.pointer (some ⟨b, 0, none⟩)) (bs ++ Lib.byteCells (encS x)) w' ∧ Below w0.heap.size w0 w' ∧ ModW b w w') := by
  induction m with
  | zero => intro x hm; omega
  | succ m ih =>
    rintro ⟨k, n, s, l⟩ hm w0 b bs A c w h hA hx hlen hb0
    simp only at hA ⊢
    rw [wfS] at hx
    obtain ⟨hn0, hn1, hss, hll, hwl⟩ := hx
    rw [encS] at hlen ⊢
    have H := Lib.hid h
    have HA := Lib.hid hA
    have HB := Lib.hid hb0
    have HW := Lib.hid hwl
    have hlt := h.elim (fun e => e.lt) (fun e => e.lt)
    have HIH := Lib.hid ih
    clear h hA hb0 hwl ih
    by_cases hk1 : k = 1
    · rw [if_pos hk1] at hlen
      rw [if_pos hk1]
      by_cases hneg : n < 0
      · rw [if_pos hneg] at hlen
        rw [if_pos hneg]
        obtain ⟨q, hq⟩ : ∃ q : Nat, (-(n + 1)).toNat = q := ⟨_, rfl⟩
        rw [hq] at hlen ⊢
        go_enter Tryd.func38, Tryd.ntmps38
        go_wp2_with fail
        obtain ⟨W1, hW1⟩ : ∃ W1, W1 = w.alloc (.cells #[.int .i64 1, .int .i64 n, .string s, .slice A l.length c] 42) := ⟨_, rfl⟩
        rw [← hW1]
        have hn1 : Below w.heap.size w W1 := by rw [hW1]; exact (Below.refl _ _).alloc (Nat.le_refl _) _
        clear hW1
        have hB1 : Below w0.heap.size w0 W1 := HB.out.trans (hn1.mono HB.out.size)
        rw [i64_not_neg n hn0 hneg, show IntKind.u64.wrap (-1 - n) = (q : Int) by rw [IntKind.wrap_u64]; omega]
        have hhl := headB_len 2 q (by omega)
        refine (head_calls w0.heap.size b bs 2 q W1 (H.out.far hn1) (by decide) (by omega) (by omega) hB1.size).mono ?_
        rintro e W2 ⟨rfl, hw2, hb2, hm2⟩
        have HD := Lib.hid (And.intro hw2 (And.intro (hB1.trans hb2) ((ModW.of_below hn1).trans hm2)))
        clear hw2 hb2 hm2 hB1 hn1
        go_wp2_with fail
        go_end0
        exact ⟨rfl, HD.out⟩
      · rw [if_neg hneg] at hlen
        rw [if_neg hneg]
        obtain ⟨q, rfl⟩ : ∃ q : Nat, n = (q : Int) := ⟨n.toNat, by omega⟩
        rw [Int.toNat_natCast] at hlen ⊢
        go_enter Tryd.func38, Tryd.ntmps38
        go_wp2_with fail
        obtain ⟨W1, hW1⟩ : ∃ W1, W1 = w.alloc (.cells #[.int .i64 1, .int .i64 (q : Int), .string s, .slice A l.length c] 42) := ⟨_, rfl⟩
        rw [← hW1]
        have hn1 : Below w.heap.size w W1 := by rw [hW1]; exact (Below.refl _ _).alloc (Nat.le_refl _) _
        clear hW1
        have hB1 : Below w0.heap.size w0 W1 := HB.out.trans (hn1.mono HB.out.size)
        have hhl := headB_len 1 q (by omega)
        refine (head_calls w0.heap.size b bs 1 q W1 (H.out.far hn1) (by decide) (by omega) (by omega) hB1.size).mono ?_
        rintro e W2 ⟨rfl, hw2, hb2, hm2⟩
        have HD := Lib.hid (And.intro hw2 (And.intro (hB1.trans hb2) ((ModW.of_below hn1).trans hm2)))
        clear hw2 hb2 hm2 hB1 hn1
        go_wp2_with fail
        go_end0
        exact ⟨rfl, HD.out⟩
    · by_cases hk2 : k = 2
      · rw [if_neg hk1, if_pos hk2] at hlen
        rw [if_neg hk1, if_pos hk2]
        go_enter Tryd.func38, Tryd.ntmps38
        go_wp2_with fail
        obtain ⟨W1, hW1⟩ : ∃ W1, W1 = w.alloc (.cells #[.int .i64 2, .int .i64 n, .string s, .slice A l.length c] 42) := ⟨_, rfl⟩
        rw [← hW1]
        have hn1 : Below w.heap.size w W1 := by rw [hW1]; exact (Below.refl _ _).alloc (Nat.le_refl _) _
        have hg1 : W1.heap[w.heap.size]? = some (.cells #[.int .i64 2, .int .i64 n, .string s, .slice A l.length c] 42 (0, 0)) := by rw [hW1]; exact heap_alloc_last _ _
        have hgs : w.heap.size < W1.heap.size := (Array.getElem?_eq_some_iff.1 hg1).1
        have hB1 : Below w0.heap.size w0 W1 := HB.out.trans (hn1.mono HB.out.size)
        have hhl := headB_len 3 s.size (by omega)
        refine (head_calls w0.heap.size b bs 3 s.size W1 (H.out.far hn1) (by decide) (by omega) (by omega) hB1.size).mono ?_
        rintro e W2 ⟨rfl, hw2, hb2, hm2⟩
        have hc2 : W2.drew.cell? ⟨w.heap.size, 2, none⟩ = some (.string s) := by
          have hh : W2.drew.heap[w.heap.size]? = _ := (hm2.block _ hgs (by omega) (by rw [hg1]; intro c f e; injection e with e; injection e with _ e _; cases e)).trans hg1
          rw [Lib.cell_of_heap hh]; rfl
        have hws := writeString w0.heap.size b _ s W2.drew (IsWr.far (.inr hw2) ((Below.refl _ _).drew)) (by
          simp only [List.length_append, Lib.byteCells_length] at hlen ⊢
          have : s.data.toList.length = s.size := by rw [Array.length_toList]; rfl
          omega) (Nat.le_trans hB1.size hb2.size)
        rw [List.append_assoc, strCells_bytes, ← byteCells_append] at hws
        have HWS := Lib.hid hws
        have HD := Lib.hid (And.intro (hB1.trans hb2) ((ModW.of_below hn1).trans hm2))
        clear hw2 hb2 hm2 hn1 hW1 hg1 hgs hB1 hws
        go_wp2_with fail
        go_region_with (refine HWS.out.mono ?_; rintro e W3 ⟨rfl, hw3, hb3, hm3⟩)
        all_goals (go_wp2_with fail; go_end0; exact ⟨rfl, hw3, HD.out.1.trans (Below.trans ((Below.refl _ _).drew) hb3), HD.out.2.trans (ModW.trans (ModW.refl b _).drew hm3)⟩)
      · rw [if_neg hk1, if_neg hk2] at hlen
        rw [if_neg hk1, if_neg hk2]
        go_enter Tryd.func38, Tryd.ntmps38
        go_wp2_with fail
        obtain ⟨W1, hW1⟩ : ∃ W1, W1 = w.alloc (.cells #[.int .i64 k, .int .i64 n, .string s, .slice A l.length c] 42) := ⟨_, rfl⟩
        rw [← hW1]
        have hn1 : Below w.heap.size w W1 := by rw [hW1]; exact (Below.refl _ _).alloc (Nat.le_refl _) _
        have hg1 : W1.heap[w.heap.size]? = some (.cells #[.int .i64 k, .int .i64 n, .string s, .slice A l.length c] 42 (0, 0)) := by rw [hW1]; exact heap_alloc_last _ _
        have hgs : w.heap.size < W1.heap.size := (Array.getElem?_eq_some_iff.1 hg1).1
        have hB1 : Below w0.heap.size w0 W1 := HB.out.trans (hn1.mono HB.out.size)
        have hlen1 : (headB 4 l.length).length ≤ 9 := by
          have := bes_len8 (n := l.length) (by omega)
          simp only [headB, List.length_cons]; omega
        refine (head_calls w0.heap.size b bs 4 l.length W1 (H.out.far hn1) (by decide) (by omega) (by omega) hB1.size).mono ?_
        rintro e W2 ⟨rfl, hw2, hb2, hm2⟩
        have hc2 : W2.cell? ⟨w.heap.size, 3, none⟩ = some (.slice A l.length c) := by
          rw [Lib.cell_of_heap ((hm2.block _ hgs (by omega) (by rw [hg1]; intro c f e; injection e with e; injection e with _ e _; cases e)).trans hg1)]; rfl
        have hpa : PutAt w0 b bs w w.heap.size #[] l 0 W2 := ⟨Nat.zero_le _, by simpa [encL] using hw2, hB1.trans hb2, (ModW.of_below hn1).trans hm2⟩
        have HPA := Lib.hid hpa
        clear hW1 hg1 hgs hB1 hw2 hb2 hm2 hpa
        go_wp2_with fail
        go_loopw [17] (fun v wr => ∃ i : Nat, v = .int .i64 (i : Int) ∧ PutAt w0 b bs w w.heap.size #[] l i wr) (fun v _ => l.length - (intOf v).toNat)
        case atStart => exact ⟨0, rfl, HPA.out⟩
        case round =>
          obtain ⟨i, rfl, hi, hwr, hbe, hmo⟩ := hrel
          have HWR := Lib.hid hwr
          have HBE := Lib.hid hbe
          have HMO := Lib.hid hmo
          clear hwr hbe hmo
          by_cases hil : i < l.length
          · obtain ⟨ad, A3, c3, rfl, c0, c1, c2, c3', l3, g3⟩ := at_T42 HA.out (i : Int) (by omega) (by omega)
            obtain ⟨x, hx⟩ : ∃ x, l[i]? = some x := ⟨_, List.getElem?_eq_getElem hil⟩
            have hrd : rd_T42 l (i : Int) = x := by unfold rd_T42; rw [Int.toNat_natCast, List.getD_eq_getElem?_getD, hx]; rfl
            rw [hrd] at c0 c1 c2 c3' l3 g3
            rw [Int.toNat_natCast] at c0 c1 c2 c3'
            have hbk := block_lt_of_cell c0
            have c0 := (HBE.out.cell hbk).trans c0
            have c1 := (HBE.out.cell (p := ⟨(ad.add (i * 4)).block, (ad.add (i * 4)).off + 1, none⟩) hbk).trans c1
            have c2 := (HBE.out.cell (p := ⟨(ad.add (i * 4)).block, (ad.add (i * 4)).off + 2, none⟩) hbk).trans c2
            have c3' := (HBE.out.cell (p := ⟨(ad.add (i * 4)).block, (ad.add (i * 4)).off + 3, none⟩) hbk).trans c3'
            have HX := Lib.hid hx
            have HG3 := Lib.hid g3
            clear hx hrd g3 hbk
            go_wp2_with fail
            obtain ⟨W3, hW3⟩ : ∃ W3, W3 = wr.alloc (.cells #[.int .i64 x.f0, .int .i64 x.f1, .string x.f2, .slice A3 x.f3.length c3] 42) := ⟨_, rfl⟩
            rw [← hW3]
            have hn3 : Below wr.heap.size wr W3 := by rw [hW3]; exact (Below.refl _ _).alloc (Nat.le_refl _) _
            clear hW3
            have hsz : SizeOf.sizeOf x < m := by
              have := List.sizeOf_lt_of_mem (List.mem_of_getElem? HX.out)
              simp at hm; omega
            have hxl : (l.take (i + 1)) = l.take i ++ [x] := by rw [List.take_add_one, HX.out]; rfl
            have hle : (bs ++ Lib.byteCells (headB 4 l.length ++ encL (l.take i))).length + (encS x).length + 16 ≤ 140737488355328 := by
              have := encL_take_le l (i + 1)
              rw [hxl, encL_snoc] at this
              simp only [List.length_append, Lib.byteCells_length] at this hlen ⊢
              omega
            refine (HIH.out x hsz w0 b _ A3 c3 W3 (IsWr.far (.inr HWR.out) hn3) HG3.out (wfL_at HW.out HX.out) hle (HBE.out.trans (hn3.mono HBE.out.size))).mono ?_
            rintro e W4 ⟨rfl, hw4, hb4, hm4⟩
            have hp4 : PutAt w0 b bs w w.heap.size #[] l (i + 1) W4 := ⟨hil, by
              rw [hxl, encL_snoc, ← List.append_assoc, byteCells_append, ← List.append_assoc]; exact hw4, hb4, (HMO.out.trans (ModW.of_below hn3)).trans hm4⟩
            have HP4 := Lib.hid hp4
            clear hw4 hb4 hm4 hp4 hxl hle hsz
            go_wp2_with fail
            go_roundw
            case rel => exact ⟨i + 1, by go_num, HP4.out⟩
            case measure => simp [intOf]; omega
          · have hie : i = l.length := by omega
            have hfin : Wr w0.heap.size b (.pointer (some ⟨b, 0, none⟩)) (bs ++ Lib.byteCells (headB 4 l.length ++ encL l)) wr := by
              have := HWR.out; rw [hie, List.take_length] at this; exact this
            have HF := Lib.hid hfin
            clear hfin hie
            go_wp2_with fail
            go_end0
            exact ⟨rfl, HF.out, HBE.out, HMO.out⟩
end Go.Proofs.YtgjlchcfdbmmlaaDoor.PObjectTakes
namespace Go.Proofs.YtgjlchcfdbmmlaaDoor.PObjectTakes
open Go.RowKit Go.Proofs.YtgjlchcfdbmmlaaDoorW.PrintWords Go.Proofs.YtgjlchcfdbmmlaaDoorW.PrintLast Go.Proofs.YtgjlchcfdbmmlaaDoorW.PrintMore

theorem wf_int {n : Int} (h : (Lit.int .i64 n).wf = true) : -9223372036854775808 ≤ n ∧ n ≤ 9223372036854775807 := by
  simp only [Lit.wf, Bool.and_eq_true, decide_eq_true_eq] at h
  exact ⟨Int.le_trans (by decide) h.1, Int.le_trans h.2 (by decide)⟩
theorem S42.ind {P : S42 → Prop} (h : ∀ x : S42, (∀ y ∈ x.f3, P y) → P x) (x : S42) : P x := by
  have : ∀ m, ∀ x : S42, SizeOf.sizeOf x < m → P x := by
    intro m
    induction m with
    | zero => intro x hx; omega
    | succ m ih =>
      intro x hx
      refine h x (fun y hy => ih y ?_)
      obtain ⟨k, n, s, l⟩ := x
      have := List.sizeOf_lt_of_mem hy
      simp at hx this ⊢; omega
  exact this _ x (Nat.lt_succ_self _)
theorem wfS_parts {x : S42} (h : wfS x) : -9223372036854775808 ≤ x.f1 ∧ x.f1 ≤ 9223372036854775807 ∧ x.f2.size ≤ 140737488355328 ∧ x.f3.length ≤ 140737488355328 ∧ wfL x.f3 := by
  obtain ⟨k, n, s, l⟩ := x
  rw [wfS] at h; exact h
theorem wfL_mem {l : List S42} (h : wfL l) {y : S42} (hy : y ∈ l) : wfS y := by
  obtain ⟨i, hi⟩ := List.getElem?_of_mem hy
  exact wfL_at h hi
theorem toList_nil_iff (s : ByteArray) : s.toList = [] ↔ s.size = 0 := by
  rw [Lib.toList_data, Lib.size_eq]; exact List.length_eq_zero_iff.symm
mutual
/-- Its numbers are of their kind, however great its texts and lists. -/
def wfW : S42 → Prop
  | ⟨k, n, s, l⟩ => -9223372036854775808 ≤ n ∧ n ≤ 9223372036854775807 ∧ s.size ≤ 9223372036854775807 ∧ l.length ≤ 9223372036854775807 ∧ wfWL l
def wfWL : List S42 → Prop
  | [] => True
  | x :: xs => wfW x ∧ wfWL xs
end
theorem wfW_parts {x : S42} (h : wfW x) : -9223372036854775808 ≤ x.f1 ∧ x.f1 ≤ 9223372036854775807 ∧ x.f2.size ≤ 9223372036854775807 ∧ x.f3.length ≤ 9223372036854775807 ∧ wfWL x.f3 := by
  obtain ⟨k, n, s, l⟩ := x
  rw [wfW] at h; exact h
theorem wfWL_mem : ∀ {l : List S42}, wfWL l → ∀ {y : S42}, y ∈ l → wfW y
  | [], _, y, h => by simp at h
  | x :: xs, hw, y, h => by
    rw [wfWL] at hw
    rcases List.mem_cons.1 h with rfl | h
    · exact hw.1
    · exact wfWL_mem hw.2 h
theorem wfWL_of : ∀ {l : List S42}, (∀ y ∈ l, wfW y) → wfWL l
  | [], _ => by rw [wfWL]; trivial
  | x :: xs, h => by rw [wfWL]; exact ⟨h x List.mem_cons_self, wfWL_of (fun y hy => h y (List.mem_cons_of_mem _ hy))⟩
theorem wfL_of : ∀ {l : List S42}, (∀ y ∈ l, wfS y) → wfL l
  | [], _ => by rw [wfL]; trivial
  | x :: xs, h => by rw [wfL]; exact ⟨h x List.mem_cons_self, wfL_of (fun y hy => h y (List.mem_cons_of_mem _ hy))⟩
/-- Is a cell right, so deep at most? -/
def okS : Nat → S42 → Bool
  | 0, _ => false
  | d + 1, ⟨k, n, s, l⟩ => if k = 1 then decide (s.size = 0) && decide (l.length = 0) else if k = 2 then decide (n = 0) && (decide (l.length = 0) && decide (s.size ≤ 65535)) else if k = 3 then decide (n = 0) && (decide (s.size = 0) && (decide (l.length ≤ 4095) && l.all (okS d))) else false
end Go.Proofs.YtgjlchcfdbmmlaaDoor.PObjectTakes
namespace Go.Proofs.YtgjlchcfdbmmlaaDoor.PObjectTakes
open Go.RowKit Go.Proofs.YtgjlchcfdbmmlaaDoorW.PrintWords Go.Proofs.YtgjlchcfdbmmlaaDoorW.PrintLast Go.Proofs.YtgjlchcfdbmmlaaDoorW.PrintMore

mutual
/-- What 'few' counts. -/
def parts : S42 → Nat
  | ⟨_, _, s, l⟩ => 1 + s.size / 100 + partsL l
def partsL : List S42 → Nat
  | [] => 0
  | x :: xs => parts x + partsL xs
end
theorem parts_eq (x : S42) : parts x = 1 + x.f2.size / 100 + partsL x.f3 := by cases x; rw [parts]
theorem partsL_mem {l : List S42} {y : S42} (h : y ∈ l) : parts y ≤ partsL l := by
  induction l with
  | nil => simp at h
  | cons x xs ih =>
    rw [partsL]
    rcases List.mem_cons.1 h with rfl | h
    · omega
    · have := ih h; omega
theorem partsL_len (l : List S42) : l.length ≤ partsL l := by
  induction l with
  | nil => simp
  | cons x xs ih => rw [partsL, List.length_cons, parts_eq]; omega
/-- A cell of few parts has few bytes. -/
def EncLe (x : S42) : Prop := wfS x → (encS x).length ≤ 109 * parts x
theorem encL_le {l : List S42} (ih : ∀ y ∈ l, EncLe y) (hw : wfL l) : (encL l).length ≤ 109 * partsL l ∧ l.length ≤ partsL l := by
  induction l with
  | nil => rw [encL, partsL]; simp
  | cons x xs ihx =>
    rw [wfL] at hw
    obtain ⟨e1, e2⟩ := ihx (fun y hy => ih y (List.mem_cons_of_mem _ hy)) hw.2
    have e3 := ih x (List.mem_cons_self) hw.1
    have e4 : 1 ≤ parts x := by rw [parts_eq]; omega
    rw [encL, partsL, List.length_append, List.length_cons]
    omega
theorem enc_le (x : S42) : EncLe x := by
  refine S42.ind (P := EncLe) (fun x ih => ?_) x
  intro hx
  obtain ⟨hn0, hn1, hs, hl, hw⟩ := wfS_parts hx
  obtain ⟨e1, e2⟩ := encL_le ih hw
  rw [parts_eq]
  obtain ⟨k, n, s, l⟩ := x
  simp only at *
  rw [encS]
  have hb : ∀ k m, m < 18446744073709551616 → (headB k m).length ≤ 9 := headB_len
  split
  · split
    · have := hb 2 (-(n + 1)).toNat (by omega); omega
    · have := hb 1 n.toNat (by omega); omega
  · split
    · have := hb 3 s.size (by omega)
      rw [List.length_append, ← Lib.size_eq]; omega
    · have := hb 4 l.length (by omega)
      rw [List.length_append]; omega
/-- What Check answers. -/
def checkR (x : S42) : Int := if okS 16 x then 0 else 2
end Go.Proofs.YtgjlchcfdbmmlaaDoor.PObjectTakes
namespace Go.Proofs.YtgjlchcfdbmmlaaDoor.PObjectTakes
open Go.RowKit Go.Proofs.YtgjlchcfdbmmlaaDoor.Ord Go.Proofs.YtgjlchcfdbmmlaaDoor.Obj Go.Proofs.YtgjlchcfdbmmlaaDoorW.PrintWords Go.Proofs.YtgjlchcfdbmmlaaDoorW.PrintLast Go.Proofs.YtgjlchcfdbmmlaaDoorW.PrintMore

set_option maxHeartbeats 8000000 in
set_option maxRecDepth 100000 in
theorem check_calls : ∀ (m : Nat) (x : S42), SizeOf.sizeOf x < m → ∀ (d : Nat), d ≤ 16 → ∀ (A : Option Addr) (c : Nat) (w : World), Kd.C k42 w A x.f3.length x.f3 → x.f3.length ≤ c →
    Calls Tryd.prog 55 #[.agg #[.int .i64 x.f0, .int .i64 x.f1, .string x.f2, .slice A x.f3.length c], .int .i64 (d : Int)] w fun e w' => e = .returned (.bool (okS d x)) ∧ Below w.heap.size w w'
  | 0, x, h, d, hd, A, c, w, hA, hc => by omega
  | m + 1, x, h, d, hd, A, c, w, hA, hc => by
    have HIH := Lib.hid (fun y h' d hd A c w => check_calls m y h' d hd A c w)
    obtain ⟨k, n, s, l⟩ := x
    simp only at hA hc ⊢
    obtain ⟨W1, hW1⟩ : ∃ W1, W1 = w.alloc (.cells #[.int .i64 k, .int .i64 n, .string s, .slice A l.length c] 42) := ⟨_, rfl⟩
    have hn1 : Below w.heap.size w W1 := by rw [hW1]; exact (Below.refl _ _).alloc (Nat.le_refl _) _
    have hg1 : W1.heap[w.heap.size]? = some (.cells #[.int .i64 k, .int .i64 n, .string s, .slice A l.length c] 42 (0, 0)) := by rw [hW1]; exact alloc_lastV _ _
    obtain ⟨⟨b0, b1, b2, b3⟩, _⟩ := box4 hg1
    have HN1 := Lib.hid hn1
    have HG1 := Lib.hid hg1
    have HA := Lib.hid (Kd.C_below hA hn1)
    have hmx := hA.2.1
    rw [hW1] at b0 b1 b2 b3
    have HW1 := Lib.hid hW1
    clear hW1 hn1 hg1 hA
    cases d with
    | zero =>
      go_enter Tryd.func55, Tryd.ntmps55
      go_wp2_with fail
      rw [← HW1.out]
      go_ret
      exact ⟨by rw [okS]; rfl, HN1.out⟩
    | succ d =>
      have hd0 : ¬ ((d : Int) + 1 < 1) := by omega
      have hs0 : (s.toList = []) = (s.size = 0) := propext (toList_nil_iff s)
      rw [okS]
      by_cases h1 : k = 1
      · subst h1
        rw [if_pos rfl]
        go_enter Tryd.func55, Tryd.ntmps55
        go_wp2_with fail
        all_goals (go_ret; exact ⟨by first | rfl | (simp; done) | (simp; omega) | (cases l <;> simp; omega), (Below.refl _ _).alloc (Nat.le_refl _) _⟩)
      have hk1 : (k == 1) = false := by simpa using h1
      rw [if_neg h1]
      by_cases h2 : k = 2
      · subst h2
        rw [if_pos rfl]
        go_enter Tryd.func55, Tryd.ntmps55
        go_wp2_with fail
        all_goals (go_ret; exact ⟨by first | rfl | (simp; done) | (simp; omega) | (cases l <;> simp; omega), (Below.refl _ _).alloc (Nat.le_refl _) _⟩)
      have hk2 : (k == 2) = false := by simpa using h2
      rw [if_neg h2]
      by_cases h3 : k = 3
      · subst h3
        rw [if_pos rfl]
        obtain ⟨RV, hRV⟩ : ∃ RV, RV = (decide (n = 0) && (decide (s.size = 0) && (decide (l.length ≤ 4095) && l.all (okS d)))) := ⟨_, rfl⟩
        rw [← hRV]
        have HRV := Lib.hid hRV
        clear hRV
        go_enter Tryd.func55, Tryd.ntmps55
        go_wp2_with fail
        rw [← HW1.out]
        clear b0 b1 b2 b3
        go_loopw [44] (fun v wr => ∃ i : Nat, v = .int .i64 (i : Int) ∧ i ≤ l.length ∧ Hid ((l.take i).all (okS d) = true) ∧ Below W1.heap.size W1 wr) (fun v _ => l.length - (intOf v).toNat)
        case atStart => exact ⟨0, rfl, Nat.zero_le _, Lib.hid rfl, Below.refl _ _⟩
        case round =>
          obtain ⟨i, rfl, hi, HALL, hbe⟩ := hrel
          have HBE := Lib.hid hbe
          by_cases hil : i < l.length
          · obtain ⟨ad, A3, c3, rfl, c0, c1, c2, c3', l3, g3⟩ := at_T42 (Kd.C_below HA.out hbe) (i : Int) (by omega) (by omega)
            obtain ⟨x, hx⟩ : ∃ x, l[i]? = some x := ⟨_, List.getElem?_eq_getElem hil⟩
            have hrd : rd_T42 l (i : Int) = x := by unfold rd_T42; rw [Int.toNat_natCast, List.getD_eq_getElem?_getD, hx]; rfl
            rw [hrd] at c0 c1 c2 c3' l3 g3
            rw [Int.toNat_natCast] at c0 c1 c2 c3'
            have hsz : SizeOf.sizeOf x < m := by
              have := List.sizeOf_lt_of_mem (List.mem_of_getElem? hx)
              simp at h; omega
            obtain ⟨W3, hW3⟩ : ∃ W3, W3 = wr.alloc (.cells #[.int .i64 x.f0, .int .i64 x.f1, .string x.f2, .slice A3 x.f3.length c3] 42) := ⟨_, rfl⟩
            have hn3 : Below wr.heap.size wr W3 := by rw [hW3]; exact (Below.refl _ _).alloc (Nat.le_refl _) _
            have hg3 : W3.heap[wr.heap.size]? = some (.cells #[.int .i64 x.f0, .int .i64 x.f1, .string x.f2, .slice A3 x.f3.length c3] 42 (0, 0)) := by rw [hW3]; exact alloc_lastV _ _
            have HCALL := Lib.hid (HIH.out x hsz d (by omega) A3 c3 W3 (Kd.C_below g3 hn3) l3)
            have HN3 := Lib.hid hn3
            have hst : (l.take (i + 1)).all (okS d) = okS d x := by rw [List.take_add_one, hx, Option.toList_some, List.all_append, HALL.out, Bool.true_and, List.all_cons, List.all_nil, Bool.and_true]
            have HST := Lib.hid hst
            have HX := Lib.hid hx
            obtain ⟨⟨d0, d1, d2, d3⟩, _⟩ := box4 hg3
            rw [hW3] at d0 d1 d2 d3
            have HW3 := Lib.hid hW3
            clear hbe hrd g3 hx hsz hn3 hg3 hW3 hst
            go_wp2_with fail
            rw [← HW3.out]
            clear d0 d1 d2 d3 c0 c1 c2 c3'
            refine HCALL.out.mono ?_
            rintro e W4 ⟨rfl, hb4⟩
            have HB4 := Lib.hid (HBE.out.trans ((HN3.out.trans (hb4.mono HN3.out.size)).mono HBE.out.size))
            clear hb4
            cases ho : okS d x with
            | true =>
              rw [ho] at HST
              clear ho
              go_wp2_with fail
              go_roundw
              case rel => exact ⟨i + 1, by go_num, hil, HST, HB4.out⟩
              case measure => simp [intOf]; omega
            | false =>
              have HF := Lib.hid (show l.all (okS d) = false by rw [List.all_eq_false]; exact ⟨x, List.mem_of_getElem? HX.out, by rw [ho]; decide⟩)
              clear ho
              go_wp2_with fail
              go_ret
              exact ⟨by rw [HRV.out, HF.out]; simp, HN1.out.trans (HB4.out.mono HN1.out.size)⟩
          · have hie : i = l.length := by omega
            have hall := HALL.out
            rw [hie, List.take_length] at hall
            have HF := Lib.hid hall
            obtain ⟨⟨b0, b1, b2, b3⟩, _⟩ := box4 ((hbe.block _ (Array.getElem?_eq_some_iff.1 HG1.out).1).trans HG1.out)
            clear hall hie hbe HALL
            go_wp2_with fail
            all_goals (go_ret; exact ⟨by rw [HRV.out, HF.out]; first | (simp [*]; done) | (simp [*]; omega), HN1.out.trans (HBE.out.mono HN1.out.size)⟩)
      have hk3 : (k == 3) = false := by simpa using h3
      rw [if_neg h3]
      go_enter Tryd.func55, Tryd.ntmps55
      go_wp2_with fail
      rw [← HW1.out]
      go_ret
      exact ⟨rfl, HN1.out⟩
set_option maxRecDepth 100000 in
theorem Check_calls (x : S42) (A : Option Addr) (c : Nat) (w : World) (hA : Kd.C k42 w A x.f3.length x.f3) (hc : x.f3.length ≤ c) :
    Calls Tryd.prog 33 #[.agg #[.int .i64 x.f0, .int .i64 x.f1, .string x.f2, .slice A x.f3.length c]] w fun e w' => e = .returned (.int .i64 (checkR x)) ∧ Below w.heap.size w w' := by
  obtain ⟨W1, hW1⟩ : ∃ W1, W1 = w.alloc (.cells #[.int .i64 x.f0, .int .i64 x.f1, .string x.f2, .slice A x.f3.length c] 42) := ⟨_, rfl⟩
  have hn1 : Below w.heap.size w W1 := by rw [hW1]; exact (Below.refl _ _).alloc (Nat.le_refl _) _
  have hg1 : W1.heap[w.heap.size]? = some (.cells #[.int .i64 x.f0, .int .i64 x.f1, .string x.f2, .slice A x.f3.length c] 42 (0, 0)) := by rw [hW1]; exact alloc_lastV _ _
  obtain ⟨⟨b0, b1, b2, b3⟩, _⟩ := box4 hg1
  have HC := Lib.hid (check_calls _ x (Nat.lt_succ_self _) 16 (Nat.le_refl _) A c W1 (Kd.C_below hA hn1) hc)
  have HN1 := Lib.hid hn1
  rw [hW1] at b0 b1 b2 b3
  have HW1 := Lib.hid hW1
  clear hW1 hn1 hg1 hA
  unfold checkR
  generalize okS 16 x = r at HC
  go_enter Tryd.func33, Tryd.ntmps33
  go_wp2_with fail
  rw [← HW1.out]
  clear b0 b1 b2 b3
  refine HC.out.mono ?_
  rintro e W2 ⟨rfl, hb2⟩
  have HF := Lib.hid (HN1.out.trans (hb2.mono HN1.out.size))
  clear hb2
  cases r
  all_goals
    go_wp2_with fail
    go_ret
    exact ⟨rfl, HF.out⟩
end Go.Proofs.YtgjlchcfdbmmlaaDoor.PObjectTakes
namespace Go.Proofs.YtgjlchcfdbmmlaaDoor.PObjectTakes
open Go.RowKit Go.Proofs.YtgjlchcfdbmmlaaDoor.Ord Go.Proofs.YtgjlchcfdbmmlaaDoor.Obj Go.Proofs.YtgjlchcfdbmmlaaDoorW.PrintWords Go.Proofs.YtgjlchcfdbmmlaaDoorW.PrintLast Go.Proofs.YtgjlchcfdbmmlaaDoorW.PrintMore

/-- What Put answers, r being what Check does. -/
def putB (r : Int) (x : S42) : List UInt8 := if r = 0 then encS x else []
theorem headB_ne (k n : Nat) : headB k n ≠ [] := by simp [headB]
theorem encS_ne : ∀ x : S42, encS x ≠ []
  | ⟨k, n, s, l⟩ => by
    rw [encS]
    split
    · split <;> exact headB_ne _ _
    · split <;> simp [headB]

set_option maxHeartbeats 4000000 in
set_option maxRecDepth 100000 in
theorem Put_calls (x : S42) (A : Option Addr) (c : Nat) (r : Int) (w : World) (hA : Kd.C k42 w A x.f3.length x.f3) (hc : x.f3.length ≤ c) (hx : wfS x) (hr : checkR x = r)
    (hlen : r = 0 → (encS x).length + 16 ≤ 140737488355328) :
    Calls Tryd.prog 20 #[.agg #[.int .i64 x.f0, .int .i64 x.f1, .string x.f2, .slice A x.f3.length c]] w fun e w' => e = .returned (.tuple #[.string ⟨(putB r x).toArray⟩, .int .i64 r]) ∧ Below w.heap.size w w' := by
  have HA := Lib.hid hA
  have HL := Lib.hid hlen
  obtain ⟨W1, hW1⟩ : ∃ W1, W1 = w.alloc (.cells #[.int .i64 x.f0, .int .i64 x.f1, .string x.f2, .slice A x.f3.length c] 42) := ⟨_, rfl⟩
  have hn1 : Below w.heap.size w W1 := by rw [hW1]; exact (Below.refl _ _).alloc (Nat.le_refl _) _
  have hg1 : W1.heap[w.heap.size]? = some (.cells #[.int .i64 x.f0, .int .i64 x.f1, .string x.f2, .slice A x.f3.length c] 42 (0, 0)) := by rw [hW1]; exact heap_alloc_last _ _
  have hgs : w.heap.size < W1.heap.size := (Array.getElem?_eq_some_iff.1 hg1).1
  subst hr
  have HC := Lib.hid (Check_calls x A c W1 (Kd.C_below hA hn1) hc)
  generalize checkR x = r at hlen HL HC ⊢
  have HW1 := Lib.hid hW1
  have HG1 := Lib.hid hg1
  have HN1 := Lib.hid hn1
  clear hA hlen hW1 hg1 hn1
  go_enter Tryd.func20, Tryd.ntmps20
  go_wp2_with fail
  rw [← HW1.out]
  have c0 : W1.cell? ⟨w.heap.size, 0, none⟩ = some (.int .i64 x.f0) := by rw [Lib.cell_of_heap HG1.out]; rfl
  have c1 : W1.cell? ⟨w.heap.size, 1, none⟩ = some (.int .i64 x.f1) := by rw [Lib.cell_of_heap HG1.out]; rfl
  have c2 : W1.cell? ⟨w.heap.size, 2, none⟩ = some (.string x.f2) := by rw [Lib.cell_of_heap HG1.out]; rfl
  have c3 : W1.cell? ⟨w.heap.size, 3, none⟩ = some (.slice A x.f3.length c) := by rw [Lib.cell_of_heap HG1.out]; rfl
  clear c0 c1 c2 c3
  refine HC.out.mono ?_
  rintro e W2 ⟨rfl, hb2⟩
  have hB2 := HN1.out.trans (hb2.mono (Nat.le_of_lt hgs))
  have hg2 := (hb2.block _ hgs).trans HG1.out
  by_cases hr0 : r = 0
  · subst hr0
    obtain ⟨W3, hW3⟩ : ∃ W3, W3 = W2.alloc (.cells #[.pointer none, .slice none 0 0] 94) := ⟨_, rfl⟩
    have hn3 : Below W2.heap.size W2 W3 := by rw [hW3]; exact (Below.refl _ _).alloc (Nat.le_refl _) _
    have hi3 : IsWr W2.heap.size W2.heap.size [] W3 := by rw [hW3]; exact Lib.fresh_isBuilder _ _ _
    have hs2 := (Array.getElem?_eq_some_iff.1 hg2).1
    have hg3 := (hn3.block _ hs2).trans hg2
    have d0 : (W2.alloc (.cells #[.pointer none, .slice none 0 0] 94)).cell? ⟨w.heap.size, 0, none⟩ = some (.int .i64 x.f0) := by rw [← hW3, Lib.cell_of_heap hg3]; rfl
    have d1 : (W2.alloc (.cells #[.pointer none, .slice none 0 0] 94)).cell? ⟨w.heap.size, 1, none⟩ = some (.int .i64 x.f1) := by rw [← hW3, Lib.cell_of_heap hg3]; rfl
    have d2 : (W2.alloc (.cells #[.pointer none, .slice none 0 0] 94)).cell? ⟨w.heap.size, 2, none⟩ = some (.string x.f2) := by rw [← hW3, Lib.cell_of_heap hg3]; rfl
    have d3 : (W2.alloc (.cells #[.pointer none, .slice none 0 0] 94)).cell? ⟨w.heap.size, 3, none⟩ = some (.slice A x.f3.length c) := by rw [← hW3, Lib.cell_of_heap hg3]; rfl
    have hput := put_calls (SizeOf.sizeOf x + 1) x (Nat.lt_succ_self _) W2 W2.heap.size [] A c W3 hi3 (Kd.C_below HA.out hB2) hx (by have := HL.out rfl; simpa using this) hn3
    have HP := Lib.hid hput
    have HB2 := Lib.hid hB2
    have HW3 := Lib.hid hW3
    clear hput hB2 hb2 hg2 hg3 hs2 hn3 hi3
    go_wp2_with fail
    rw [← HW3.out]
    clear d0 d1 d2 d3
    refine HP.out.mono ?_
    rintro e W4 ⟨rfl, hw4, hb4, hm4⟩
    have hst := builderString W2.heap.size W2.heap.size (encS x) W4 (.inr (by simpa using hw4)) (encS_ne x)
    have HS := Lib.hid hst
    have HB4 := Lib.hid hb4
    clear hw4 hm4 hst hb4
    go_wp2_with fail
    refine HS.out.mono ?_
    rintro e W5 ⟨rfl, hb5⟩
    have hfin := HB2.out.trans ((HB4.out.trans hb5).mono HB2.out.size)
    go_wp2_with fail
    go_ret2
    exact ⟨rfl, hfin⟩
  · have HB2 := Lib.hid hB2
    clear hB2 hb2 hg2 HG1
    go_wp2_with fail
    go_ret2
    exact ⟨by rw [show putB r x = [] by unfold putB; rw [if_neg hr0]]; rfl, HB2.out⟩
end Go.Proofs.YtgjlchcfdbmmlaaDoor.PObjectTakes
namespace Go.Proofs.YtgjlchcfdbmmlaaDoor.PObjectTakes
open Go.RowKit Go.Proofs.YtgjlchcfdbmmlaaDoorW.PrintWords Go.Proofs.YtgjlchcfdbmmlaaDoorW.PrintLast Go.Proofs.YtgjlchcfdbmmlaaDoorW.PrintMore

/-- The panic that 'need' raises. -/
def wrongP (p e : Int) : List PanicEntry := [{ v := .iface 132 (.agg #[.int .i64 p, .int .i64 e]), recovered := false }]
set_option maxRecDepth 100000 in
theorem need_ok (p e : Int) (w : World) : Calls Tryd.prog 78 #[.bool true, .int .i64 p, .int .i64 e] w fun en w' => en = .returned (.tuple #[]) ∧ w' = w := by
  go_enter Tryd.func78, Tryd.ntmps78
  go_wp2
  go_end0
  exact ⟨rfl, rfl⟩
set_option maxRecDepth 100000 in
theorem need_no (p e : Int) (w : World) : Calls Tryd.prog 78 #[.bool false, .int .i64 p, .int .i64 e] w fun en w' => en = .panicked (wrongP p e) ∧ w' = w := by
  go_enter Tryd.func78, Tryd.ntmps78
  go_wp2
  exact ⟨rfl, rfl, rfl⟩
/-- What 'first' answers. -/
def firstV (b : Nat) : Value :=
  if b / 16 = 1 then .iface 155 (.agg #[.bool false]) else if b / 16 = 2 then .iface 155 (.agg #[.bool true]) else if b / 16 = 3 then .iface 157 (.agg #[]) else if b / 16 = 4 then .iface 166 (.agg #[]) else .nilIface
set_option maxRecDepth 100000 in
theorem first_calls (b : Nat) (w : World) (hb : b < 256) : Calls Tryd.prog 77 #[.int .u8 (b : Int)] w fun en w' => en = .returned (firstV b) ∧ w' = w := by
  unfold firstV
  by_cases h1 : b / 16 = 1
  · rw [if_pos h1]
    go_enter Tryd.func77, Tryd.ntmps77
    go_wp2
    go_ret
    exact ⟨rfl, rfl⟩
  · rw [if_neg h1]
    have e1 : ((b : Int) / 16 == 1) = false := by rw [beq_eq_false_iff_ne]; omega
    by_cases h2 : b / 16 = 2
    · rw [if_pos h2]
      have e2 : ((b : Int) / 16 == 2) = true := by rw [beq_iff_eq]; omega
      go_enter Tryd.func77, Tryd.ntmps77
      go_wp2
      go_ret
      exact ⟨rfl, rfl⟩
    · rw [if_neg h2]
      have e2 : ((b : Int) / 16 == 2) = false := by rw [beq_eq_false_iff_ne]; omega
      by_cases h3 : b / 16 = 3
      · rw [if_pos h3]
        have e3 : ((b : Int) / 16 == 3) = true := by rw [beq_iff_eq]; omega
        go_enter Tryd.func77, Tryd.ntmps77
        go_wp2
        go_ret
        exact ⟨rfl, rfl⟩
      · rw [if_neg h3]
        have e3 : ((b : Int) / 16 == 3) = false := by rw [beq_eq_false_iff_ne]; omega
        by_cases h4 : b / 16 = 4
        · rw [if_pos h4]
          have e4 : ((b : Int) / 16 == 4) = true := by rw [beq_iff_eq]; omega
          go_enter Tryd.func77, Tryd.ntmps77
          go_wp2
          go_ret
          exact ⟨rfl, rfl⟩
        · rw [if_neg h4]
          have e4 : ((b : Int) / 16 == 4) = false := by rw [beq_eq_false_iff_ne]; omega
          go_enter Tryd.func77, Tryd.ntmps77
          go_wp2
          go_ret
          exact ⟨rfl, rfl⟩
set_option maxRecDepth 100000 in
theorem most_number (v : Bool) (w : World) : Calls Tryd.prog 115 #[.agg #[.bool v]] w fun en w' => en = .returned (.tuple #[.int .i64 8, .int .u64 9223372036854775807]) ∧ Below w.heap.size w w' := by
  go_enter Tryd.func115, Tryd.ntmps115
  go_wp2
  go_ret2
  exact ⟨rfl, (Below.refl _ _).alloc (Nat.le_refl _) _⟩
set_option maxRecDepth 100000 in
theorem most_word (w : World) : Calls Tryd.prog 116 #[.agg #[]] w fun en w' => en = .returned (.tuple #[.int .i64 2, .int .u64 65535]) ∧ Below w.heap.size w w' := by
  go_enter Tryd.func116, Tryd.ntmps116
  go_wp2
  go_ret2
  exact ⟨rfl, (Below.refl _ _).alloc (Nat.le_refl _) _⟩
set_option maxRecDepth 100000 in
theorem most_row (w : World) : Calls Tryd.prog 117 #[.agg #[]] w fun en w' => en = .returned (.tuple #[.int .i64 2, .int .u64 4095]) ∧ Below w.heap.size w w' := by
  go_enter Tryd.func117, Tryd.ntmps117
  go_wp2
  go_ret2
  exact ⟨rfl, (Below.refl _ _).alloc (Nat.le_refl _) _⟩
end Go.Proofs.YtgjlchcfdbmmlaaDoor.PObjectTakes
namespace Go.Proofs.YtgjlchcfdbmmlaaDoor.PObjectTakes
open Go.RowKit Go.Proofs.YtgjlchcfdbmmlaaDoor.Ord Go.Proofs.YtgjlchcfdbmmlaaDoorW.PrintWords Go.Proofs.YtgjlchcfdbmmlaaDoorW.PrintLast Go.Proofs.YtgjlchcfdbmmlaaDoorW.PrintMore
attribute [local irreducible] OpGives
attribute [local go_sem] rdl_const rdl_func rdl_global rdl_nil rdl_cons

/-- From w to w' nothing that was there has turned but block b. -/
structure ModB (b : Nat) (w w' : World) : Prop where
  os : w'.os = w.os
  tape : w'.tape = w.tape
  output : w'.output = w.output
  size : w.heap.size ≤ w'.heap.size
  block : ∀ k, k < w.heap.size → k ≠ b → w'.heap[k]? = w.heap[k]?
theorem ModB.refl (b : Nat) (w : World) : ModB b w w := ⟨rfl, rfl, rfl, Nat.le_refl _, fun _ _ _ => rfl⟩
theorem ModB.trans {b : Nat} {w w1 w2 : World} (h : ModB b w w1) (k : ModB b w1 w2) : ModB b w w2 :=
  ⟨k.os.trans h.os, k.tape.trans h.tape, k.output.trans h.output, Nat.le_trans h.size k.size, fun i hi hb => (k.block i (Nat.lt_of_lt_of_le hi h.size) hb).trans (h.block i hi hb)⟩
theorem ModB.of_below {b : Nat} {w w' : World} (h : Below w.heap.size w w') : ModB b w w' := ⟨h.os, h.tape, h.output, h.size, fun k hk _ => h.block k hk⟩
theorem ModB.below {b B : Nat} {w w' : World} (h : ModB b w w') (hB : B ≤ w.heap.size) (hb : B ≤ b) : Below B w w' := ⟨h.os, h.tape, h.output, h.size, fun k hk => h.block k (by omega) (by omega)⟩
theorem ModB.setCell (b : Nat) (w : World) (j : Nat) (v : Value) : ModB b w (w.setCell ⟨b, j, none⟩ v) :=
  ⟨rfl, rfl, rfl, by simp [World.setCell], fun k _ hb => Below.heap_setCell _ _ _ _ hb⟩
theorem ModB.drew {b : Nat} {w w' : World} (h : ModB b w w') : ModB b w w'.drew := ⟨h.os, h.tape, h.output, h.size, h.block⟩
/-- A reader over s that stands at 'at'. -/
def RdAt (b : Nat) (s : ByteArray) (p : Nat) (w : World) : Prop := w.heap[b]? = some (.cells #[.string s, .int .i64 (p : Int)] 135 (0, 0))
theorem wpOp_panics {P : Program} {ops : Array Oper} {Q : Exit → Act → World → Prop} {i : Nat} {o : Oper} {K : Act → World → Prop} {a : Act} {w w' : World} {f : FuncId} {args : Array Value} (hi : ops[i]? = some o) (hg : o.guard = none)
    (hrun : (execOp a.eval o).run P w = .ok (.enter f args) w') (h : Calls P f args w' fun e w'' => ∃ ch, e = .panicked ch ∧ Q (.panic ch) a w'') : wpOp P ops Q i K a w := by
  unfold wpOp; rw [hi]; simp only [Region.wanted, hg, if_true]
  refine .inl ?_
  unfold Oper.wp; rw [hrun]
  exact h.mono fun e w'' ⟨v, he, hk⟩ => by subst he; exact hk
theorem RdAt.kept {b : Nat} {s : ByteArray} {p : Nat} {w w' : World} (h : RdAt b s p w) (hb : Below w.heap.size w w') : RdAt b s p w' :=
  (hb.block b (Array.getElem?_eq_some_iff.1 h).1).trans h

set_option maxHeartbeats 8000000 in
set_option maxRecDepth 100000 in
theorem bytes_ok (b : Nat) (s : ByteArray) (p n : Nat) (w : World) (h : RdAt b s p w) (hs : s.size ≤ 140737488355328) (hp : p + n ≤ s.size) :
    Calls Tryd.prog 76 #[.pointer (some ⟨b, 0, none⟩), .int .i64 (n : Int)] w fun e w' => e = .returned (.string (s.extract p (p + n))) ∧ RdAt b s (p + n) w' ∧ ModB b w w' := by
  have c0 : w.cell? ⟨b, 0, none⟩ = some (.string s) := by rw [Lib.cell_of_heap h]; rfl
  have c1 : w.cell? ⟨b, 1, none⟩ = some (.int .i64 (p : Int)) := by rw [Lib.cell_of_heap h]; rfl
  have f1 : w.frozen? ⟨b, 1, none⟩ = false := Lib.frozen_of_heap h 1
  have hge : (n : Int) ≤ (s.size : Int) - (p : Int) := by omega
  have H := Lib.hid h
  clear h
  go_enter Tryd.func76, Tryd.ntmps76
  go_wp2_with fail
  refine' wp_region_factsT (S := (fun W => W = w.drew)) (R := (fun a b => a = b)) [eqF _ _, eqF _ _, eqF _ _, eqF _ (.string s), eqF _ _, eqF _ _, eqF _ _, eqF _ _, eqF _ (.int .i64 (p : Int)), eqF _ (.int .i64 ((s.size : Int) - (p : Int))), eqF _ _, eqF _ (.bool true), eqF _ _, eqF _ _, eqF _ _, eqF _ (.string s), eqF _ _] (by kernel_rfl) (by kernel_rfl) ?hS ?h0 (Ord.steps_cons ?s0 (Ord.steps_cons ?s1 (Ord.steps_cons ?s2 (Ord.steps_cons ?s3 (Ord.steps_cons ?s4 (Ord.steps_cons ?s5 (Ord.steps_cons ?s6 (Ord.steps_cons ?s7 (Ord.steps_cons ?s8 (Ord.steps_cons ?s9 (Ord.steps_cons ?s10 (Ord.steps_cons ?s11 (Ord.steps_cons ?s12 (Ord.steps_cons ?s13 (Ord.steps_cons ?s14 (Ord.steps_cons ?s15 (Ord.steps_cons ?s16 (Ord.steps_nil)))))))))))))))))) ?fin
  case s0 =>
    intro g W hSW hd
    try simp only [Nat.zero_add, Nat.reduceAdd] at hd ⊢
    with_reducible refine OpGives.pre_reads [] 46 ?_ ?_ ?_
    · rfl
    · kernel_rfl
    simp only [List.map_cons, List.map_nil]
    refine OpGives.val (w' := W) ?_ ⟨rfl, rfl⟩
    go_simp
    try with_reducible rfl
  case s1 =>
    intro g W hSW hd
    try simp only [Nat.zero_add, Nat.reduceAdd] at hd ⊢
    have h0 : g 0 = _ := hd 0 (by decide) (by kernel_rfl)
    with_reducible refine OpGives.pre_reads [(5, 0)] 46 ?_ ?_ ?_
    · rfl
    · kernel_rfl
    simp only [List.map_cons, List.map_nil]
    refine OpGives.val (w' := W) ?_ ⟨rfl, rfl⟩
    go_simp
    try with_reducible rfl
  case s2 =>
    intro g W hSW hd
    try simp only [Nat.zero_add, Nat.reduceAdd] at hd ⊢
    have h1 : g 1 = _ := hd 1 (by decide) (by kernel_rfl)
    with_reducible refine OpGives.pre_reads [(6, 1)] 46 ?_ ?_ ?_
    · rfl
    · kernel_rfl
    simp only [List.map_cons, List.map_nil]
    refine OpGives.val (w' := W) ?_ ⟨rfl, rfl⟩
    go_simp
    try with_reducible rfl
  case s3 =>
    intro g W hSW hd
    try simp only [Nat.zero_add, Nat.reduceAdd] at hd ⊢
    have h2 : g 2 = _ := hd 2 (by decide) (by kernel_rfl)
    with_reducible refine OpGives.pre_reads [(7, 2)] 46 ?_ ?_ ?_
    · rfl
    · kernel_rfl
    simp only [List.map_cons, List.map_nil]
    subst hSW; refine OpGives.val (v := .string s) (w' := w.drew) ?_ ⟨rfl, rfl⟩; go_simp
  case s4 =>
    intro g W hSW hd
    try simp only [Nat.zero_add, Nat.reduceAdd] at hd ⊢
    have h3 : g 3 = _ := hd 3 (by decide) (by kernel_rfl)
    with_reducible refine OpGives.pre_reads [(8, 3)] 46 ?_ ?_ ?_
    · rfl
    · kernel_rfl
    simp only [List.map_cons, List.map_nil]
    refine OpGives.val (w' := W) ?_ ⟨rfl, rfl⟩
    go_simp
    try with_reducible rfl
  case s5 =>
    intro g W hSW hd
    try simp only [Nat.zero_add, Nat.reduceAdd] at hd ⊢
    with_reducible refine OpGives.pre_reads [] 46 ?_ ?_ ?_
    · rfl
    · kernel_rfl
    simp only [List.map_cons, List.map_nil]
    refine OpGives.val (w' := W) ?_ ⟨rfl, rfl⟩
    go_simp
    try with_reducible rfl
  case s6 =>
    intro g W hSW hd
    try simp only [Nat.zero_add, Nat.reduceAdd] at hd ⊢
    have h5 : g 5 = _ := hd 5 (by decide) (by kernel_rfl)
    with_reducible refine OpGives.pre_reads [(10, 5)] 46 ?_ ?_ ?_
    · rfl
    · kernel_rfl
    simp only [List.map_cons, List.map_nil]
    refine OpGives.val (w' := W) ?_ ⟨rfl, rfl⟩
    go_simp
    try with_reducible rfl
  case s7 =>
    intro g W hSW hd
    try simp only [Nat.zero_add, Nat.reduceAdd] at hd ⊢
    have h6 : g 6 = _ := hd 6 (by decide) (by kernel_rfl)
    with_reducible refine OpGives.pre_reads [(11, 6)] 46 ?_ ?_ ?_
    · rfl
    · kernel_rfl
    simp only [List.map_cons, List.map_nil]
    refine OpGives.val (w' := W) ?_ ⟨rfl, rfl⟩
    go_simp
    try with_reducible rfl
  case s8 =>
    intro g W hSW hd
    try simp only [Nat.zero_add, Nat.reduceAdd] at hd ⊢
    have h7 : g 7 = _ := hd 7 (by decide) (by kernel_rfl)
    with_reducible refine OpGives.pre_reads [(12, 7)] 46 ?_ ?_ ?_
    · rfl
    · kernel_rfl
    simp only [List.map_cons, List.map_nil]
    subst hSW; refine OpGives.val (v := .int .i64 (p : Int)) (w' := w.drew) ?_ ⟨rfl, rfl⟩; go_simp
  case s9 =>
    intro g W hSW hd
    try simp only [Nat.zero_add, Nat.reduceAdd] at hd ⊢
    have h4 : g 4 = _ := hd 4 (by decide) (by kernel_rfl)
    have h8 : g 8 = _ := hd 8 (by decide) (by kernel_rfl)
    with_reducible refine OpGives.pre_reads [(9, 4), (13, 8)] 46 ?_ ?_ ?_
    · rfl
    · kernel_rfl
    simp only [List.map_cons, List.map_nil]
    subst hSW; refine OpGives.val (v := .int .i64 ((s.size : Int) - (p : Int))) (w' := w.drew) ?_ ⟨rfl, rfl⟩; go_simp; rw [IntKind.wrap_i64]; omega
  case s10 =>
    intro g W hSW hd
    try simp only [Nat.zero_add, Nat.reduceAdd] at hd ⊢
    with_reducible refine OpGives.pre_reads [] 46 ?_ ?_ ?_
    · rfl
    · kernel_rfl
    simp only [List.map_cons, List.map_nil]
    refine OpGives.val (w' := W) ?_ ⟨rfl, rfl⟩
    go_simp
    try with_reducible rfl
  case s11 =>
    intro g W hSW hd
    try simp only [Nat.zero_add, Nat.reduceAdd] at hd ⊢
    have h9 : g 9 = _ := hd 9 (by decide) (by kernel_rfl)
    have h10 : g 10 = _ := hd 10 (by decide) (by kernel_rfl)
    with_reducible refine OpGives.pre_reads [(14, 9), (15, 10)] 46 ?_ ?_ ?_
    · rfl
    · kernel_rfl
    simp only [List.map_cons, List.map_nil]
    subst hSW; refine OpGives.val (v := .bool true) (w' := w.drew) ?_ ⟨rfl, rfl⟩; go_simp
  case s12 =>
    intro g W hSW hd
    try simp only [Nat.zero_add, Nat.reduceAdd] at hd ⊢
    with_reducible refine OpGives.pre_reads [] 46 ?_ ?_ ?_
    · rfl
    · kernel_rfl
    simp only [List.map_cons, List.map_nil]
    refine OpGives.val (w' := W) ?_ ⟨rfl, rfl⟩
    go_simp
    try with_reducible rfl
  case s13 =>
    intro g W hSW hd
    try simp only [Nat.zero_add, Nat.reduceAdd] at hd ⊢
    have h12 : g 12 = _ := hd 12 (by decide) (by kernel_rfl)
    with_reducible refine OpGives.pre_reads [(17, 12)] 46 ?_ ?_ ?_
    · rfl
    · kernel_rfl
    simp only [List.map_cons, List.map_nil]
    refine OpGives.val (w' := W) ?_ ⟨rfl, rfl⟩
    go_simp
    try with_reducible rfl
  case s14 =>
    intro g W hSW hd
    try simp only [Nat.zero_add, Nat.reduceAdd] at hd ⊢
    have h13 : g 13 = _ := hd 13 (by decide) (by kernel_rfl)
    with_reducible refine OpGives.pre_reads [(18, 13)] 46 ?_ ?_ ?_
    · rfl
    · kernel_rfl
    simp only [List.map_cons, List.map_nil]
    refine OpGives.val (w' := W) ?_ ⟨rfl, rfl⟩
    go_simp
    try with_reducible rfl
  case s15 =>
    intro g W hSW hd
    try simp only [Nat.zero_add, Nat.reduceAdd] at hd ⊢
    have h14 : g 14 = _ := hd 14 (by decide) (by kernel_rfl)
    with_reducible refine OpGives.pre_reads [(19, 14)] 46 ?_ ?_ ?_
    · rfl
    · kernel_rfl
    simp only [List.map_cons, List.map_nil]
    subst hSW; refine OpGives.val (v := .string s) (w' := w.drew) ?_ ⟨rfl, rfl⟩; go_simp
  case s16 =>
    intro g W hSW hd
    try simp only [Nat.zero_add, Nat.reduceAdd] at hd ⊢
    have h15 : g 15 = _ := hd 15 (by decide) (by kernel_rfl)
    with_reducible refine OpGives.pre_reads [(20, 15)] 46 ?_ ?_ ?_
    · rfl
    · kernel_rfl
    simp only [List.map_cons, List.map_nil]
    refine OpGives.val (w' := W) ?_ ⟨rfl, rfl⟩
    go_simp
    try with_reducible rfl
  case hS => rintro a c h rfl; exact h
  case h0 => rfl
  case fin =>
    intro v W hSW hf
    subst hSW
    have h11 : v 11 = _ := hf 11 (Nat.lt_of_lt_of_eq (by decide : 11 < 17) rfl)
    have h16 : v 16 = _ := hf 16 (Nat.lt_of_lt_of_eq (by decide : 16 < 17) rfl)
    clear hf
    generalize hF : Ord.pre _ _ v _ = F
    rw [Ord.pre_lit [some 5, some 6, some 7, some 8, some 9, some 10, some 11, some 12, some 13, some 14, some 15, some 16, some 17, some 18, some 19, some 20, some 21]
      (by kernel_rfl)] at hF
    simp only [Ord.puts, Nat.zero_add, Nat.reduceAdd] at hF
    subst hF
    rw [h11, h16]
    clear h11 h16
    refine any_one (i := 17) (by kernel_rfl) ?_
    refine wpOp_call (f := 78) (args := #[.bool true, .int .i64 (s.size : Int), .int .i64 3]) (w' := w.drew) rfl rfl (by go_simp) ((need_ok _ _ _).mono fun e w'' he => ⟨_, he.1, ?_⟩)
    rw [he.2]
    clear he
    refine wpAny_done (by kernel_rfl) ?_ _
    try simp only [List.getElem_toArray, List.getElem_cons_succ, List.getElem_cons_zero]
    go_frame
    have hst : RdAt b s (p + n) (w.drew.setCell ⟨b, 1, none⟩ (.int .i64 ((p : Int) + (n : Int)))) := by
      have h1 : w.drew.heap[b]? = some (.cells #[.string s, .int .i64 (p : Int)] 135 (0, 0)) := H.out
      unfold RdAt
      rw [heap_setCell_same _ _ _ _ _ _ h1]
      simp
    have hm : ModB b w (w.drew.setCell ⟨b, 1, none⟩ (.int .i64 ((p : Int) + (n : Int)))) := (ModB.refl b w).drew.trans (ModB.setCell b _ 1 _)
    have HS := Lib.hid hst
    have HM := Lib.hid hm
    clear hst hm
    go_wp2_with fail
    obtain ⟨W1, hW1⟩ : ∃ W1, W1 = (w.setCell ⟨b, 1, none⟩ (.int .i64 ((p : Int) + (n : Int)))).drew := ⟨_, rfl⟩
    rw [← hW1]
    have hs1 : RdAt b s (p + n) W1 := by rw [hW1]; exact HS.out
    have hm1 : ModB b w W1 := by rw [hW1]; exact HM.out
    clear HS HM hW1 c0 c1 f1
    have c0 : W1.cell? ⟨b, 0, none⟩ = some (.string s) := by rw [Lib.cell_of_heap hs1]; rfl
    have c1 : W1.cell? ⟨b, 1, none⟩ = some (.int .i64 ((p : Int) + (n : Int))) := by rw [Lib.cell_of_heap hs1]; simp
    have HS := Lib.hid hs1
    have HM := Lib.hid hm1
    clear hs1 hm1
    refine' wp_region_factsT (S := (fun W => W = W1.drew)) (R := (fun a b => a = b)) [eqF _ _, eqF _ _, eqF _ _, eqF _ (.string s), eqF _ _, eqF _ _, eqF _ _, eqF _ (.int .i64 ((p : Int) + (n : Int))), eqF _ _, eqF _ (.int .i64 (p : Int)), eqF _ _, eqF _ _, eqF _ _, eqF _ (.int .i64 ((p : Int) + (n : Int))), eqF _ (.string (s.extract p (p + n)))] (by kernel_rfl) (by kernel_rfl) ?hS ?h0 (Ord.steps_cons ?s0 (Ord.steps_cons ?s1 (Ord.steps_cons ?s2 (Ord.steps_cons ?s3 (Ord.steps_cons ?s4 (Ord.steps_cons ?s5 (Ord.steps_cons ?s6 (Ord.steps_cons ?s7 (Ord.steps_cons ?s8 (Ord.steps_cons ?s9 (Ord.steps_cons ?s10 (Ord.steps_cons ?s11 (Ord.steps_cons ?s12 (Ord.steps_cons ?s13 (Ord.steps_cons ?s14 (Ord.steps_nil)))))))))))))))) ?fin
    case s0 =>
      intro g W hSW hd
      try simp only [Nat.zero_add, Nat.reduceAdd] at hd ⊢
      with_reducible refine OpGives.pre_reads [] 46 ?_ ?_ ?_
      · rfl
      · kernel_rfl
      simp only [List.map_cons, List.map_nil]
      refine OpGives.val (w' := W) ?_ ⟨rfl, rfl⟩
      go_simp
      try with_reducible rfl
    case s1 =>
      intro g W hSW hd
      try simp only [Nat.zero_add, Nat.reduceAdd] at hd ⊢
      have h0 : g 0 = _ := hd 0 (by decide) (by kernel_rfl)
      with_reducible refine OpGives.pre_reads [(31, 0)] 46 ?_ ?_ ?_
      · rfl
      · kernel_rfl
      simp only [List.map_cons, List.map_nil]
      refine OpGives.val (w' := W) ?_ ⟨rfl, rfl⟩
      go_simp
      try with_reducible rfl
    case s2 =>
      intro g W hSW hd
      try simp only [Nat.zero_add, Nat.reduceAdd] at hd ⊢
      have h1 : g 1 = _ := hd 1 (by decide) (by kernel_rfl)
      with_reducible refine OpGives.pre_reads [(32, 1)] 46 ?_ ?_ ?_
      · rfl
      · kernel_rfl
      simp only [List.map_cons, List.map_nil]
      refine OpGives.val (w' := W) ?_ ⟨rfl, rfl⟩
      go_simp
      try with_reducible rfl
    case s3 =>
      intro g W hSW hd
      try simp only [Nat.zero_add, Nat.reduceAdd] at hd ⊢
      have h2 : g 2 = _ := hd 2 (by decide) (by kernel_rfl)
      with_reducible refine OpGives.pre_reads [(33, 2)] 46 ?_ ?_ ?_
      · rfl
      · kernel_rfl
      simp only [List.map_cons, List.map_nil]
      subst hSW; refine OpGives.val (v := .string s) (w' := W1.drew) ?_ ⟨rfl, rfl⟩; go_simp
    case s4 =>
      intro g W hSW hd
      try simp only [Nat.zero_add, Nat.reduceAdd] at hd ⊢
      with_reducible refine OpGives.pre_reads [] 46 ?_ ?_ ?_
      · rfl
      · kernel_rfl
      simp only [List.map_cons, List.map_nil]
      refine OpGives.val (w' := W) ?_ ⟨rfl, rfl⟩
      go_simp
      try with_reducible rfl
    case s5 =>
      intro g W hSW hd
      try simp only [Nat.zero_add, Nat.reduceAdd] at hd ⊢
      have h4 : g 4 = _ := hd 4 (by decide) (by kernel_rfl)
      with_reducible refine OpGives.pre_reads [(35, 4)] 46 ?_ ?_ ?_
      · rfl
      · kernel_rfl
      simp only [List.map_cons, List.map_nil]
      refine OpGives.val (w' := W) ?_ ⟨rfl, rfl⟩
      go_simp
      try with_reducible rfl
    case s6 =>
      intro g W hSW hd
      try simp only [Nat.zero_add, Nat.reduceAdd] at hd ⊢
      have h5 : g 5 = _ := hd 5 (by decide) (by kernel_rfl)
      with_reducible refine OpGives.pre_reads [(36, 5)] 46 ?_ ?_ ?_
      · rfl
      · kernel_rfl
      simp only [List.map_cons, List.map_nil]
      refine OpGives.val (w' := W) ?_ ⟨rfl, rfl⟩
      go_simp
      try with_reducible rfl
    case s7 =>
      intro g W hSW hd
      try simp only [Nat.zero_add, Nat.reduceAdd] at hd ⊢
      have h6 : g 6 = _ := hd 6 (by decide) (by kernel_rfl)
      with_reducible refine OpGives.pre_reads [(37, 6)] 46 ?_ ?_ ?_
      · rfl
      · kernel_rfl
      simp only [List.map_cons, List.map_nil]
      subst hSW; refine OpGives.val (v := .int .i64 ((p : Int) + (n : Int))) (w' := W1.drew) ?_ ⟨rfl, rfl⟩; go_simp
    case s8 =>
      intro g W hSW hd
      try simp only [Nat.zero_add, Nat.reduceAdd] at hd ⊢
      with_reducible refine OpGives.pre_reads [] 46 ?_ ?_ ?_
      · rfl
      · kernel_rfl
      simp only [List.map_cons, List.map_nil]
      refine OpGives.val (w' := W) ?_ ⟨rfl, rfl⟩
      go_simp
      try with_reducible rfl
    case s9 =>
      intro g W hSW hd
      try simp only [Nat.zero_add, Nat.reduceAdd] at hd ⊢
      have h7 : g 7 = _ := hd 7 (by decide) (by kernel_rfl)
      have h8 : g 8 = _ := hd 8 (by decide) (by kernel_rfl)
      with_reducible refine OpGives.pre_reads [(38, 7), (39, 8)] 46 ?_ ?_ ?_
      · rfl
      · kernel_rfl
      simp only [List.map_cons, List.map_nil]
      subst hSW; refine OpGives.val (v := .int .i64 (p : Int)) (w' := W1.drew) ?_ ⟨rfl, rfl⟩; go_simp; rw [IntKind.wrap_i64]; omega
    case s10 =>
      intro g W hSW hd
      try simp only [Nat.zero_add, Nat.reduceAdd] at hd ⊢
      with_reducible refine OpGives.pre_reads [] 46 ?_ ?_ ?_
      · rfl
      · kernel_rfl
      simp only [List.map_cons, List.map_nil]
      refine OpGives.val (w' := W) ?_ ⟨rfl, rfl⟩
      go_simp
      try with_reducible rfl
    case s11 =>
      intro g W hSW hd
      try simp only [Nat.zero_add, Nat.reduceAdd] at hd ⊢
      have h10 : g 10 = _ := hd 10 (by decide) (by kernel_rfl)
      with_reducible refine OpGives.pre_reads [(41, 10)] 46 ?_ ?_ ?_
      · rfl
      · kernel_rfl
      simp only [List.map_cons, List.map_nil]
      refine OpGives.val (w' := W) ?_ ⟨rfl, rfl⟩
      go_simp
      try with_reducible rfl
    case s12 =>
      intro g W hSW hd
      try simp only [Nat.zero_add, Nat.reduceAdd] at hd ⊢
      have h11 : g 11 = _ := hd 11 (by decide) (by kernel_rfl)
      with_reducible refine OpGives.pre_reads [(42, 11)] 46 ?_ ?_ ?_
      · rfl
      · kernel_rfl
      simp only [List.map_cons, List.map_nil]
      refine OpGives.val (w' := W) ?_ ⟨rfl, rfl⟩
      go_simp
      try with_reducible rfl
    case s13 =>
      intro g W hSW hd
      try simp only [Nat.zero_add, Nat.reduceAdd] at hd ⊢
      have h12 : g 12 = _ := hd 12 (by decide) (by kernel_rfl)
      with_reducible refine OpGives.pre_reads [(43, 12)] 46 ?_ ?_ ?_
      · rfl
      · kernel_rfl
      simp only [List.map_cons, List.map_nil]
      subst hSW; refine OpGives.val (v := .int .i64 ((p : Int) + (n : Int))) (w' := W1.drew) ?_ ⟨rfl, rfl⟩; go_simp
    case s14 =>
      intro g W hSW hd
      try simp only [Nat.zero_add, Nat.reduceAdd] at hd ⊢
      have h3 : g 3 = _ := hd 3 (by decide) (by kernel_rfl)
      have h9 : g 9 = _ := hd 9 (by decide) (by kernel_rfl)
      have h13 : g 13 = _ := hd 13 (by decide) (by kernel_rfl)
      with_reducible refine OpGives.pre_reads [(34, 3), (40, 9), (44, 13)] 46 ?_ ?_ ?_
      · rfl
      · kernel_rfl
      simp only [List.map_cons, List.map_nil]
      subst hSW; refine OpGives.val (v := .string (s.extract p (p + n))) (w' := W1.drew) ?_ ⟨rfl, rfl⟩; go_simp; rw [run_slice_string _ _ _ _ _ _ _ Tryd.underlying9 (by omega) (by omega) (by omega)]; rw [Int.toNat_natCast, show ((p : Int) + (n : Int)).toNat = p + n by omega]; rfl
    case hS => rintro a c h rfl; exact h
    case h0 => rfl
    case fin =>
      intro v W hSW hf
      subst hSW
      have h14 : v 14 = _ := hf 14 (Nat.lt_of_lt_of_eq (by decide : 14 < 15) rfl)
      clear hf
      generalize hF : Ord.pre _ _ v _ = F
      rw [Ord.pre_lit [some 31, some 32, some 33, some 34, some 35, some 36, some 37, some 38, some 39, some 40, some 41, some 42, some 43, some 44, some 45]
        (by kernel_rfl)] at hF
      simp only [Ord.puts, Nat.zero_add, Nat.reduceAdd] at hF
      subst hF
      rw [h14]
      clear h14
      refine any_one (i := 15) (by kernel_rfl) ?_
      refine wpOp_value (v := .string (s.extract p (p + n))) (w' := W1.drew) rfl rfl (by go_simp) ?_
      refine wpAny_done (by kernel_rfl) ?_ _
      try simp only [List.getElem_toArray, List.getElem_cons_succ, List.getElem_cons_zero]
      go_frame
      go_wp2_with fail
      go_ret
      exact ⟨rfl, HS.out, HM.out.drew⟩

set_option maxHeartbeats 8000000 in
set_option maxRecDepth 100000 in
theorem bytes_no (b : Nat) (s : ByteArray) (p n : Nat) (w : World) (h : RdAt b s p w) (hs : s.size ≤ 140737488355328) (hp : p ≤ s.size) (hn : s.size < p + n) (hnn : n ≤ 9223372036854775807) :
    Calls Tryd.prog 76 #[.pointer (some ⟨b, 0, none⟩), .int .i64 (n : Int)] w fun e w' => e = .panicked (wrongP s.size 3) ∧ RdAt b s p w' ∧ ModB b w w' := by
  have c0 : w.cell? ⟨b, 0, none⟩ = some (.string s) := by rw [Lib.cell_of_heap h]; rfl
  have c1 : w.cell? ⟨b, 1, none⟩ = some (.int .i64 (p : Int)) := by rw [Lib.cell_of_heap h]; rfl
  have hge : ¬ (n : Int) ≤ (s.size : Int) - (p : Int) := by omega
  have H := Lib.hid h
  clear h
  go_enter Tryd.func76, Tryd.ntmps76
  go_wp2_with fail
  refine' wp_region_factsT (S := (fun W => W = w.drew)) (R := (fun a b => a = b)) [eqF _ _, eqF _ _, eqF _ _, eqF _ (.string s), eqF _ _, eqF _ _, eqF _ _, eqF _ _, eqF _ (.int .i64 (p : Int)), eqF _ (.int .i64 ((s.size : Int) - (p : Int))), eqF _ _, eqF _ (.bool false), eqF _ _, eqF _ _, eqF _ _, eqF _ (.string s), eqF _ _] (by kernel_rfl) (by kernel_rfl) ?hS ?h0 (Ord.steps_cons ?s0 (Ord.steps_cons ?s1 (Ord.steps_cons ?s2 (Ord.steps_cons ?s3 (Ord.steps_cons ?s4 (Ord.steps_cons ?s5 (Ord.steps_cons ?s6 (Ord.steps_cons ?s7 (Ord.steps_cons ?s8 (Ord.steps_cons ?s9 (Ord.steps_cons ?s10 (Ord.steps_cons ?s11 (Ord.steps_cons ?s12 (Ord.steps_cons ?s13 (Ord.steps_cons ?s14 (Ord.steps_cons ?s15 (Ord.steps_cons ?s16 (Ord.steps_nil)))))))))))))))))) ?fin
  case s0 =>
    intro g W hSW hd
    try simp only [Nat.zero_add, Nat.reduceAdd] at hd ⊢
    with_reducible refine OpGives.pre_reads [] 46 ?_ ?_ ?_
    · rfl
    · kernel_rfl
    simp only [List.map_cons, List.map_nil]
    refine OpGives.val (w' := W) ?_ ⟨rfl, rfl⟩
    go_simp
    try with_reducible rfl
  case s1 =>
    intro g W hSW hd
    try simp only [Nat.zero_add, Nat.reduceAdd] at hd ⊢
    have h0 : g 0 = _ := hd 0 (by decide) (by kernel_rfl)
    with_reducible refine OpGives.pre_reads [(5, 0)] 46 ?_ ?_ ?_
    · rfl
    · kernel_rfl
    simp only [List.map_cons, List.map_nil]
    refine OpGives.val (w' := W) ?_ ⟨rfl, rfl⟩
    go_simp
    try with_reducible rfl
  case s2 =>
    intro g W hSW hd
    try simp only [Nat.zero_add, Nat.reduceAdd] at hd ⊢
    have h1 : g 1 = _ := hd 1 (by decide) (by kernel_rfl)
    with_reducible refine OpGives.pre_reads [(6, 1)] 46 ?_ ?_ ?_
    · rfl
    · kernel_rfl
    simp only [List.map_cons, List.map_nil]
    refine OpGives.val (w' := W) ?_ ⟨rfl, rfl⟩
    go_simp
    try with_reducible rfl
  case s3 =>
    intro g W hSW hd
    try simp only [Nat.zero_add, Nat.reduceAdd] at hd ⊢
    have h2 : g 2 = _ := hd 2 (by decide) (by kernel_rfl)
    with_reducible refine OpGives.pre_reads [(7, 2)] 46 ?_ ?_ ?_
    · rfl
    · kernel_rfl
    simp only [List.map_cons, List.map_nil]
    subst hSW; refine OpGives.val (v := .string s) (w' := w.drew) ?_ ⟨rfl, rfl⟩; go_simp
  case s4 =>
    intro g W hSW hd
    try simp only [Nat.zero_add, Nat.reduceAdd] at hd ⊢
    have h3 : g 3 = _ := hd 3 (by decide) (by kernel_rfl)
    with_reducible refine OpGives.pre_reads [(8, 3)] 46 ?_ ?_ ?_
    · rfl
    · kernel_rfl
    simp only [List.map_cons, List.map_nil]
    refine OpGives.val (w' := W) ?_ ⟨rfl, rfl⟩
    go_simp
    try with_reducible rfl
  case s5 =>
    intro g W hSW hd
    try simp only [Nat.zero_add, Nat.reduceAdd] at hd ⊢
    with_reducible refine OpGives.pre_reads [] 46 ?_ ?_ ?_
    · rfl
    · kernel_rfl
    simp only [List.map_cons, List.map_nil]
    refine OpGives.val (w' := W) ?_ ⟨rfl, rfl⟩
    go_simp
    try with_reducible rfl
  case s6 =>
    intro g W hSW hd
    try simp only [Nat.zero_add, Nat.reduceAdd] at hd ⊢
    have h5 : g 5 = _ := hd 5 (by decide) (by kernel_rfl)
    with_reducible refine OpGives.pre_reads [(10, 5)] 46 ?_ ?_ ?_
    · rfl
    · kernel_rfl
    simp only [List.map_cons, List.map_nil]
    refine OpGives.val (w' := W) ?_ ⟨rfl, rfl⟩
    go_simp
    try with_reducible rfl
  case s7 =>
    intro g W hSW hd
    try simp only [Nat.zero_add, Nat.reduceAdd] at hd ⊢
    have h6 : g 6 = _ := hd 6 (by decide) (by kernel_rfl)
    with_reducible refine OpGives.pre_reads [(11, 6)] 46 ?_ ?_ ?_
    · rfl
    · kernel_rfl
    simp only [List.map_cons, List.map_nil]
    refine OpGives.val (w' := W) ?_ ⟨rfl, rfl⟩
    go_simp
    try with_reducible rfl
  case s8 =>
    intro g W hSW hd
    try simp only [Nat.zero_add, Nat.reduceAdd] at hd ⊢
    have h7 : g 7 = _ := hd 7 (by decide) (by kernel_rfl)
    with_reducible refine OpGives.pre_reads [(12, 7)] 46 ?_ ?_ ?_
    · rfl
    · kernel_rfl
    simp only [List.map_cons, List.map_nil]
    subst hSW; refine OpGives.val (v := .int .i64 (p : Int)) (w' := w.drew) ?_ ⟨rfl, rfl⟩; go_simp
  case s9 =>
    intro g W hSW hd
    try simp only [Nat.zero_add, Nat.reduceAdd] at hd ⊢
    have h4 : g 4 = _ := hd 4 (by decide) (by kernel_rfl)
    have h8 : g 8 = _ := hd 8 (by decide) (by kernel_rfl)
    with_reducible refine OpGives.pre_reads [(9, 4), (13, 8)] 46 ?_ ?_ ?_
    · rfl
    · kernel_rfl
    simp only [List.map_cons, List.map_nil]
    subst hSW; refine OpGives.val (v := .int .i64 ((s.size : Int) - (p : Int))) (w' := w.drew) ?_ ⟨rfl, rfl⟩; go_simp; rw [IntKind.wrap_i64]; omega
  case s10 =>
    intro g W hSW hd
    try simp only [Nat.zero_add, Nat.reduceAdd] at hd ⊢
    with_reducible refine OpGives.pre_reads [] 46 ?_ ?_ ?_
    · rfl
    · kernel_rfl
    simp only [List.map_cons, List.map_nil]
    refine OpGives.val (w' := W) ?_ ⟨rfl, rfl⟩
    go_simp
    try with_reducible rfl
  case s11 =>
    intro g W hSW hd
    try simp only [Nat.zero_add, Nat.reduceAdd] at hd ⊢
    have h9 : g 9 = _ := hd 9 (by decide) (by kernel_rfl)
    have h10 : g 10 = _ := hd 10 (by decide) (by kernel_rfl)
    with_reducible refine OpGives.pre_reads [(14, 9), (15, 10)] 46 ?_ ?_ ?_
    · rfl
    · kernel_rfl
    simp only [List.map_cons, List.map_nil]
    subst hSW; refine OpGives.val (v := .bool false) (w' := w.drew) ?_ ⟨rfl, rfl⟩; go_simp
  case s12 =>
    intro g W hSW hd
    try simp only [Nat.zero_add, Nat.reduceAdd] at hd ⊢
    with_reducible refine OpGives.pre_reads [] 46 ?_ ?_ ?_
    · rfl
    · kernel_rfl
    simp only [List.map_cons, List.map_nil]
    refine OpGives.val (w' := W) ?_ ⟨rfl, rfl⟩
    go_simp
    try with_reducible rfl
  case s13 =>
    intro g W hSW hd
    try simp only [Nat.zero_add, Nat.reduceAdd] at hd ⊢
    have h12 : g 12 = _ := hd 12 (by decide) (by kernel_rfl)
    with_reducible refine OpGives.pre_reads [(17, 12)] 46 ?_ ?_ ?_
    · rfl
    · kernel_rfl
    simp only [List.map_cons, List.map_nil]
    refine OpGives.val (w' := W) ?_ ⟨rfl, rfl⟩
    go_simp
    try with_reducible rfl
  case s14 =>
    intro g W hSW hd
    try simp only [Nat.zero_add, Nat.reduceAdd] at hd ⊢
    have h13 : g 13 = _ := hd 13 (by decide) (by kernel_rfl)
    with_reducible refine OpGives.pre_reads [(18, 13)] 46 ?_ ?_ ?_
    · rfl
    · kernel_rfl
    simp only [List.map_cons, List.map_nil]
    refine OpGives.val (w' := W) ?_ ⟨rfl, rfl⟩
    go_simp
    try with_reducible rfl
  case s15 =>
    intro g W hSW hd
    try simp only [Nat.zero_add, Nat.reduceAdd] at hd ⊢
    have h14 : g 14 = _ := hd 14 (by decide) (by kernel_rfl)
    with_reducible refine OpGives.pre_reads [(19, 14)] 46 ?_ ?_ ?_
    · rfl
    · kernel_rfl
    simp only [List.map_cons, List.map_nil]
    subst hSW; refine OpGives.val (v := .string s) (w' := w.drew) ?_ ⟨rfl, rfl⟩; go_simp
  case s16 =>
    intro g W hSW hd
    try simp only [Nat.zero_add, Nat.reduceAdd] at hd ⊢
    have h15 : g 15 = _ := hd 15 (by decide) (by kernel_rfl)
    with_reducible refine OpGives.pre_reads [(20, 15)] 46 ?_ ?_ ?_
    · rfl
    · kernel_rfl
    simp only [List.map_cons, List.map_nil]
    refine OpGives.val (w' := W) ?_ ⟨rfl, rfl⟩
    go_simp
    try with_reducible rfl
  case hS => rintro a c h rfl; exact h
  case h0 => rfl
  case fin =>
    intro v W hSW hf
    subst hSW
    have h11 : v 11 = _ := hf 11 (Nat.lt_of_lt_of_eq (by decide : 11 < 17) rfl)
    have h16 : v 16 = _ := hf 16 (Nat.lt_of_lt_of_eq (by decide : 16 < 17) rfl)
    clear hf
    generalize hF : Ord.pre _ _ v _ = F
    rw [Ord.pre_lit [some 5, some 6, some 7, some 8, some 9, some 10, some 11, some 12, some 13, some 14, some 15, some 16, some 17, some 18, some 19, some 20, some 21]
      (by kernel_rfl)] at hF
    simp only [Ord.puts, Nat.zero_add, Nat.reduceAdd] at hF
    subst hF
    rw [h11, h16]
    clear h11 h16
    refine any_one (i := 17) (by kernel_rfl) ?_
    refine wpOp_panics (f := 78) (args := #[.bool false, .int .i64 (s.size : Int), .int .i64 3]) (w' := w.drew) rfl rfl (by go_simp) ((need_no _ _ _).mono fun e w'' he => ⟨_, he.1, ?_⟩)
    rw [he.2]
    exact ⟨rfl, rfl, H.out, (ModB.refl b w).drew⟩
end Go.Proofs.YtgjlchcfdbmmlaaDoor.PObjectTakes
namespace Go.Proofs.YtgjlchcfdbmmlaaDoor.PObjectTakes
open Go.RowKit Go.Proofs.YtgjlchcfdbmmlaaDoor.Ord Go.Proofs.YtgjlchcfdbmmlaaDoorW.PrintWords Go.Proofs.YtgjlchcfdbmmlaaDoorW.PrintLast Go.Proofs.YtgjlchcfdbmmlaaDoorW.PrintMore

/-- What is read: something and where it ends, or an error's place and number. -/
inductive DR (α : Type) where
  | ok (x : α) (q : Nat)
  | bad (p e : Nat)
def byteAt (s : ByteArray) (p : Nat) : Nat := (s.data.toList.getD p 0).toNat
/-- The number of n bytes behind p. -/
def numAt (s : ByteArray) (p : Nat) : Nat → Nat
  | 0 => 0
  | n + 1 => numAt s p n * 256 + byteAt s (p + n)
def widthOf (k : Nat) : Nat := if k = 1 ∨ k = 2 then 8 else 2
def mostOf (k : Nat) : Nat := if k = 1 ∨ k = 2 then 9223372036854775807 else if k = 3 then 65535 else 4095
/-- k cells in line, each by f. -/
def manyW (f : Nat → DR S42) : Nat → Nat → List S42 → DR (List S42)
  | 0, q, acc => .ok acc q
  | k + 1, q, acc => match f q with
    | .ok x q' => manyW f k q' (acc ++ [x])
    | .bad p e => .bad p e
/-- The cell at p, what lies in it by g. -/
def cellW (s : ByteArray) (deep : Bool) (g : Nat → DR S42) (p : Nat) : DR S42 :=
  if s.size < p + 1 then .bad s.size 3
  else
    let b := byteAt s p
    if b / 16 < 1 ∨ 4 < b / 16 then .bad p 4
    else if widthOf (b / 16) < b % 16 then .bad p 4
    else if deep = false then .bad p 5
    else if s.size < p + 1 + b % 16 then .bad s.size 3
    else if 0 < b % 16 ∧ byteAt s (p + 1) = 0 then .bad p 4
    else
      let k := numAt s (p + 1) (b % 16)
      let q := p + 1 + b % 16
      if mostOf (b / 16) < k then .bad p 4
      else if b / 16 = 1 then .ok ⟨1, (k : Int), ⟨#[]⟩, []⟩ q
      else if b / 16 = 2 then .ok ⟨1, -1 - (k : Int), ⟨#[]⟩, []⟩ q
      else if b / 16 = 3 then (if s.size < q + k then .bad s.size 3 else .ok ⟨2, 0, s.extract q (q + k), []⟩ (q + k))
      else match manyW g k q [] with
        | .ok l q' => .ok ⟨3, 0, ⟨#[]⟩, l⟩ q'
        | .bad p' e => .bad p' e
def cellD (s : ByteArray) : Nat → Nat → DR S42
  | 0 => cellW s false (fun _ => .bad 0 0)
  | d + 1 => cellW s true (cellD s d)
/-- What the reader's call leaves. -/
def CellPost (r : DR S42) (b : Nat) (s : ByteArray) (p : Nat) (w : World) (e : Ending) (w' : World) : Prop :=
  ModB b w w' ∧ match r with
  | .ok x q => (∃ v, e = .returned (.agg #[.int .i64 x.f0, .int .i64 x.f1, .string x.f2, v]) ∧ Kd.R k42 42 w' w.heap.size (fun k => k ≠ b) v x.f3) ∧ RdAt b s q w' ∧ p ≤ q ∧ q ≤ s.size
  | .bad p e0 => e = .panicked (wrongP (p : Int) (e0 : Int))
end Go.Proofs.YtgjlchcfdbmmlaaDoor.PObjectTakes
namespace Go.Proofs.YtgjlchcfdbmmlaaDoor.PObjectTakes
open Go.RowKit Go.Proofs.YtgjlchcfdbmmlaaDoor.Ord Go.Proofs.YtgjlchcfdbmmlaaDoorW.PrintWords Go.Proofs.YtgjlchcfdbmmlaaDoorW.PrintLast Go.Proofs.YtgjlchcfdbmmlaaDoorW.PrintMore

theorem R_slice {α : Type} {d : Kd α} {e : Nat} {w : World} {base : Nat} {ok : Nat → Prop} {v : Value} {xs : List α} (h : d.R e w base ok v xs) : ∃ A c, v = .slice A xs.length c := by
  obtain ⟨A, c, hv, _⟩ := Kd.R_reads h
  exact ⟨A, c, hv⟩
theorem ModB.put {b : Nat} {w W : World} (h : ModB b w W) (g : Nat) (hg : w.heap.size ≤ g) (j : Nat) (v : Value) : ModB b w (W.setCell ⟨g, j, none⟩ v) :=
  ⟨h.os, h.tape, h.output, by have := h.size; simpa [World.setCell] using this, fun k hk hb => (Below.heap_setCell _ _ _ _ (show k ≠ g by omega)).trans (h.block k hk hb)⟩
theorem RdAt.put {b : Nat} {s : ByteArray} {q : Nat} {W : World} (h : RdAt b s q W) (g : Nat) (hg : b ≠ g) (j : Nat) (v : Value) : RdAt b s q (W.setCell ⟨g, j, none⟩ v) :=
  (Below.heap_setCell W ⟨g, j, none⟩ v b hg).trans h
/-- The row's blocks: neither the reader's nor any up to the variable's. -/
def okR (b g : Nat) (k : Nat) : Prop := k ≠ b ∧ g < k
/-- Between rounds: the variable in block g holds the row v of acc; the reader stands at q. -/
structure OutAt (W1 : World) (b g : Nat) (s : ByteArray) (v : Value) (acc : List S42) (q : Nat) (W : World) : Prop where
  mod : ModB b W1 W
  ge : W1.heap.size ≤ g
  lt : b < W1.heap.size
  blk : W.heap[g]? = some (.cells #[.int .i64 3, .int .i64 0, .string (⟨#[]⟩ : ByteArray), v] 42 (0, 0))
  row : Kd.R k42 42 W (g + 1) (okR b g) v acc
  rd : RdAt b s q W
/-- Blocks of the row v may have turned, and the reader. -/
structure ModV (b : Nat) (v : Value) (w w' : World) : Prop where
  os : w'.os = w.os
  tape : w'.tape = w.tape
  output : w'.output = w.output
  size : w.heap.size ≤ w'.heap.size
  block : ∀ k, k < w.heap.size → k ≠ b → v.ownBlock ≠ some k → w'.heap[k]? = w.heap[k]?
theorem ModV.trans {b : Nat} {v : Value} {w w1 w2 : World} (h : ModV b v w w1) (k : ModV b v w1 w2) : ModV b v w w2 :=
  ⟨k.os.trans h.os, k.tape.trans h.tape, k.output.trans h.output, Nat.le_trans h.size k.size, fun i hi hb hv => (k.block i (Nat.lt_of_lt_of_le hi h.size) hb hv).trans (h.block i hi hb hv)⟩
theorem ModV.of_B {b : Nat} {v : Value} {w w' : World} (h : ModB b w w') : ModV b v w w' := ⟨h.os, h.tape, h.output, h.size, fun k hk hb _ => h.block k hk hb⟩
theorem ModV.drew {b : Nat} {v : Value} {w : World} : ModV b v w w.drew := ⟨rfl, rfl, rfl, Nat.le_refl _, fun _ _ _ _ => rfl⟩
theorem ModV.of_grown {b : Nat} {v : Value} {w w' : World} (h : w.grownBy w' v.ownBlock) : ModV b v w w' := ⟨h.os, h.tape, h.output, h.size, fun k hk _ hv => h.block k hk (fun e => hv e.symm)⟩
/-- Each operation's relation: the append (7) turns the row, the others the reader at most. -/
def Rr (b : Nat) (v : Value) (i : Nat) (a c : World) : Prop := if i = 7 then a.grownBy c v.ownBlock else ModB b a c
theorem Rr.modV {b : Nat} {v : Value} {i : Nat} {a c : World} (h : Rr b v i a c) : ModV b v a c := by
  unfold Rr at h
  split at h
  · exact ModV.of_grown h
  · exact ModV.of_B h
/-- What the call hands back. -/
def childP (b : Nat) (v : Value) (x : S42) (lo : Nat) (u : Value) (W : World) : Prop :=
  ∃ v3, u = .agg #[.int .i64 x.f0, .int .i64 x.f1, .string x.f2, v3] ∧ Kd.R k42 42 W lo (fun k => k ≠ b ∧ v.ownBlock ≠ some k) v3 x.f3
theorem childP.st {b : Nat} {v : Value} {x : S42} {lo : Nat} {u : Value} {W W' : World} (h : childP b v x lo u W) (hm : ModV b v W W') : childP b v x lo u W' := by
  obtain ⟨v3, e, hr⟩ := h
  exact ⟨v3, e, Kd.R_step hr (fun k hk hl => hm.block k hl hk.1 hk.2)⟩
/-- The literal of one cell. -/
def litP (b : Nat) (v : Value) (x : S42) (lo : Nat) (u : Value) (W : World) : Prop :=
  ∃ g v3, u = .slice (some ⟨g, 0, none⟩) 1 1 ∧ W.heap[g]? = some (.cells #[.int .i64 x.f0, .int .i64 x.f1, .string x.f2, v3] 42 (0, 0)) ∧ g ≠ b ∧ v.ownBlock ≠ some g ∧ v3.oneCell' = true ∧ Kd.R k42 42 W lo (fun k => k ≠ b ∧ v.ownBlock ≠ some k) v3 x.f3
theorem litP.st {b : Nat} {v : Value} {x : S42} {lo : Nat} {u : Value} {W W' : World} (h : litP b v x lo u W) (hm : ModV b v W W') : litP b v x lo u W' := by
  obtain ⟨g, v3, e, hg, hb, hv, h1, hr⟩ := h
  exact ⟨g, v3, e, (hm.block g (Array.getElem?_eq_some_iff.1 hg).1 hb hv).trans hg, hb, hv, h1, Kd.R_step hr (fun k hk hl => hm.block k hl hk.1 hk.2)⟩
/-- The row, one cell longer. -/
def rowP (b g : Nat) (xs : List S42) (u : Value) (W : World) : Prop := Kd.R k42 42 W (g + 1) (okR b g) u xs
theorem rowP.st {b g : Nat} {xs : List S42} {u : Value} {W W' : World} (h : rowP b g xs u W) (hm : ModB b W W') : rowP b g xs u W' := Kd.R_step h (fun k hk hl => hm.block k hl hk.1)
/-- What holds within the round's region, L telling which operations are over. -/
def InR (wr : World) (b g : Nat) (s : ByteArray) (v : Value) (acc : List S42) (q q' : Nat) (L : Nat → Bool) (W : World) : Prop :=
  ModV b v wr W ∧ (L 7 = false → Kd.R k42 42 W (g + 1) (okR b g) v acc) ∧ (L 5 = false → RdAt b s q W) ∧ (L 5 = true → RdAt b s q' W ∧ q ≤ q' ∧ q' ≤ s.size)
theorem own_lt_R {b g : Nat} {v : Value} {acc : List S42} {W : World} (h : Kd.R k42 42 W (g + 1) (okR b g) v acc) : ∀ k, v.ownBlock = some k → g < k ∧ k ≠ b ∧ k < W.heap.size := fun k hk => by
  have h0 := h.1 k hk
  obtain ⟨_, inner, ho, _⟩ := h
  exact ⟨h0.2, h0.1, own_lt ho k hk⟩
theorem infoCell : (Tryd.prog.info? 42).map (fun i => (i.zero, i.size, i.bytes)) = some (some (.agg #[.int .i64 0, .int .i64 0, .string (⟨#[]⟩ : ByteArray), .slice none 0 0]), 4, 56) := by kernel_rfl
/-- The append. -/
theorem append_cell {b g : Nat} {s : ByteArray} {v : Value} {acc : List S42} {q q' : Nat} {wr W : World} {L : Nat → Bool} {x : S42} {lo : Nat} {u : Value} (hS : InR wr b g s v acc q q' L W) (hL : L 7 = false) (hb : b < wr.heap.size) (hg : g < wr.heap.size) (hlo : g + 1 ≤ lo) (hlg : ∀ k, lo ≤ k → g < k)
    (h6 : litP b v x lo u W) (hn : acc.length ≤ 1000000) (ty : TypeId) :
    ∃ v' W', (Builtin.append_ #[40, 40] ty #[v, u]).run Tryd.prog W = .ok v' W' ∧ W.grownBy W' v.ownBlock ∧ rowP b g (acc ++ [x]) v' W' ∧ InR wr b g s v acc q q' (fun k => if k = 7 then true else L k) W' := by
  obtain ⟨hm, hrow, h5, h5'⟩ := hS
  have hR := hrow hL
  obtain ⟨g6, v3, rfl, hg6, hgb, hgv, h1, hr3⟩ := h6
  obtain ⟨i0, hi0, hz0, hz1, hz2⟩ := info_parts infoCell
  obtain ⟨h0, inner, hown, hreps⟩ := hR
  have hne := own_lt_R (hrow hL)
  have hbn : (acc.length + 1) * 56 ≤ 1000001 * 56 := Nat.mul_le_mul (by omega) (Nat.le_refl _)
  obtain ⟨h, cap, W', hr, hown', hgr, hat, _⟩ := run_append_lies (P := Tryd.prog) W 40 ty (g + 1) 42 i0 _ 4 56 Tryd.underlying40 hi0 hz0 hz1 hz2 (by rfl) (by decide) v acc.length _ hown ⟨g6, 0, none⟩ 1 1 [.int .i64 x.f0, .int .i64 x.f1, .string x.f2, v3]
    (by rfl) (World.news_of_block (cs := #[.int .i64 x.f0, .int .i64 x.f1, .string x.f2, v3]) hg6) (by
      intro u hu
      simp only [List.mem_cons, List.not_mem_nil, or_false] at hu
      rcases hu with rfl | rfl | rfl | rfl
      · rfl
      · rfl
      · rfl
      · exact h1) (by decide) (by unfold maxLen; omega) (by omega) (by have := hm.size; omega) W.heap.size rfl
  have hm3 : Kd.M k42 W (g + 1) (fun k => (k ≠ b ∧ v.ownBlock ≠ some k) ∧ lo ≤ k) x [.int .i64 x.f0, .int .i64 x.f1, .string x.f2, v3] :=
    k42_mkM W (g + 1) _ x (Kd.R_lower (Kd.R_mono (Kd.R_bound hr3) (fun k hk => ⟨hk.1, hk.2.1⟩)) hlo)
  have hres := Kd.R_appended (d := k42) (e := 42) (base := g + 1) (ok := okR b g) (W := W) (w1 := W') (v := v) (v1 := .slice (some ⟨h, 0, none⟩) (acc.length + 1) cap) h0 hreps hm3 (fun k hk => ⟨⟨hk.1.1, hlg k hk.2⟩, fun e => hk.1.2 e.symm⟩) (fun k hk => ⟨by have := hm.size; omega, by have := hm.size; omega⟩) hown' hgr
    (hat.elim (fun e => .inl (by rw [e]; rfl)) (fun e => .inr ⟨h, rfl, by omega⟩))
  refine ⟨_, W', hr, hgr, hres, hm.trans (ModV.of_grown hgr), fun e => (by cases e), fun e => ?_, fun e => ?_⟩
  · have hr := h5 e
    exact (hgr.block b (by have := hm.size; omega) (fun e => (hne b e.symm).2.1 rfl)).trans hr
  · have hr := h5' e
    exact ⟨(hgr.block b (by have := hm.size; omega) (fun e => (hne b e.symm).2.1 rfl)).trans hr.1, hr.2⟩
theorem Rr.of_B {b : Nat} {v : Value} {i : Nat} {a c : World} (hi : i ≠ 7) (h : ModB b a c) : Rr b v i a c := by unfold Rr; rw [if_neg hi]; exact h
theorem Rr.of_grown {b : Nat} {v : Value} {a c : World} (h : a.grownBy c v.ownBlock) : Rr b v 7 a c := by unfold Rr; rw [if_pos rfl]; exact h
theorem Rr.toB {b : Nat} {v : Value} {i : Nat} {a c : World} (hi : i ≠ 7) (h : Rr b v i a c) : ModB b a c := by unfold Rr at h; rw [if_neg hi] at h; exact h
/-- The call within the round. -/
theorem call_post {wr W w' : World} {b g : Nat} {s : ByteArray} {v : Value} {acc : List S42} {q q' : Nat} {L : Nat → Bool} {x : S42} {e : Ending} (hS : InR wr b g s v acc q q' L W) (hb : b < wr.heap.size) (hv : ∀ k, v.ownBlock = some k → k < wr.heap.size)
    (hp : CellPost (.ok x q') b s q W e w') : ∃ u, e = .returned u ∧ Rr b v 5 W w' ∧ childP b v x wr.heap.size u w' ∧ InR wr b g s v acc q q' (fun k => if k = 5 then true else L k) w' := by
  obtain ⟨hm, ⟨v3, he, hR⟩, hrd, hq⟩ := hp
  obtain ⟨h1, h2, h3, h4⟩ := hS
  refine ⟨_, he, Rr.of_B (by decide) hm, ⟨v3, rfl, ?_⟩, h1.trans (ModV.of_B hm), fun e => ?_, fun e => (by cases e), fun _ => ⟨hrd, hq⟩⟩
  · exact Kd.R_lower (Kd.R_mono (Kd.R_bound hR) (fun k hk => ⟨hk.1, fun e => by have := hv k e; have := h1.size; omega⟩)) h1.size
  · exact Kd.R_step (h2 e) (fun k hk hl => hm.block k hl hk.1)
/-- The literal within the round. -/
theorem lit_post {wr W : World} {b g : Nat} {s : ByteArray} {v v3 : Value} {acc : List S42} {q q' : Nat} {L : Nat → Bool} {x : S42} (hS : InR wr b g s v acc q q' L W) (hb : b < wr.heap.size) (hv : ∀ k, v.ownBlock = some k → k < wr.heap.size) (h1 : v3.oneCell' = true)
    (hR : Kd.R k42 42 W wr.heap.size (fun k => k ≠ b ∧ v.ownBlock ≠ some k) v3 x.f3) :
    Rr b v 6 W (W.alloc (.cells #[.int .i64 x.f0, .int .i64 x.f1, .string x.f2, v3] 42)) ∧ litP b v x wr.heap.size (.slice (some ⟨W.heap.size, 0, none⟩) 1 1) (W.alloc (.cells #[.int .i64 x.f0, .int .i64 x.f1, .string x.f2, v3] 42)) ∧
    InR wr b g s v acc q q' (fun k => if k = 6 then true else L k) (W.alloc (.cells #[.int .i64 x.f0, .int .i64 x.f1, .string x.f2, v3] 42)) := by
  obtain ⟨m1, m2, m3, m4⟩ := hS
  have hn : Below W.heap.size W (W.alloc (.cells #[.int .i64 x.f0, .int .i64 x.f1, .string x.f2, v3] 42)) := (Below.refl _ _).alloc (Nat.le_refl _) _
  refine ⟨Rr.of_B (by decide) (ModB.of_below hn), ⟨_, _, rfl, heap_alloc_last _ _, by have := m1.size; omega, fun e => by have := hv _ e; have := m1.size; omega, h1, Kd.R_below hR hn⟩, m1.trans (ModV.of_B (ModB.of_below hn)), fun e => Kd.R_below (m2 e) hn, fun e => (m3 e).kept hn, fun e => ⟨(m4 e).1.kept hn, (m4 e).2⟩⟩
/-- The facts of the round's region stay. -/
theorem facts_st {b g lo : Nat} {v : Value} {x : S42} {acc : List S42} {V0 V1 V2 V3 V4 : Value} : ∀ (i j : Nat) (u : Value) (w w' : World), i ≠ j →
    factM [eqM V0, eqM V1, eqM V2, eqM V3, eqM V4, childP b v x lo, litP b v x lo, rowP b g (acc ++ [x])] i u w → Rr b v j w w' → factM [eqM V0, eqM V1, eqM V2, eqM V3, eqM V4, childP b v x lo, litP b v x lo, rowP b g (acc ++ [x])] i u w'
  | 0, _, _, _, _, _, h, _ => h
  | 1, _, _, _, _, _, h, _ => h
  | 2, _, _, _, _, _, h, _ => h
  | 3, _, _, _, _, _, h, _ => h
  | 4, _, _, _, _, _, h, _ => h
  | 5, _, _, _, _, _, h, hR => childP.st h hR.modV
  | 6, _, _, _, _, _, h, hR => litP.st h hR.modV
  | 7, j, _, _, _, hij, h, hR => rowP.st h (Rr.toB (Ne.symm hij) hR)
  | n + 8, _, _, _, _, _, _, _ => trivial
/-- Nothing is handed back. -/
def badM : Value → World → Prop := fun _ _ => False
theorem facts_bad {b : Nat} {V0 V1 V2 V3 V4 V7 : Value} : ∀ (i j : Nat) (u : Value) (w w' : World), i ≠ j →
    factM [eqM V0, eqM V1, eqM V2, eqM V3, eqM V4, badM, badM, eqM V7] i u w → ModB b w w' → factM [eqM V0, eqM V1, eqM V2, eqM V3, eqM V4, badM, badM, eqM V7] i u w'
  | 0, _, _, _, _, _, h, _ => h
  | 1, _, _, _, _, _, h, _ => h
  | 2, _, _, _, _, _, h, _ => h
  | 3, _, _, _, _, _, h, _ => h
  | 4, _, _, _, _, _, h, _ => h
  | 5, _, _, _, _, _, h, _ => h
  | 6, _, _, _, _, _, h, _ => h
  | 7, _, _, _, _, _, h, _ => h
  | n + 8, _, _, _, _, _, _, _ => trivial
/-- The longer row stored. -/
theorem out_step {W1 wr W : World} {b g : Nat} {s : ByteArray} {v v7 : Value} {acc : List S42} {x : S42} {q q' : Nat} (ho : OutAt W1 b g s v acc q wr) (hm : ModV b v wr W) (hr : rowP b g (acc ++ [x]) v7 W) (hrd : RdAt b s q' W) :
    OutAt W1 b g s v7 (acc ++ [x]) q' (W.setCell ⟨g, 3, none⟩ v7) := by
  have hown := own_lt_R ho.row
  have hgl := (Array.getElem?_eq_some_iff.1 ho.blk).1
  have hgb : g ≠ b := by have := ho.lt; have := ho.ge; omega
  have hb := (hm.block g hgl hgb (fun e => Nat.lt_irrefl _ (hown _ e).1)).trans ho.blk
  have hm1 : ModB b W1 W := ⟨hm.os.trans ho.mod.os, hm.tape.trans ho.mod.tape, hm.output.trans ho.mod.output, Nat.le_trans ho.mod.size hm.size, fun k hk hkb =>
    (hm.block k (Nat.lt_of_lt_of_le hk ho.mod.size) hkb (fun e => by have := (hown _ e).1; have := ho.ge; omega)).trans (ho.mod.block k hk hkb)⟩
  exact ⟨hm1.put g ho.ge 3 v7, ho.ge, ho.lt, blk_put (cs := #[.int .i64 3, .int .i64 0, .string (⟨#[]⟩ : ByteArray), v]) hb 3 _ rfl,
    Kd.R_far (p := ⟨g, 3, none⟩) hr (fun k hk => Nat.ne_of_gt hk.2) v7, hrd.put g (Ne.symm hgb) 3 v7⟩
end Go.Proofs.YtgjlchcfdbmmlaaDoor.PObjectTakes
namespace Go.Proofs.YtgjlchcfdbmmlaaDoor.PObjectTakes
open Go.RowKit Go.Proofs.YtgjlchcfdbmmlaaDoor.Ord Go.Proofs.YtgjlchcfdbmmlaaDoorW.PrintWords Go.Proofs.YtgjlchcfdbmmlaaDoorW.PrintLast Go.Proofs.YtgjlchcfdbmmlaaDoorW.PrintMore
attribute [local irreducible] OpGives
attribute [local go_sem] rdl_const rdl_func rdl_global rdl_nil rdl_cons

theorem ext0 (s : ByteArray) (p : Nat) (hp : p < s.size) (h : 0 < (s.extract p (p + 1)).size) : ((s.extract p (p + 1))[0]'h).toNat = byteAt s p := by
  have h1 : (s.extract p (p + 1)).data = s.data.extract p (p + 1) := by simp
  have h2 : p < s.data.size := hp
  have e : (s.extract p (p + 1))[0]'h = (s.extract p (p + 1)).data[0]'h := rfl
  rw [e]
  simp only [h1]
  unfold byteAt
  rw [Array.getElem_extract]
  simp [h2, Array.getElem?_eq_getElem h2]
theorem meth_number (v : Bool) (w : World) : (method 209 155 (.agg #[.bool v]) "fasti/cell.most").run Tryd.prog w = .ok (115, .agg #[.bool v]) w := by kernel_rfl
theorem meth_word (w : World) : (method 209 157 (.agg #[]) "fasti/cell.most").run Tryd.prog w = .ok (116, .agg #[]) w := by kernel_rfl
theorem meth_row (w : World) : (method 209 166 (.agg #[]) "fasti/cell.most").run Tryd.prog w = .ok (117, .agg #[]) w := by kernel_rfl
theorem ext_at (s : ByteArray) (p n j : Nat) (h : p + n ≤ s.size) (hj : j < n) : ((s.extract p (p + n)).data.toList.getD j 0).toNat = byteAt s (p + j) := by
  have h1 : (s.extract p (p + n)).data = s.data.extract p (p + n) := by simp
  have h2 : p + j < s.data.size := by have : s.data.size = s.size := rfl; omega
  rw [h1]
  unfold byteAt
  simp [List.getD_eq_getElem?_getD, Array.getElem?_extract, h2, hj]
theorem numAt_lt (s : ByteArray) (p : Nat) : ∀ n, numAt s p n < 256 ^ n
  | 0 => by simp [numAt]
  | n + 1 => by
    have := numAt_lt s p n
    have hb : byteAt s (p + n) < 256 := UInt8.toNat_lt _
    rw [numAt, Nat.pow_succ]; omega
theorem or_byte (s : ByteArray) (p j : Nat) (hj : j ≤ 7) : bits BinOp.or IntKind.u64 ((numAt s p j : Int) * 256) (byteAt s (p + j) : Int) = (numAt s p (j + 1) : Int) := by
  have h1 := numAt_lt s p j
  have h2 : 256 ^ j ≤ 256 ^ 7 := Nat.pow_le_pow_right (by decide) hj
  have h7 : (256 : Nat) ^ 7 = 72057594037927936 := by decide
  have hb : byteAt s (p + j) < 256 := UInt8.toNat_lt _
  have e := u64_or_nat (numAt s p j * 256) (byteAt s (p + j)) (by omega) (by omega)
  rw [Int.natCast_mul] at e
  rw [show ((numAt s p j : Int) * 256) = (numAt s p j : Int) * ((256 : Nat) : Int) by rfl, e, numAt]
  congr 1
  have := Nat.two_pow_add_eq_or_of_lt (i := 8) (b := byteAt s (p + j)) (by omega) (numAt s p j)
  rw [Nat.mul_comm (numAt s p j) 256]
  exact this.symm
theorem below_bytes (w : World) (e : TypeId) (s : ByteArray) : Below w.heap.size w (Lib.bytesWorld w e s) :=
  ⟨rfl, rfl, rfl, by rw [Lib.bytesWorld_size]; omega, fun k hk => Lib.bytesWorld_at_old w e s k hk⟩
theorem as_num (v : Bool) (W : World) : (Instr.typeAssert (.iface 155 (.agg #[.bool v])) 149 155 true).run Tryd.prog W = .ok (.tuple #[.agg #[.bool v], .bool true]) W := by kernel_rfl
theorem as_word1 (W : World) : (Instr.typeAssert (.iface 157 (.agg #[])) 149 155 true).run Tryd.prog W = .ok (.tuple #[.agg #[.bool false], .bool false]) W := by kernel_rfl
theorem as_word2 (W : World) : (Instr.typeAssert (.iface 157 (.agg #[])) 149 157 true).run Tryd.prog W = .ok (.tuple #[.agg #[], .bool true]) W := by kernel_rfl
theorem as_row1 (W : World) : (Instr.typeAssert (.iface 166 (.agg #[])) 149 155 true).run Tryd.prog W = .ok (.tuple #[.agg #[.bool false], .bool false]) W := by kernel_rfl
theorem as_row2 (W : World) : (Instr.typeAssert (.iface 166 (.agg #[])) 149 157 true).run Tryd.prog W = .ok (.tuple #[.agg #[], .bool false]) W := by kernel_rfl
theorem four_put {W : World} {g : Nat} {ty : TypeId} {a b c d : Value} (h : W.heap[g]? = some (.cells #[a, b, c, d] ty (0, 0))) (a' b' c' d' : Value) :
    ((((W.setCell ⟨g, 0, none⟩ a').setCell ⟨g, 1, none⟩ b').setCell ⟨g, 2, none⟩ c').setCell ⟨g, 3, none⟩ d').heap[g]? = some (.cells #[a', b', c', d'] ty (0, 0)) :=
  blk_put (cs := #[a', b', c', d]) (blk_put (cs := #[a', b', c, d]) (blk_put (cs := #[a', b, c, d]) (blk_put (cs := #[a, b, c, d]) h 0 _ rfl) 1 _ rfl) 2 _ rfl) 3 _ rfl
/-- The cell is laid into the result's variable. -/
theorem fin_cell {b : Nat} {s : ByteArray} {q : Nat} {w W : World} {base : Nat} {v : Value} {xs : List S42} (hb : b < w.heap.size) (hm : ModB b w W) (hr : RdAt b s q W) (hbase : w.heap.size < base)
    (hR : Kd.R k42 42 W base (fun k => k ≠ b) v xs) (u0 u1 u2 u3 : Value) :
    ModB b w ((((W.setCell ⟨w.heap.size, 0, none⟩ u0).setCell ⟨w.heap.size, 1, none⟩ u1).setCell ⟨w.heap.size, 2, none⟩ u2).setCell ⟨w.heap.size, 3, none⟩ u3) ∧
    RdAt b s q ((((W.setCell ⟨w.heap.size, 0, none⟩ u0).setCell ⟨w.heap.size, 1, none⟩ u1).setCell ⟨w.heap.size, 2, none⟩ u2).setCell ⟨w.heap.size, 3, none⟩ u3) ∧
    Kd.R k42 42 ((((W.setCell ⟨w.heap.size, 0, none⟩ u0).setCell ⟨w.heap.size, 1, none⟩ u1).setCell ⟨w.heap.size, 2, none⟩ u2).setCell ⟨w.heap.size, 3, none⟩ u3) w.heap.size (fun k => k ≠ b) v xs := by
  have h1 : Kd.R k42 42 W base (fun k => k ≠ b ∧ base ≤ k) v xs := Kd.R_mono (Kd.R_bound hR) (fun k hk => ⟨hk.1, hk.2.1⟩)
  have hne : ∀ k, (k ≠ b ∧ base ≤ k) → k ≠ w.heap.size := fun k hk => by omega
  have h2 := Kd.R_far (p := ⟨w.heap.size, 0, none⟩) h1 hne u0
  have h3 := Kd.R_far (p := ⟨w.heap.size, 1, none⟩) h2 hne u1
  have h4 := Kd.R_far (p := ⟨w.heap.size, 2, none⟩) h3 hne u2
  have h5 := Kd.R_far (p := ⟨w.heap.size, 3, none⟩) h4 hne u3
  exact ⟨(((hm.put _ (Nat.le_refl _) _ _).put _ (Nat.le_refl _) _ _).put _ (Nat.le_refl _) _ _).put _ (Nat.le_refl _) _ _,
    (((hr.put _ (by omega) _ _).put _ (by omega) _ _).put _ (by omega) _ _).put _ (by omega) _ _,
    Kd.R_mono (Kd.R_lower h5 (Nat.le_of_lt hbase)) (fun k hk => hk.1)⟩
theorem byteAt_lt (s : ByteArray) (p : Nat) : byteAt s p < 256 := UInt8.toNat_lt _
theorem firstV_bad {c : Nat} (h : c / 16 < 1 ∨ 4 < c / 16) : firstV c = .nilIface := by
  unfold firstV
  rw [if_neg (by omega), if_neg (by omega), if_neg (by omega), if_neg (by omega)]
set_option maxHeartbeats 16000000 in
set_option maxRecDepth 100000 in
theorem cell_step (d : Nat) (hd : d ≤ 40) (s : ByteArray) (hs : s.size ≤ 140737488355328) (b : Nat) (g : Nat → DR S42)
    (ih : 0 < d → ∀ (p : Nat) (w : World), RdAt b s p w → p ≤ s.size → Calls Tryd.prog 66 #[.pointer (some ⟨b, 0, none⟩), .int .i64 ((d : Int) - 1)] w (CellPost (g p) b s p w))
    (p : Nat) (w : World) (h : RdAt b s p w) (hp : p ≤ s.size) :
    Calls Tryd.prog 66 #[.pointer (some ⟨b, 0, none⟩), .int .i64 (d : Int)] w (CellPost (cellW s (decide (0 < d)) g p) b s p w) := by
  have hbl : b < w.heap.size := (Array.getElem?_eq_some_iff.1 h).1
  obtain ⟨W1, hW1⟩ : ∃ W1, W1 = w.alloc (.cells #[.int .i64 0, .int .i64 0, .string (⟨#[]⟩ : ByteArray), .slice none 0 0] 42) := ⟨_, rfl⟩
  have hn1 : Below w.heap.size w W1 := by rw [hW1]; exact (Below.refl _ _).alloc (Nat.le_refl _) _
  have hr1 := h.kept hn1
  have hn1' := hn1
  have hg1 : W1.heap[w.heap.size]? = some (.cells #[.int .i64 0, .int .i64 0, .string (⟨#[]⟩ : ByteArray), .slice none 0 0] 42 (0, 0)) := by rw [hW1]; exact heap_alloc_last _ _
  have HG1 := Lib.hid hg1
  have HBL := Lib.hid hbl
  have c1 : (w.alloc (.cells #[.int .i64 0, .int .i64 0, .string (⟨#[]⟩ : ByteArray), .slice none 0 0] 42)).cell? ⟨b, 1, none⟩ = some (.int .i64 (p : Int)) := by rw [← hW1, Lib.cell_of_heap hr1]; rfl
  have HR1 := Lib.hid hr1
  have HN1 := Lib.hid hn1
  have HW1 := Lib.hid hW1
  have hx : ∀ W, ModB b W1 W → ModB b w W := fun W hm => (ModB.of_below hn1').trans hm
  have HX := Lib.hid hx
  have HIH := Lib.hid ih
  have H := Lib.hid h
  clear h hr1 hn1 hW1 ih hx hn1' hg1
  obtain ⟨r, hr⟩ : ∃ r, r = cellW s (decide (0 < d)) g p := ⟨_, rfl⟩
  rw [← hr]
  unfold cellW at hr
  have HR := Lib.hid hr
  clear hr
  go_enter Tryd.func66, Tryd.ntmps66
  go_wp2_with fail
  rw [← HW1.out]
  by_cases hsh : s.size < p + 1
  · refine (bytes_no b s p 1 W1 HR1.out hs hp hsh (by decide)).mono ?_
    rintro e W2 ⟨rfl, _, hm⟩
    have e0 : r = .bad s.size 3 := by rw [HR.out, if_pos hsh]
    rw [e0]
    exact ⟨rfl, (ModB.of_below HN1.out).trans hm, rfl⟩
  · have hr := HR.out
    rw [if_neg hsh] at hr
    have HR2 := Lib.hid hr
    clear HR hr
    refine (bytes_ok b s p 1 W1 HR1.out hs (by omega)).mono ?_
    rintro e W2 ⟨rfl, hr2, hm2⟩
    have HRD2 := Lib.hid hr2
    have HM2 := Lib.hid hm2
    clear hr2 hm2 HR1
    go_wp2_with fail
    rw [ext0 s p (by omega)]
    have hc256 := byteAt_lt s p
    obtain ⟨c, hc⟩ : ∃ c, c = byteAt s p := ⟨_, rfl⟩
    rw [← hc] at hc256 ⊢
    have hr := HR2.out
    rw [← hc] at hr
    have HC := Lib.hid hc
    have HR := Lib.hid hr
    clear hc hr HR2
    refine (first_calls c W2 hc256).mono ?_
    rintro e W ⟨rfl, rfl⟩
    by_cases hbad : c / 16 < 1 ∨ 4 < c / 16
    · rw [firstV_bad hbad]
      go_wp2_with fail
      refine (need_no _ _ _).mono ?_
      rintro e W' ⟨rfl, rfl⟩
      have e0 : r = .bad p 4 := by rw [HR.out]; exact if_pos hbad
      rw [e0]
      exact ⟨rfl, HX.out _ HM2.out, rfl⟩
    · have hr := HR.out
      rw [if_neg hbad] at hr
      have HR3 := Lib.hid hr
      clear HR hr
      have hk : c / 16 = 1 ∨ c / 16 = 2 ∨ c / 16 = 3 ∨ c / 16 = 4 := by omega
      clear hbad
      have m1 := meth_number
      have m2 := meth_word
      have m3 := meth_row
      rcases hk with hk | hk | hk | hk
      · have hv : firstV c = .iface 155 (.agg #[.bool false]) := by unfold firstV; rw [if_pos hk]
        have hmost := most_number false
        have hw8 : widthOf (c / 16) = 8 := by rw [hk]; rfl
        have hm8 : mostOf (c / 16) = 9223372036854775807 := by rw [hk]; rfl
        rw [hv]
        have HMO := Lib.hid hmost
        clear hmost hv
        go_wp2_with fail
        refine (need_ok _ _ _).mono ?_
        rintro e W' ⟨rfl, rfl⟩
        go_wp2_with fail
        refine (HMO.out _).mono ?_
        rintro e W3 ⟨rfl, hb3⟩
        have hr3 := HRD2.out.kept hb3
        have hm3 := HM2.out.trans (ModB.of_below hb3)
        have HRD3 := Lib.hid hr3
        have HM3 := Lib.hid hm3
        have hsz3 := hb3.size
        clear hb3 hr3 hm3 HRD2 HM2 m1 m2 m3
        go_wp2_with fail
        obtain ⟨n, hn⟩ : ∃ n, n = c % 16 := ⟨_, rfl⟩
        rw [show (c : Int) % 16 = (n : Int) by omega]
        have hr := HR3.out
        rw [← hn, hw8, hm8] at hr
        have HR := Lib.hid hr
        have hn16 : n ≤ 15 := by omega
        have HN := Lib.hid hn
        have HW8 := Lib.hid hw8
        have HK := Lib.hid hk
        clear hr HR3 hn hw8 hm8 hk
        by_cases hwd : 8 < n
        · rw [decide_eq_false (by omega : ¬ (n : Int) ≤ 8)]
          refine (need_no _ _ _).mono ?_
          rintro e W' ⟨rfl, rfl⟩
          have e0 : r = .bad p 4 := by rw [HR.out]; exact if_pos hwd
          rw [e0]
          exact ⟨rfl, HX.out _ HM3.out, rfl⟩
        · rw [decide_eq_true (by omega : (n : Int) ≤ 8)]
          have hr := HR.out
          rw [if_neg hwd] at hr
          have HR := Lib.hid hr
          clear hr
          refine (need_ok _ _ _).mono ?_
          rintro e W' ⟨rfl, rfl⟩
          go_wp2_with fail
          by_cases hd0 : 0 < d
          · have hr := HR.out
            rw [if_neg (by rw [decide_eq_true hd0]; decide)] at hr
            have HR := Lib.hid hr
            clear hr
            rw [decide_eq_true hd0]
            refine (need_ok _ _ _).mono ?_
            rintro e W' ⟨rfl, rfl⟩
            go_wp2_with fail
            by_cases hsh2 : s.size < p + 1 + n
            · refine (bytes_no b s (p + 1) n W' HRD3.out hs (by omega) hsh2 (by omega)).mono ?_
              rintro e W4 ⟨rfl, _, hm⟩
              have e0 : r = .bad s.size 3 := by rw [HR.out]; exact if_pos hsh2
              rw [e0]
              exact ⟨rfl, HX.out _ (HM3.out.trans hm), rfl⟩
            · have hr := HR.out
              rw [if_neg hsh2] at hr
              have HR := Lib.hid hr
              clear hr
              refine (bytes_ok b s (p + 1) n W' HRD3.out hs (by omega)).mono ?_
              rintro e W4 ⟨rfl, hr4, hm4⟩
              have hm4 := HM3.out.trans hm4
              have HRD4 := Lib.hid hr4
              have HM4 := Lib.hid hm4
              clear hr4 hm4 HRD3 HM3
              go_wp2_with fail
              rw [Lib.run_convert_string_bytes (P := Tryd.prog) W4 9 90 5 (s.extract (p + 1) (p + 1 + n)) Tryd.underlying9 Tryd.underlying90 Tryd.underlying5]
              simp only [Result.andThen]
              rw [Oper.upon_value]
              have hxs : (s.extract (p + 1) (p + 1 + n)).size = n := by rw [ByteArray.size_extract]; omega
              obtain ⟨W5, hW5⟩ : ∃ W5, W5 = Lib.bytesWorld W4 5 (s.extract (p + 1) (p + 1 + n)) := ⟨_, rfl⟩
              obtain ⟨gc, hgc⟩ : ∃ gc, gc = grownCap W4 (s.extract (p + 1) (p + 1 + n)).size 0 5 := ⟨_, rfl⟩
              obtain ⟨gb, hgb⟩ : ∃ gb, gb = W4.heap.size := ⟨_, rfl⟩
              rw [← hgc, ← hW5, hxs, ← hgb]
              have hb5 : Below W4.heap.size W4 W5 := by rw [hW5]; exact below_bytes _ _ _
              have hcell : ∀ j, j < n → W5.cell? ⟨gb, j, none⟩ = some (.int .u8 (byteAt s (p + 1 + j) : Int)) := fun j hj => by
                rw [hW5, hgb, Lib.bytesWorld_cell _ _ _ _ (by omega), ext_at s (p + 1) n j (by omega) hj]
              have hr5 := HRD4.out.kept hb5
              have hm5 := HM4.out.trans (ModB.of_below hb5)
              have hsz5 := Nat.le_trans (HM4.out.size) hb5.size
              have HCELL := Lib.hid hcell
              have HRD5 := Lib.hid hr5
              have HM5 := Lib.hid hm5
              clear hxs hW5 hgc hb5 hcell hr5 hm5 HRD4 HM4 hgb
              go_wp2_with fail
              go_loopw [11, 52] (fun k i wr => ∃ j : Nat, j ≤ n ∧ i = .int .i64 (j : Int) ∧ k = .int .u64 (numAt s (p + 1) j : Int) ∧ (0 < j → byteAt s (p + 1) ≠ 0) ∧ W5 = wr) (fun _ i _ => n - (intOf i).toNat)
              case atStart => exact ⟨0, Nat.zero_le _, rfl, rfl, fun h => absurd h (by decide), rfl⟩
              case round =>
                obtain ⟨j, hj, rfl, rfl, hnz, rfl⟩ := hrel
                by_cases hjn : j < n
                · have cj := HCELL.out j hjn
                  have hcl := byteAt_lt s (p + 1 + j)
                  have hnl := numAt_lt s (p + 1) j
                  have hor := or_byte s (p + 1) j (by omega)
                  obtain ⟨bj, hbj⟩ : ∃ bj, bj = byteAt s (p + 1 + j) := ⟨_, rfl⟩
                  obtain ⟨nj, hnj⟩ : ∃ nj, nj = numAt s (p + 1) j := ⟨_, rfl⟩
                  rw [← hbj] at cj hcl hor
                  rw [← hnj] at hnl hor ⊢
                  have hnl64 : nj * 256 + 255 < 18446744073709551616 := by
                    have : 256 ^ j ≤ 256 ^ 7 := Nat.pow_le_pow_right (by decide) (by omega)
                    have h7 : (256 : Nat) ^ 7 = 72057594037927936 := by decide
                    omega
                  have HBJ := Lib.hid hbj
                  have HNJ := Lib.hid hnj
                  have HOR := Lib.hid hor
                  clear hbj hnj hor
                  by_cases hj0 : 0 < j
                  · go_wp2_with fail
                    refine (need_ok _ _ _).mono ?_
                    rintro e W' ⟨rfl, rfl⟩
                    go_wp2_with fail
                    go_roundw
                    case rel => exact ⟨j + 1, by omega, by go_num, by rw [HOR.out], by have := HBJ.out; have := hnz; intro _; exact hnz hj0, trivial⟩
                    case measure => simp [intOf]; omega
                  · have hj00 : j = 0 := by omega
                    have hbz : bj = byteAt s (p + 1) := by rw [HBJ.out, hj00, Nat.add_zero]
                    have HBZ := Lib.hid hbz
                    clear hj00 hbz
                    by_cases hb0 : 0 < bj
                    · go_wp2_with fail
                      refine (need_ok _ _ _).mono ?_
                      rintro e W' ⟨rfl, rfl⟩
                      go_wp2_with fail
                      go_roundw
                      case rel => exact ⟨j + 1, by omega, by go_num, by rw [HOR.out], by have := HBJ.out; have := hnz; intro _; have := HBZ.out; omega, trivial⟩
                      case measure => simp [intOf]; omega
                    · have e0 : r = .bad p 4 := by rw [HR.out]; exact if_pos ⟨by omega, by have := HBZ.out; omega⟩
                      go_wp2_with fail
                      refine (need_no _ _ _).mono ?_
                      rintro e W' ⟨rfl, rfl⟩
                      subst e0
                      exact ⟨rfl, HX.out _ HM5.out, rfl⟩
                · have hjn' : j = n := by omega
                  have hr := HR.out
                  rw [if_neg (by rintro ⟨h1, h2⟩; exact hnz (by omega) h2)] at hr
                  have HR := Lib.hid hr
                  have HJN := Lib.hid hjn'
                  clear hr hjn'
                  obtain ⟨kk, hkk⟩ : ∃ kk, kk = numAt s (p + 1) j := ⟨_, rfl⟩
                  rw [← hkk]
                  have HKK := Lib.hid hkk
                  clear hkk
                  go_wp2_with fail
                  have hr := HR.out
                  rw [show numAt s (p + 1) n = kk by rw [HKK.out, HJN.out]] at hr
                  have HR := Lib.hid hr
                  clear hr
                  by_cases hmx : 9223372036854775807 < kk
                  · have e0 : r = .bad p 4 := by rw [HR.out]; exact if_pos hmx
                    rw [decide_eq_false (by omega : ¬ (kk : Int) ≤ 9223372036854775807)]
                    refine (need_no _ _ _).mono ?_
                    rintro e W' ⟨rfl, rfl⟩
                    subst e0
                    exact ⟨rfl, HX.out _ HM5.out, rfl⟩
                  · have hr := HR.out
                    rw [if_neg hmx] at hr
                    have HR := Lib.hid hr
                    clear hr
                    rw [decide_eq_true (by omega : (kk : Int) ≤ 9223372036854775807)]
                    refine (need_ok _ _ _).mono ?_
                    rintro e W' ⟨rfl, rfl⟩
                    have hnot : bits BinOp.xor IntKind.i64 (-1) (kk : Int) = -1 - (kk : Int) := i64_not kk (by omega)
                    have q1 := as_num
                    have q2 := as_word1
                    have q3 := as_word2
                    have q4 := as_row1
                    have q5 := as_row2
                    go_wp2_with fail
                    have hx6 : Below W'.heap.size W' (W'.alloc (.cells #[.bool false] 155)) := (Below.refl _ _).alloc (Nat.le_refl _) _
                    obtain ⟨W6, hW6⟩ : ∃ W6, W6 = W'.alloc (.cells #[.bool false] 155) := ⟨_, rfl⟩
                    rw [← hW6] at hx6 ⊢
                    clear hW6 q1 q2 q3 q4 q5
                    refine (cell_Num.calls (kk : Int) 1 (kk : Int) ⟨#[]⟩ [] W6 rfl).mono ?_
                    rintro e W7 ⟨v3, rfl, hR7, hb7⟩
                    have hbb := hx6.trans (hb7.mono hx6.size)
                    have hm7 := HM5.out.trans (ModB.of_below hbb)
                    have hr7 := HRD5.out.kept hbb
                    obtain ⟨A3, c3, rfl⟩ := R_slice hR7
                    have hg7 := (hm7.block _ (Array.getElem?_eq_some_iff.1 HG1.out).1 (by have := HBL.out; omega)).trans HG1.out
                    have z0 : W7.cell? ⟨w.heap.size, 0, none⟩ = some (.int .i64 0) := by rw [Lib.cell_of_heap hg7]; rfl
                    have z1 : W7.cell? ⟨w.heap.size, 1, none⟩ = some (.int .i64 0) := by rw [Lib.cell_of_heap hg7]; rfl
                    have z2 : W7.cell? ⟨w.heap.size, 2, none⟩ = some (.string (⟨#[]⟩ : ByteArray)) := by rw [Lib.cell_of_heap hg7]; rfl
                    have z3 : W7.cell? ⟨w.heap.size, 3, none⟩ = some (.slice none 0 0) := by rw [Lib.cell_of_heap hg7]; rfl
                    have f0 := Lib.frozen_of_heap hg7 0
                    have f1 := Lib.frozen_of_heap hg7 1
                    have f2 := Lib.frozen_of_heap hg7 2
                    have f3 := Lib.frozen_of_heap hg7 3
                    have HG7 := Lib.hid hg7
                    have HM7 := Lib.hid hm7
                    have HR7 := Lib.hid hr7
                    have HRR := Lib.hid hR7
                    have hsz6 : w.heap.size < W6.heap.size := by have := (Array.getElem?_eq_some_iff.1 HG1.out).1; have := HM5.out.size; have := hx6.size; omega
                    have HSZ6 := Lib.hid hsz6
                    clear hg7 hm7 hr7 hR7 hbb hx6 hb7 hsz6
                    go_wp2_with fail
                    obtain ⟨e1, e2, e3⟩ := fin_cell HBL.out (HX.out _ HM7.out) HR7.out HSZ6.out (Kd.R_mono (Kd.R_bound HRR.out) (fun k hk => by have := HBL.out; have := HSZ6.out; omega)) (.int .i64 1) (.int .i64 (kk : Int)) (.string (⟨#[]⟩ : ByteArray)) (.slice A3 0 c3)
                    have e0 : r = .ok ⟨1, (kk : Int), ⟨#[]⟩, []⟩ (p + 1 + n) := by rw [HR.out]; exact if_pos HK.out
                    refine bodyPost_ret (results_cell_row rfl _ _ w.heap.size 42 #[.int .i64 1, .int .i64 (kk : Int), .string (⟨#[]⟩ : ByteArray), .slice A3 0 c3] (0, 0) _ rfl (four_put HG7.out _ _ _ _) Tryd.underlying42 rfl (by kernel_rfl)) rfl ?_
                    rw [e0]
                    exact ⟨e1, ⟨_, rfl, e3⟩, e2, by omega, by omega⟩
          · have e0 : r = .bad p 5 := by rw [HR.out]; exact if_pos (by rw [decide_eq_false hd0])
            rw [decide_eq_false hd0]
            refine (need_no _ _ _).mono ?_
            rintro e W' ⟨rfl, rfl⟩
            rw [e0]
            exact ⟨rfl, HX.out _ HM3.out, rfl⟩
      · have hv : firstV c = .iface 155 (.agg #[.bool true]) := by unfold firstV; rw [if_neg (by omega), if_pos hk]
        have hmost := most_number true
        have hw8 : widthOf (c / 16) = 8 := by rw [hk]; rfl
        have hm8 : mostOf (c / 16) = 9223372036854775807 := by rw [hk]; rfl
        rw [hv]
        have HMO := Lib.hid hmost
        clear hmost hv
        go_wp2_with fail
        refine (need_ok _ _ _).mono ?_
        rintro e W' ⟨rfl, rfl⟩
        go_wp2_with fail
        refine (HMO.out _).mono ?_
        rintro e W3 ⟨rfl, hb3⟩
        have hr3 := HRD2.out.kept hb3
        have hm3 := HM2.out.trans (ModB.of_below hb3)
        have HRD3 := Lib.hid hr3
        have HM3 := Lib.hid hm3
        have hsz3 := hb3.size
        clear hb3 hr3 hm3 HRD2 HM2 m1 m2 m3
        go_wp2_with fail
        obtain ⟨n, hn⟩ : ∃ n, n = c % 16 := ⟨_, rfl⟩
        rw [show (c : Int) % 16 = (n : Int) by omega]
        have hr := HR3.out
        rw [← hn, hw8, hm8] at hr
        have HR := Lib.hid hr
        have hn16 : n ≤ 15 := by omega
        have HN := Lib.hid hn
        have HW8 := Lib.hid hw8
        have HK := Lib.hid hk
        clear hr HR3 hn hw8 hm8 hk
        by_cases hwd : 8 < n
        · rw [decide_eq_false (by omega : ¬ (n : Int) ≤ 8)]
          refine (need_no _ _ _).mono ?_
          rintro e W' ⟨rfl, rfl⟩
          have e0 : r = .bad p 4 := by rw [HR.out]; exact if_pos hwd
          rw [e0]
          exact ⟨rfl, HX.out _ HM3.out, rfl⟩
        · rw [decide_eq_true (by omega : (n : Int) ≤ 8)]
          have hr := HR.out
          rw [if_neg hwd] at hr
          have HR := Lib.hid hr
          clear hr
          refine (need_ok _ _ _).mono ?_
          rintro e W' ⟨rfl, rfl⟩
          go_wp2_with fail
          by_cases hd0 : 0 < d
          · have hr := HR.out
            rw [if_neg (by rw [decide_eq_true hd0]; decide)] at hr
            have HR := Lib.hid hr
            clear hr
            rw [decide_eq_true hd0]
            refine (need_ok _ _ _).mono ?_
            rintro e W' ⟨rfl, rfl⟩
            go_wp2_with fail
            by_cases hsh2 : s.size < p + 1 + n
            · refine (bytes_no b s (p + 1) n W' HRD3.out hs (by omega) hsh2 (by omega)).mono ?_
              rintro e W4 ⟨rfl, _, hm⟩
              have e0 : r = .bad s.size 3 := by rw [HR.out]; exact if_pos hsh2
              rw [e0]
              exact ⟨rfl, HX.out _ (HM3.out.trans hm), rfl⟩
            · have hr := HR.out
              rw [if_neg hsh2] at hr
              have HR := Lib.hid hr
              clear hr
              refine (bytes_ok b s (p + 1) n W' HRD3.out hs (by omega)).mono ?_
              rintro e W4 ⟨rfl, hr4, hm4⟩
              have hm4 := HM3.out.trans hm4
              have HRD4 := Lib.hid hr4
              have HM4 := Lib.hid hm4
              clear hr4 hm4 HRD3 HM3
              go_wp2_with fail
              rw [Lib.run_convert_string_bytes (P := Tryd.prog) W4 9 90 5 (s.extract (p + 1) (p + 1 + n)) Tryd.underlying9 Tryd.underlying90 Tryd.underlying5]
              simp only [Result.andThen]
              rw [Oper.upon_value]
              have hxs : (s.extract (p + 1) (p + 1 + n)).size = n := by rw [ByteArray.size_extract]; omega
              obtain ⟨W5, hW5⟩ : ∃ W5, W5 = Lib.bytesWorld W4 5 (s.extract (p + 1) (p + 1 + n)) := ⟨_, rfl⟩
              obtain ⟨gc, hgc⟩ : ∃ gc, gc = grownCap W4 (s.extract (p + 1) (p + 1 + n)).size 0 5 := ⟨_, rfl⟩
              obtain ⟨gb, hgb⟩ : ∃ gb, gb = W4.heap.size := ⟨_, rfl⟩
              rw [← hgc, ← hW5, hxs, ← hgb]
              have hb5 : Below W4.heap.size W4 W5 := by rw [hW5]; exact below_bytes _ _ _
              have hcell : ∀ j, j < n → W5.cell? ⟨gb, j, none⟩ = some (.int .u8 (byteAt s (p + 1 + j) : Int)) := fun j hj => by
                rw [hW5, hgb, Lib.bytesWorld_cell _ _ _ _ (by omega), ext_at s (p + 1) n j (by omega) hj]
              have hr5 := HRD4.out.kept hb5
              have hm5 := HM4.out.trans (ModB.of_below hb5)
              have hsz5 := Nat.le_trans (HM4.out.size) hb5.size
              have HCELL := Lib.hid hcell
              have HRD5 := Lib.hid hr5
              have HM5 := Lib.hid hm5
              clear hxs hW5 hgc hb5 hcell hr5 hm5 HRD4 HM4 hgb
              go_wp2_with fail
              go_loopw [11, 52] (fun k i wr => ∃ j : Nat, j ≤ n ∧ i = .int .i64 (j : Int) ∧ k = .int .u64 (numAt s (p + 1) j : Int) ∧ (0 < j → byteAt s (p + 1) ≠ 0) ∧ W5 = wr) (fun _ i _ => n - (intOf i).toNat)
              case atStart => exact ⟨0, Nat.zero_le _, rfl, rfl, fun h => absurd h (by decide), rfl⟩
              case round =>
                obtain ⟨j, hj, rfl, rfl, hnz, rfl⟩ := hrel
                by_cases hjn : j < n
                · have cj := HCELL.out j hjn
                  have hcl := byteAt_lt s (p + 1 + j)
                  have hnl := numAt_lt s (p + 1) j
                  have hor := or_byte s (p + 1) j (by omega)
                  obtain ⟨bj, hbj⟩ : ∃ bj, bj = byteAt s (p + 1 + j) := ⟨_, rfl⟩
                  obtain ⟨nj, hnj⟩ : ∃ nj, nj = numAt s (p + 1) j := ⟨_, rfl⟩
                  rw [← hbj] at cj hcl hor
                  rw [← hnj] at hnl hor ⊢
                  have hnl64 : nj * 256 + 255 < 18446744073709551616 := by
                    have : 256 ^ j ≤ 256 ^ 7 := Nat.pow_le_pow_right (by decide) (by omega)
                    have h7 : (256 : Nat) ^ 7 = 72057594037927936 := by decide
                    omega
                  have HBJ := Lib.hid hbj
                  have HNJ := Lib.hid hnj
                  have HOR := Lib.hid hor
                  clear hbj hnj hor
                  by_cases hj0 : 0 < j
                  · go_wp2_with fail
                    refine (need_ok _ _ _).mono ?_
                    rintro e W' ⟨rfl, rfl⟩
                    go_wp2_with fail
                    go_roundw
                    case rel => exact ⟨j + 1, by omega, by go_num, by rw [HOR.out], by have := HBJ.out; have := hnz; intro _; exact hnz hj0, trivial⟩
                    case measure => simp [intOf]; omega
                  · have hj00 : j = 0 := by omega
                    have hbz : bj = byteAt s (p + 1) := by rw [HBJ.out, hj00, Nat.add_zero]
                    have HBZ := Lib.hid hbz
                    clear hj00 hbz
                    by_cases hb0 : 0 < bj
                    · go_wp2_with fail
                      refine (need_ok _ _ _).mono ?_
                      rintro e W' ⟨rfl, rfl⟩
                      go_wp2_with fail
                      go_roundw
                      case rel => exact ⟨j + 1, by omega, by go_num, by rw [HOR.out], by have := HBJ.out; have := hnz; intro _; have := HBZ.out; omega, trivial⟩
                      case measure => simp [intOf]; omega
                    · have e0 : r = .bad p 4 := by rw [HR.out]; exact if_pos ⟨by omega, by have := HBZ.out; omega⟩
                      go_wp2_with fail
                      refine (need_no _ _ _).mono ?_
                      rintro e W' ⟨rfl, rfl⟩
                      subst e0
                      exact ⟨rfl, HX.out _ HM5.out, rfl⟩
                · have hjn' : j = n := by omega
                  have hr := HR.out
                  rw [if_neg (by rintro ⟨h1, h2⟩; exact hnz (by omega) h2)] at hr
                  have HR := Lib.hid hr
                  have HJN := Lib.hid hjn'
                  clear hr hjn'
                  obtain ⟨kk, hkk⟩ : ∃ kk, kk = numAt s (p + 1) j := ⟨_, rfl⟩
                  rw [← hkk]
                  have HKK := Lib.hid hkk
                  clear hkk
                  go_wp2_with fail
                  have hr := HR.out
                  rw [show numAt s (p + 1) n = kk by rw [HKK.out, HJN.out]] at hr
                  have HR := Lib.hid hr
                  clear hr
                  by_cases hmx : 9223372036854775807 < kk
                  · have e0 : r = .bad p 4 := by rw [HR.out]; exact if_pos hmx
                    rw [decide_eq_false (by omega : ¬ (kk : Int) ≤ 9223372036854775807)]
                    refine (need_no _ _ _).mono ?_
                    rintro e W' ⟨rfl, rfl⟩
                    subst e0
                    exact ⟨rfl, HX.out _ HM5.out, rfl⟩
                  · have hr := HR.out
                    rw [if_neg hmx] at hr
                    have HR := Lib.hid hr
                    clear hr
                    rw [decide_eq_true (by omega : (kk : Int) ≤ 9223372036854775807)]
                    refine (need_ok _ _ _).mono ?_
                    rintro e W' ⟨rfl, rfl⟩
                    have hnot : bits BinOp.xor IntKind.i64 (-1) (kk : Int) = -1 - (kk : Int) := i64_not kk (by omega)
                    have q1 := as_num
                    have q2 := as_word1
                    have q3 := as_word2
                    have q4 := as_row1
                    have q5 := as_row2
                    go_wp2_with fail
                    have hx6 : Below W'.heap.size W' (W'.alloc (.cells #[.bool true] 155)) := (Below.refl _ _).alloc (Nat.le_refl _) _
                    obtain ⟨W6, hW6⟩ : ∃ W6, W6 = W'.alloc (.cells #[.bool true] 155) := ⟨_, rfl⟩
                    rw [← hW6] at hx6 ⊢
                    clear hW6 q1 q2 q3 q4 q5
                    refine (cell_Num.calls (-1 - (kk : Int)) 1 (-1 - (kk : Int)) ⟨#[]⟩ [] W6 rfl).mono ?_
                    rintro e W7 ⟨v3, rfl, hR7, hb7⟩
                    have hbb := hx6.trans (hb7.mono hx6.size)
                    have hm7 := HM5.out.trans (ModB.of_below hbb)
                    have hr7 := HRD5.out.kept hbb
                    obtain ⟨A3, c3, rfl⟩ := R_slice hR7
                    have hg7 := (hm7.block _ (Array.getElem?_eq_some_iff.1 HG1.out).1 (by have := HBL.out; omega)).trans HG1.out
                    have z0 : W7.cell? ⟨w.heap.size, 0, none⟩ = some (.int .i64 0) := by rw [Lib.cell_of_heap hg7]; rfl
                    have z1 : W7.cell? ⟨w.heap.size, 1, none⟩ = some (.int .i64 0) := by rw [Lib.cell_of_heap hg7]; rfl
                    have z2 : W7.cell? ⟨w.heap.size, 2, none⟩ = some (.string (⟨#[]⟩ : ByteArray)) := by rw [Lib.cell_of_heap hg7]; rfl
                    have z3 : W7.cell? ⟨w.heap.size, 3, none⟩ = some (.slice none 0 0) := by rw [Lib.cell_of_heap hg7]; rfl
                    have f0 := Lib.frozen_of_heap hg7 0
                    have f1 := Lib.frozen_of_heap hg7 1
                    have f2 := Lib.frozen_of_heap hg7 2
                    have f3 := Lib.frozen_of_heap hg7 3
                    have HG7 := Lib.hid hg7
                    have HM7 := Lib.hid hm7
                    have HR7 := Lib.hid hr7
                    have HRR := Lib.hid hR7
                    have hsz6 : w.heap.size < W6.heap.size := by have := (Array.getElem?_eq_some_iff.1 HG1.out).1; have := HM5.out.size; have := hx6.size; omega
                    have HSZ6 := Lib.hid hsz6
                    clear hg7 hm7 hr7 hR7 hbb hx6 hb7 hsz6
                    go_wp2_with fail
                    obtain ⟨e1, e2, e3⟩ := fin_cell HBL.out (HX.out _ HM7.out) HR7.out HSZ6.out (Kd.R_mono (Kd.R_bound HRR.out) (fun k hk => by have := HBL.out; have := HSZ6.out; omega)) (.int .i64 1) (.int .i64 (-1 - (kk : Int))) (.string (⟨#[]⟩ : ByteArray)) (.slice A3 0 c3)
                    have e0 : r = .ok ⟨1, -1 - (kk : Int), ⟨#[]⟩, []⟩ (p + 1 + n) := by rw [HR.out]; rw [if_neg (by have := HK.out; omega)]; exact if_pos HK.out
                    refine bodyPost_ret (results_cell_row rfl _ _ w.heap.size 42 #[.int .i64 1, .int .i64 (-1 - (kk : Int)), .string (⟨#[]⟩ : ByteArray), .slice A3 0 c3] (0, 0) _ rfl (four_put HG7.out _ _ _ _) Tryd.underlying42 rfl (by kernel_rfl)) rfl ?_
                    rw [e0]
                    exact ⟨e1, ⟨_, rfl, e3⟩, e2, by omega, by omega⟩
          · have e0 : r = .bad p 5 := by rw [HR.out]; exact if_pos (by rw [decide_eq_false hd0])
            rw [decide_eq_false hd0]
            refine (need_no _ _ _).mono ?_
            rintro e W' ⟨rfl, rfl⟩
            rw [e0]
            exact ⟨rfl, HX.out _ HM3.out, rfl⟩
      · have hv : firstV c = .iface 157 (.agg #[]) := by unfold firstV; rw [if_neg (by omega), if_neg (by omega), if_pos hk]
        have hmost := most_word
        have hw8 : widthOf (c / 16) = 2 := by rw [hk]; rfl
        have hm8 : mostOf (c / 16) = 65535 := by rw [hk]; rfl
        rw [hv]
        have HMO := Lib.hid hmost
        clear hmost hv
        go_wp2_with fail
        refine (need_ok _ _ _).mono ?_
        rintro e W' ⟨rfl, rfl⟩
        go_wp2_with fail
        refine (HMO.out _).mono ?_
        rintro e W3 ⟨rfl, hb3⟩
        have hr3 := HRD2.out.kept hb3
        have hm3 := HM2.out.trans (ModB.of_below hb3)
        have HRD3 := Lib.hid hr3
        have HM3 := Lib.hid hm3
        have hsz3 := hb3.size
        clear hb3 hr3 hm3 HRD2 HM2 m1 m2 m3
        go_wp2_with fail
        obtain ⟨n, hn⟩ : ∃ n, n = c % 16 := ⟨_, rfl⟩
        rw [show (c : Int) % 16 = (n : Int) by omega]
        have hr := HR3.out
        rw [← hn, hw8, hm8] at hr
        have HR := Lib.hid hr
        have hn16 : n ≤ 15 := by omega
        have HN := Lib.hid hn
        have HW8 := Lib.hid hw8
        have HK := Lib.hid hk
        clear hr HR3 hn hw8 hm8 hk
        by_cases hwd : 2 < n
        · rw [decide_eq_false (by omega : ¬ (n : Int) ≤ 2)]
          refine (need_no _ _ _).mono ?_
          rintro e W' ⟨rfl, rfl⟩
          have e0 : r = .bad p 4 := by rw [HR.out]; exact if_pos hwd
          rw [e0]
          exact ⟨rfl, HX.out _ HM3.out, rfl⟩
        · rw [decide_eq_true (by omega : (n : Int) ≤ 2)]
          have hr := HR.out
          rw [if_neg hwd] at hr
          have HR := Lib.hid hr
          clear hr
          refine (need_ok _ _ _).mono ?_
          rintro e W' ⟨rfl, rfl⟩
          go_wp2_with fail
          by_cases hd0 : 0 < d
          · have hr := HR.out
            rw [if_neg (by rw [decide_eq_true hd0]; decide)] at hr
            have HR := Lib.hid hr
            clear hr
            rw [decide_eq_true hd0]
            refine (need_ok _ _ _).mono ?_
            rintro e W' ⟨rfl, rfl⟩
            go_wp2_with fail
            by_cases hsh2 : s.size < p + 1 + n
            · refine (bytes_no b s (p + 1) n W' HRD3.out hs (by omega) hsh2 (by omega)).mono ?_
              rintro e W4 ⟨rfl, _, hm⟩
              have e0 : r = .bad s.size 3 := by rw [HR.out]; exact if_pos hsh2
              rw [e0]
              exact ⟨rfl, HX.out _ (HM3.out.trans hm), rfl⟩
            · have hr := HR.out
              rw [if_neg hsh2] at hr
              have HR := Lib.hid hr
              clear hr
              refine (bytes_ok b s (p + 1) n W' HRD3.out hs (by omega)).mono ?_
              rintro e W4 ⟨rfl, hr4, hm4⟩
              have hm4 := HM3.out.trans hm4
              have HRD4 := Lib.hid hr4
              have HM4 := Lib.hid hm4
              clear hr4 hm4 HRD3 HM3
              go_wp2_with fail
              rw [Lib.run_convert_string_bytes (P := Tryd.prog) W4 9 90 5 (s.extract (p + 1) (p + 1 + n)) Tryd.underlying9 Tryd.underlying90 Tryd.underlying5]
              simp only [Result.andThen]
              rw [Oper.upon_value]
              have hxs : (s.extract (p + 1) (p + 1 + n)).size = n := by rw [ByteArray.size_extract]; omega
              obtain ⟨W5, hW5⟩ : ∃ W5, W5 = Lib.bytesWorld W4 5 (s.extract (p + 1) (p + 1 + n)) := ⟨_, rfl⟩
              obtain ⟨gc, hgc⟩ : ∃ gc, gc = grownCap W4 (s.extract (p + 1) (p + 1 + n)).size 0 5 := ⟨_, rfl⟩
              obtain ⟨gb, hgb⟩ : ∃ gb, gb = W4.heap.size := ⟨_, rfl⟩
              rw [← hgc, ← hW5, hxs, ← hgb]
              have hb5 : Below W4.heap.size W4 W5 := by rw [hW5]; exact below_bytes _ _ _
              have hcell : ∀ j, j < n → W5.cell? ⟨gb, j, none⟩ = some (.int .u8 (byteAt s (p + 1 + j) : Int)) := fun j hj => by
                rw [hW5, hgb, Lib.bytesWorld_cell _ _ _ _ (by omega), ext_at s (p + 1) n j (by omega) hj]
              have hr5 := HRD4.out.kept hb5
              have hm5 := HM4.out.trans (ModB.of_below hb5)
              have hsz5 := Nat.le_trans (HM4.out.size) hb5.size
              have HCELL := Lib.hid hcell
              have HRD5 := Lib.hid hr5
              have HM5 := Lib.hid hm5
              clear hxs hW5 hgc hb5 hcell hr5 hm5 HRD4 HM4 hgb
              go_wp2_with fail
              go_loopw [11, 52] (fun k i wr => ∃ j : Nat, j ≤ n ∧ i = .int .i64 (j : Int) ∧ k = .int .u64 (numAt s (p + 1) j : Int) ∧ (0 < j → byteAt s (p + 1) ≠ 0) ∧ W5 = wr) (fun _ i _ => n - (intOf i).toNat)
              case atStart => exact ⟨0, Nat.zero_le _, rfl, rfl, fun h => absurd h (by decide), rfl⟩
              case round =>
                obtain ⟨j, hj, rfl, rfl, hnz, rfl⟩ := hrel
                by_cases hjn : j < n
                · have cj := HCELL.out j hjn
                  have hcl := byteAt_lt s (p + 1 + j)
                  have hnl := numAt_lt s (p + 1) j
                  have hor := or_byte s (p + 1) j (by omega)
                  obtain ⟨bj, hbj⟩ : ∃ bj, bj = byteAt s (p + 1 + j) := ⟨_, rfl⟩
                  obtain ⟨nj, hnj⟩ : ∃ nj, nj = numAt s (p + 1) j := ⟨_, rfl⟩
                  rw [← hbj] at cj hcl hor
                  rw [← hnj] at hnl hor ⊢
                  have hnl64 : nj * 256 + 255 < 18446744073709551616 := by
                    have : 256 ^ j ≤ 256 ^ 7 := Nat.pow_le_pow_right (by decide) (by omega)
                    have h7 : (256 : Nat) ^ 7 = 72057594037927936 := by decide
                    omega
                  have HBJ := Lib.hid hbj
                  have HNJ := Lib.hid hnj
                  have HOR := Lib.hid hor
                  clear hbj hnj hor
                  by_cases hj0 : 0 < j
                  · go_wp2_with fail
                    refine (need_ok _ _ _).mono ?_
                    rintro e W' ⟨rfl, rfl⟩
                    go_wp2_with fail
                    go_roundw
                    case rel => exact ⟨j + 1, by omega, by go_num, by rw [HOR.out], by have := HBJ.out; have := hnz; intro _; exact hnz hj0, trivial⟩
                    case measure => simp [intOf]; omega
                  · have hj00 : j = 0 := by omega
                    have hbz : bj = byteAt s (p + 1) := by rw [HBJ.out, hj00, Nat.add_zero]
                    have HBZ := Lib.hid hbz
                    clear hj00 hbz
                    by_cases hb0 : 0 < bj
                    · go_wp2_with fail
                      refine (need_ok _ _ _).mono ?_
                      rintro e W' ⟨rfl, rfl⟩
                      go_wp2_with fail
                      go_roundw
                      case rel => exact ⟨j + 1, by omega, by go_num, by rw [HOR.out], by have := HBJ.out; have := hnz; intro _; have := HBZ.out; omega, trivial⟩
                      case measure => simp [intOf]; omega
                    · have e0 : r = .bad p 4 := by rw [HR.out]; exact if_pos ⟨by omega, by have := HBZ.out; omega⟩
                      go_wp2_with fail
                      refine (need_no _ _ _).mono ?_
                      rintro e W' ⟨rfl, rfl⟩
                      subst e0
                      exact ⟨rfl, HX.out _ HM5.out, rfl⟩
                · have hjn' : j = n := by omega
                  have hr := HR.out
                  rw [if_neg (by rintro ⟨h1, h2⟩; exact hnz (by omega) h2)] at hr
                  have HR := Lib.hid hr
                  have HJN := Lib.hid hjn'
                  clear hr hjn'
                  obtain ⟨kk, hkk⟩ : ∃ kk, kk = numAt s (p + 1) j := ⟨_, rfl⟩
                  rw [← hkk]
                  have HKK := Lib.hid hkk
                  clear hkk
                  go_wp2_with fail
                  have hr := HR.out
                  rw [show numAt s (p + 1) n = kk by rw [HKK.out, HJN.out]] at hr
                  have HR := Lib.hid hr
                  clear hr
                  by_cases hmx : 65535 < kk
                  · have e0 : r = .bad p 4 := by rw [HR.out]; exact if_pos hmx
                    rw [decide_eq_false (by omega : ¬ (kk : Int) ≤ 65535)]
                    refine (need_no _ _ _).mono ?_
                    rintro e W' ⟨rfl, rfl⟩
                    subst e0
                    exact ⟨rfl, HX.out _ HM5.out, rfl⟩
                  · have hr := HR.out
                    rw [if_neg hmx] at hr
                    have HR := Lib.hid hr
                    clear hr
                    rw [decide_eq_true (by omega : (kk : Int) ≤ 65535)]
                    refine (need_ok _ _ _).mono ?_
                    rintro e W' ⟨rfl, rfl⟩
                    have hnot : bits BinOp.xor IntKind.i64 (-1) (kk : Int) = -1 - (kk : Int) := i64_not kk (by omega)
                    have q1 := as_num
                    have q2 := as_word1
                    have q3 := as_word2
                    have q4 := as_row1
                    have q5 := as_row2
                    go_wp2_with fail
                    have hx6 : Below W'.heap.size W' (W'.alloc (.cells #[] 157)) := (Below.refl _ _).alloc (Nat.le_refl _) _
                    obtain ⟨W6, hW6⟩ : ∃ W6, W6 = W'.alloc (.cells #[] 157) := ⟨_, rfl⟩
                    rw [← hW6] at hx6 ⊢
                    clear hW6 q1 q2 q3 q4 q5
                    have hr6 := HRD5.out.kept hx6
                    have hm6 := HM5.out.trans (ModB.of_below hx6)
                    have hr := HR.out
                    rw [if_neg (by have := HK.out; omega), if_neg (by have := HK.out; omega), if_pos HK.out] at hr
                    by_cases hsh3 : s.size < p + 1 + n + kk
                    · refine (bytes_no b s (p + 1 + n) kk W6 hr6 hs (by omega) hsh3 (by omega)).mono ?_
                      rintro e W7 ⟨rfl, _, hm7⟩
                      have e0 : r = .bad s.size 3 := by rw [hr]; exact if_pos hsh3
                      subst e0
                      exact ⟨rfl, HX.out _ (hm6.trans hm7), rfl⟩
                    · rw [if_neg hsh3] at hr
                      refine (bytes_ok b s (p + 1 + n) kk W6 hr6 hs (by omega)).mono ?_
                      rintro e W8 ⟨rfl, hr8, hm8⟩
                      have hm8 := hm6.trans hm8
                      have HR8 := Lib.hid hr8
                      have HM8 := Lib.hid hm8
                      have HRF := Lib.hid hr
                      clear hr8 hm8 hm6 hr6 hr
                      go_wp2_with fail
                      refine (cell_Text.calls (s.extract (p + 1 + n) (p + 1 + n + kk)) 2 0 (s.extract (p + 1 + n) (p + 1 + n + kk)) [] W8 rfl).mono ?_
                      rintro e W7 ⟨v3, rfl, hR7, hbb⟩
                      have hm7 := HM8.out.trans (ModB.of_below hbb)
                      have hr7 := HR8.out.kept hbb
                      obtain ⟨A3, c3, rfl⟩ := R_slice hR7
                      have hg7 := (hm7.block _ (Array.getElem?_eq_some_iff.1 HG1.out).1 (by have := HBL.out; omega)).trans HG1.out
                      have z0 : W7.cell? ⟨w.heap.size, 0, none⟩ = some (.int .i64 0) := by rw [Lib.cell_of_heap hg7]; rfl
                      have z1 : W7.cell? ⟨w.heap.size, 1, none⟩ = some (.int .i64 0) := by rw [Lib.cell_of_heap hg7]; rfl
                      have z2 : W7.cell? ⟨w.heap.size, 2, none⟩ = some (.string (⟨#[]⟩ : ByteArray)) := by rw [Lib.cell_of_heap hg7]; rfl
                      have z3 : W7.cell? ⟨w.heap.size, 3, none⟩ = some (.slice none 0 0) := by rw [Lib.cell_of_heap hg7]; rfl
                      have f0 := Lib.frozen_of_heap hg7 0
                      have f1 := Lib.frozen_of_heap hg7 1
                      have f2 := Lib.frozen_of_heap hg7 2
                      have f3 := Lib.frozen_of_heap hg7 3
                      have HG7 := Lib.hid hg7
                      have HM7 := Lib.hid hm7
                      have HR7 := Lib.hid hr7
                      have HRR := Lib.hid hR7
                      have hsz6 : w.heap.size < W8.heap.size := by have := (Array.getElem?_eq_some_iff.1 HG1.out).1; have := HM8.out.size; omega
                      have HSZ6 := Lib.hid hsz6
                      clear hg7 hm7 hr7 hR7 hbb hx6 hsz6
                      go_wp2_with fail
                      obtain ⟨e1, e2, e3⟩ := fin_cell HBL.out (HX.out _ HM7.out) HR7.out HSZ6.out (Kd.R_mono (Kd.R_bound HRR.out) (fun k hk => by have := HBL.out; have := HSZ6.out; omega)) (.int .i64 2) (.int .i64 0) (.string (s.extract (p + 1 + n) (p + 1 + n + kk))) (.slice A3 0 c3)
                      have e0 : r = .ok ⟨2, 0, s.extract (p + 1 + n) (p + 1 + n + kk), []⟩ (p + 1 + n + kk) := HRF.out
                      refine bodyPost_ret (results_cell_row rfl _ _ w.heap.size 42 #[.int .i64 2, .int .i64 0, .string (s.extract (p + 1 + n) (p + 1 + n + kk)), .slice A3 0 c3] (0, 0) _ rfl (four_put HG7.out _ _ _ _) Tryd.underlying42 rfl (by kernel_rfl)) rfl ?_
                      rw [e0]
                      exact ⟨e1, ⟨_, rfl, e3⟩, e2, by omega, by omega⟩
          · have e0 : r = .bad p 5 := by rw [HR.out]; exact if_pos (by rw [decide_eq_false hd0])
            rw [decide_eq_false hd0]
            refine (need_no _ _ _).mono ?_
            rintro e W' ⟨rfl, rfl⟩
            rw [e0]
            exact ⟨rfl, HX.out _ HM3.out, rfl⟩
      · have hv : firstV c = .iface 166 (.agg #[]) := by unfold firstV; rw [if_neg (by omega), if_neg (by omega), if_neg (by omega), if_pos hk]
        have hmost := most_row
        have hw8 : widthOf (c / 16) = 2 := by rw [hk]; rfl
        have hm8 : mostOf (c / 16) = 4095 := by rw [hk]; rfl
        rw [hv]
        have HMO := Lib.hid hmost
        clear hmost hv
        go_wp2_with fail
        refine (need_ok _ _ _).mono ?_
        rintro e W' ⟨rfl, rfl⟩
        go_wp2_with fail
        refine (HMO.out _).mono ?_
        rintro e W3 ⟨rfl, hb3⟩
        have hr3 := HRD2.out.kept hb3
        have hm3 := HM2.out.trans (ModB.of_below hb3)
        have HRD3 := Lib.hid hr3
        have HM3 := Lib.hid hm3
        have hsz3 := hb3.size
        clear hb3 hr3 hm3 HRD2 HM2 m1 m2 m3
        go_wp2_with fail
        obtain ⟨n, hn⟩ : ∃ n, n = c % 16 := ⟨_, rfl⟩
        rw [show (c : Int) % 16 = (n : Int) by omega]
        have hr := HR3.out
        rw [← hn, hw8, hm8] at hr
        have HR := Lib.hid hr
        have hn16 : n ≤ 15 := by omega
        have HN := Lib.hid hn
        have HW8 := Lib.hid hw8
        have HK := Lib.hid hk
        clear hr HR3 hn hw8 hm8 hk
        by_cases hwd : 2 < n
        · rw [decide_eq_false (by omega : ¬ (n : Int) ≤ 2)]
          refine (need_no _ _ _).mono ?_
          rintro e W' ⟨rfl, rfl⟩
          have e0 : r = .bad p 4 := by rw [HR.out]; exact if_pos hwd
          rw [e0]
          exact ⟨rfl, HX.out _ HM3.out, rfl⟩
        · rw [decide_eq_true (by omega : (n : Int) ≤ 2)]
          have hr := HR.out
          rw [if_neg hwd] at hr
          have HR := Lib.hid hr
          clear hr
          refine (need_ok _ _ _).mono ?_
          rintro e W' ⟨rfl, rfl⟩
          go_wp2_with fail
          by_cases hd0 : 0 < d
          · have hr := HR.out
            rw [if_neg (by rw [decide_eq_true hd0]; decide)] at hr
            have HR := Lib.hid hr
            clear hr
            rw [decide_eq_true hd0]
            refine (need_ok _ _ _).mono ?_
            rintro e W' ⟨rfl, rfl⟩
            go_wp2_with fail
            by_cases hsh2 : s.size < p + 1 + n
            · refine (bytes_no b s (p + 1) n W' HRD3.out hs (by omega) hsh2 (by omega)).mono ?_
              rintro e W4 ⟨rfl, _, hm⟩
              have e0 : r = .bad s.size 3 := by rw [HR.out]; exact if_pos hsh2
              rw [e0]
              exact ⟨rfl, HX.out _ (HM3.out.trans hm), rfl⟩
            · have hr := HR.out
              rw [if_neg hsh2] at hr
              have HR := Lib.hid hr
              clear hr
              refine (bytes_ok b s (p + 1) n W' HRD3.out hs (by omega)).mono ?_
              rintro e W4 ⟨rfl, hr4, hm4⟩
              have hm4 := HM3.out.trans hm4
              have HRD4 := Lib.hid hr4
              have HM4 := Lib.hid hm4
              clear hr4 hm4 HRD3 HM3
              go_wp2_with fail
              rw [Lib.run_convert_string_bytes (P := Tryd.prog) W4 9 90 5 (s.extract (p + 1) (p + 1 + n)) Tryd.underlying9 Tryd.underlying90 Tryd.underlying5]
              simp only [Result.andThen]
              rw [Oper.upon_value]
              have hxs : (s.extract (p + 1) (p + 1 + n)).size = n := by rw [ByteArray.size_extract]; omega
              obtain ⟨W5, hW5⟩ : ∃ W5, W5 = Lib.bytesWorld W4 5 (s.extract (p + 1) (p + 1 + n)) := ⟨_, rfl⟩
              obtain ⟨gc, hgc⟩ : ∃ gc, gc = grownCap W4 (s.extract (p + 1) (p + 1 + n)).size 0 5 := ⟨_, rfl⟩
              obtain ⟨gb, hgb⟩ : ∃ gb, gb = W4.heap.size := ⟨_, rfl⟩
              rw [← hgc, ← hW5, hxs, ← hgb]
              have hb5 : Below W4.heap.size W4 W5 := by rw [hW5]; exact below_bytes _ _ _
              have hcell : ∀ j, j < n → W5.cell? ⟨gb, j, none⟩ = some (.int .u8 (byteAt s (p + 1 + j) : Int)) := fun j hj => by
                rw [hW5, hgb, Lib.bytesWorld_cell _ _ _ _ (by omega), ext_at s (p + 1) n j (by omega) hj]
              have hr5 := HRD4.out.kept hb5
              have hm5 := HM4.out.trans (ModB.of_below hb5)
              have hsz5 := Nat.le_trans (HM4.out.size) hb5.size
              have HCELL := Lib.hid hcell
              have HRD5 := Lib.hid hr5
              have HM5 := Lib.hid hm5
              clear hxs hW5 hgc hb5 hcell hr5 hm5 HRD4 HM4 hgb
              go_wp2_with fail
              go_loopw [11, 52] (fun k i wr => ∃ j : Nat, j ≤ n ∧ i = .int .i64 (j : Int) ∧ k = .int .u64 (numAt s (p + 1) j : Int) ∧ (0 < j → byteAt s (p + 1) ≠ 0) ∧ W5 = wr) (fun _ i _ => n - (intOf i).toNat)
              case atStart => exact ⟨0, Nat.zero_le _, rfl, rfl, fun h => absurd h (by decide), rfl⟩
              case round =>
                obtain ⟨j, hj, rfl, rfl, hnz, rfl⟩ := hrel
                by_cases hjn : j < n
                · have cj := HCELL.out j hjn
                  have hcl := byteAt_lt s (p + 1 + j)
                  have hnl := numAt_lt s (p + 1) j
                  have hor := or_byte s (p + 1) j (by omega)
                  obtain ⟨bj, hbj⟩ : ∃ bj, bj = byteAt s (p + 1 + j) := ⟨_, rfl⟩
                  obtain ⟨nj, hnj⟩ : ∃ nj, nj = numAt s (p + 1) j := ⟨_, rfl⟩
                  rw [← hbj] at cj hcl hor
                  rw [← hnj] at hnl hor ⊢
                  have hnl64 : nj * 256 + 255 < 18446744073709551616 := by
                    have : 256 ^ j ≤ 256 ^ 7 := Nat.pow_le_pow_right (by decide) (by omega)
                    have h7 : (256 : Nat) ^ 7 = 72057594037927936 := by decide
                    omega
                  have HBJ := Lib.hid hbj
                  have HNJ := Lib.hid hnj
                  have HOR := Lib.hid hor
                  clear hbj hnj hor
                  by_cases hj0 : 0 < j
                  · go_wp2_with fail
                    refine (need_ok _ _ _).mono ?_
                    rintro e W' ⟨rfl, rfl⟩
                    go_wp2_with fail
                    go_roundw
                    case rel => exact ⟨j + 1, by omega, by go_num, by rw [HOR.out], by have := HBJ.out; have := hnz; intro _; exact hnz hj0, trivial⟩
                    case measure => simp [intOf]; omega
                  · have hj00 : j = 0 := by omega
                    have hbz : bj = byteAt s (p + 1) := by rw [HBJ.out, hj00, Nat.add_zero]
                    have HBZ := Lib.hid hbz
                    clear hj00 hbz
                    by_cases hb0 : 0 < bj
                    · go_wp2_with fail
                      refine (need_ok _ _ _).mono ?_
                      rintro e W' ⟨rfl, rfl⟩
                      go_wp2_with fail
                      go_roundw
                      case rel => exact ⟨j + 1, by omega, by go_num, by rw [HOR.out], by have := HBJ.out; have := hnz; intro _; have := HBZ.out; omega, trivial⟩
                      case measure => simp [intOf]; omega
                    · have e0 : r = .bad p 4 := by rw [HR.out]; exact if_pos ⟨by omega, by have := HBZ.out; omega⟩
                      go_wp2_with fail
                      refine (need_no _ _ _).mono ?_
                      rintro e W' ⟨rfl, rfl⟩
                      subst e0
                      exact ⟨rfl, HX.out _ HM5.out, rfl⟩
                · have hjn' : j = n := by omega
                  have hr := HR.out
                  rw [if_neg (by rintro ⟨h1, h2⟩; exact hnz (by omega) h2)] at hr
                  have HR := Lib.hid hr
                  have HJN := Lib.hid hjn'
                  clear hr hjn'
                  obtain ⟨kk, hkk⟩ : ∃ kk, kk = numAt s (p + 1) j := ⟨_, rfl⟩
                  rw [← hkk]
                  have HKK := Lib.hid hkk
                  clear hkk
                  go_wp2_with fail
                  have hr := HR.out
                  rw [show numAt s (p + 1) n = kk by rw [HKK.out, HJN.out]] at hr
                  have HR := Lib.hid hr
                  clear hr
                  by_cases hmx : 4095 < kk
                  · have e0 : r = .bad p 4 := by rw [HR.out]; exact if_pos hmx
                    rw [decide_eq_false (by omega : ¬ (kk : Int) ≤ 4095)]
                    refine (need_no _ _ _).mono ?_
                    rintro e W' ⟨rfl, rfl⟩
                    subst e0
                    exact ⟨rfl, HX.out _ HM5.out, rfl⟩
                  · have hr := HR.out
                    rw [if_neg hmx] at hr
                    have HR := Lib.hid hr
                    clear hr
                    rw [decide_eq_true (by omega : (kk : Int) ≤ 4095)]
                    refine (need_ok _ _ _).mono ?_
                    rintro e W' ⟨rfl, rfl⟩
                    have hnot : bits BinOp.xor IntKind.i64 (-1) (kk : Int) = -1 - (kk : Int) := i64_not kk (by omega)
                    have q1 := as_num
                    have q2 := as_word1
                    have q3 := as_word2
                    have q4 := as_row1
                    have q5 := as_row2
                    go_wp2_with fail
                    clear q1 q2 q3 q4 q5 hnot
                    have hx6 : Below W'.heap.size W' (W'.alloc (.cells #[.int .i64 3, .int .i64 0, .string (⟨#[]⟩ : ByteArray), .slice none 0 0] 42)) := (Below.refl _ _).alloc (Nat.le_refl _) _
                    have hblk := heap_alloc_last W' (.cells #[.int .i64 3, .int .i64 0, .string (⟨#[]⟩ : ByteArray), .slice none 0 0] 42)
                    obtain ⟨W6, hW6⟩ : ∃ W6, W6 = W'.alloc (.cells #[.int .i64 3, .int .i64 0, .string (⟨#[]⟩ : ByteArray), .slice none 0 0] 42) := ⟨_, rfl⟩
                    rw [← hW6] at hx6 hblk ⊢
                    obtain ⟨gO, hgO⟩ : ∃ gO, gO = W'.heap.size := ⟨_, rfl⟩
                    rw [← hgO] at hblk ⊢
                    have hout : OutAt W1 b gO s (.slice none 0 0) [] (p + 1 + n) W6 := ⟨HM5.out.trans (ModB.of_below hx6), by rw [hgO]; exact HM5.out.size, by have := (Array.getElem?_eq_some_iff.1 HG1.out).1; have := HBL.out; omega, hblk, Kd.R_nil _ _ _ _ _, HRD5.out.kept hx6⟩
                    have hr := HR.out
                    rw [if_neg (by have := HK.out; omega), if_neg (by have := HK.out; omega), if_neg (by have := HK.out; omega)] at hr
                    have hgw : w.heap.size < gO := by have := (Array.getElem?_eq_some_iff.1 HG1.out).1; have := HM5.out.size; omega
                    have HRF := Lib.hid hr
                    have HO := Lib.hid hout
                    have HGW := Lib.hid hgw
                    clear hr hout hW6 hx6 hblk hgO hgw HM5 HRD5 HCELL
                    go_loopw [100] (fun i wr => ∃ (m : Nat) (v : Value) (acc : List S42) (q : Nat), m ≤ kk ∧ i = .int .i64 (m : Int) ∧ acc.length = m ∧ OutAt W1 b gO s v acc q wr ∧ p + 1 + n ≤ q ∧ q ≤ s.size ∧ manyW g (kk - m) q acc = manyW g kk (p + 1 + n) []) (fun i _ => kk - (intOf i).toNat)
                    case atStart => exact ⟨0, _, [], p + 1 + n, Nat.zero_le _, rfl, rfl, HO.out, Nat.le_refl _, by omega, rfl⟩
                    case round =>
                      obtain ⟨m, v, acc, q, hm, rfl, hal, hout, hq1, hq2, hman⟩ := hrel
                      by_cases hmk : m < kk
                      · rw [show kk - m = (kk - (m + 1)) + 1 by omega, manyW] at hman
                        obtain ⟨A, cp, rfl⟩ := R_slice hout.row
                        have hcall := HIH.out hd0 q
                        have c3 : wr.cell? ⟨gO, 3, none⟩ = some (.slice A acc.length cp) := by rw [Lib.cell_of_heap hout.blk]; rfl
                        cases hgq : g q with
                        | bad p' e' =>
                          rw [hgq] at hcall hman
                          have e0 : r = .bad p' e' := by rw [HRF.out, ← hman]
                          have HCALL := Lib.hid (hcall wr.drew hout.rd hq2)
                          have HMW := Lib.hid hout.mod
                          clear hcall hman hgq hal hout HRF HR
                          subst e0
                          go_wp2_with fail
                          refine' wp_region_factsP (S := (fun _ W => W = wr.drew)) (fun _ => ModB b) [eqM (.pointer (some ⟨gO, 3, none⟩)), eqM (.slice A acc.length cp), eqM (.pointer (some ⟨b, 0, none⟩)), eqM (.int .i64 (d : Int)), eqM (.int .i64 ((d : Int) - 1)), badM, badM, eqM undef] (by kernel_rfl) (by kernel_rfl) ?hst ?h0 (Ord.stepsP_cons ?s0 (Ord.stepsP_cons ?s1 (Ord.stepsP_cons ?s2 (Ord.stepsP_cons ?s3 (Ord.stepsP_cons ?s4 (Ord.stepsP_bad ?s5 (Ord.stepsP_bad ?s6 (Ord.stepsP_cons ?s7 (Ord.stepsP_nil))))))))) ?fin
                          case s0 =>
                            intro g W L hL hSW hd
                            try simp only [Nat.zero_add, Nat.reduceAdd] at hd ⊢
                            with_reducible refine OpGives.pre_reads [] 113 ?_ ?_ ?_
                            · rfl
                            · kernel_rfl
                            simp only [List.map_cons, List.map_nil]
                            subst hSW; refine OpGives.val (v := .pointer (some ⟨gO, 3, none⟩)) (w' := wr.drew) ?_ ⟨ModB.refl b _, rfl, rfl⟩; go_simp
                          case s1 =>
                            intro g W L hL hSW hd
                            try simp only [Nat.zero_add, Nat.reduceAdd] at hd ⊢
                            have h0 : g 0 = _ := hd 0 (by decide) (by kernel_rfl)
                            with_reducible refine OpGives.pre_reads [(102, 0)] 113 ?_ ?_ ?_
                            · rfl
                            · kernel_rfl
                            simp only [List.map_cons, List.map_nil]
                            subst hSW; refine OpGives.val (v := .slice A acc.length cp) (w' := wr.drew) ?_ ⟨ModB.refl b _, rfl, rfl⟩; go_simp
                          case s2 =>
                            intro g W L hL hSW hd
                            try simp only [Nat.zero_add, Nat.reduceAdd] at hd ⊢
                            with_reducible refine OpGives.pre_reads [] 113 ?_ ?_ ?_
                            · rfl
                            · kernel_rfl
                            simp only [List.map_cons, List.map_nil]
                            refine OpGives.val (w' := W) ?_ ⟨ModB.refl b _, rfl, hSW⟩
                            go_simp
                            try with_reducible rfl
                          case s3 =>
                            intro g W L hL hSW hd
                            try simp only [Nat.zero_add, Nat.reduceAdd] at hd ⊢
                            with_reducible refine OpGives.pre_reads [] 113 ?_ ?_ ?_
                            · rfl
                            · kernel_rfl
                            simp only [List.map_cons, List.map_nil]
                            refine OpGives.val (w' := W) ?_ ⟨ModB.refl b _, rfl, hSW⟩
                            go_simp
                            try with_reducible rfl
                          case s4 =>
                            intro g W L hL hSW hd
                            try simp only [Nat.zero_add, Nat.reduceAdd] at hd ⊢
                            have h3 : g 3 = _ := hd 3 (by decide) (by kernel_rfl)
                            with_reducible refine OpGives.pre_reads [(105, 3)] 113 ?_ ?_ ?_
                            · rfl
                            · kernel_rfl
                            simp only [List.map_cons, List.map_nil]
                            subst hSW; refine OpGives.val (v := .int .i64 ((d : Int) - 1)) (w' := wr.drew) ?_ ⟨ModB.refl b _, rfl, rfl⟩; go_simp; rw [IntKind.wrap_i64]; omega
                          case s5 =>
                            intro g W L hL hSW hd
                            try simp only [Nat.zero_add, Nat.reduceAdd] at hd ⊢
                            have h2 : g 2 = _ := hd 2 (by decide) (by kernel_rfl)
                            have h4 : g 4 = _ := hd 4 (by decide) (by kernel_rfl)
                            with_reducible refine OpBad.pre_reads [(104, 2), (106, 4)] 113 ?_ ?_ ?_
                            · rfl
                            · kernel_rfl
                            simp only [List.map_cons, List.map_nil]
                            subst hSW; refine OpBad.call (f := 66) (args := #[.pointer (some ⟨b, 0, none⟩), .int .i64 ((d : Int) - 1)]) (w' := wr.drew) (by go_simp) (HCALL.out.mono fun e w9 he => ⟨_, he.2, fun a ha => ⟨ha, HX.out _ (HMW.out.trans ((ModB.refl b _).drew.trans he.1)), rfl⟩⟩)
                          case s6 =>
                            intro g W L hL hSW hd
                            try simp only [Nat.zero_add, Nat.reduceAdd] at hd ⊢
                            have h5 := hd 5 (by decide) (by kernel_rfl)
                            change (badM) (g 5) W at h5
                            with_reducible refine OpBad.pre_reads [(107, 5)] 113 ?_ ?_ ?_
                            · rfl
                            · kernel_rfl
                            simp only [List.map_cons, List.map_nil]
                            exact h5.elim
                          case s7 =>
                            intro g W L hL hSW hd
                            try simp only [Nat.zero_add, Nat.reduceAdd] at hd ⊢
                            have h1 : g 1 = _ := hd 1 (by decide) (by kernel_rfl)
                            have h6 := hd 6 (by decide) (by kernel_rfl)
                            change (badM) (g 6) W at h6
                            with_reducible refine OpGives.pre_reads [(103, 1), (108, 6)] 113 ?_ ?_ ?_
                            · rfl
                            · kernel_rfl
                            simp only [List.map_cons, List.map_nil]
                            exact h6.elim
                          case hst => exact facts_bad
                          case h0 => rfl
                          case fin => exact fun v W L hL hSW hf => (hf 5 (Nat.lt_of_lt_of_eq (by decide : 5 < 8) rfl)).elim
                        | ok x q' =>
                          rw [hgq] at hcall hman
                          have hvl : ∀ k, (Value.slice A acc.length cp).ownBlock = some k → k < wr.heap.size := fun k hk => (own_lt_R hout.row k hk).2.2
                          have hvg : ∀ k, (Value.slice A acc.length cp).ownBlock = some k → gO < k := fun k hk => (own_lt_R hout.row k hk).1
                          have hgl : gO < wr.heap.size := (Array.getElem?_eq_some_iff.1 hout.blk).1
                          have hbl2 : b < wr.heap.size := Nat.lt_of_lt_of_le hout.lt (Nat.le_trans hout.ge (Nat.le_of_lt hgl))
                          have hbg : b ≠ gO := by have := hout.lt; have := hout.ge; omega
                          have hin : InR wr b gO s (.slice A acc.length cp) acc q q' (fun _ => false) wr.drew := ⟨ModV.drew, fun _ => Kd.R_below hout.row ((Below.refl _ _).drew), fun _ => hout.rd, fun e => (by cases e)⟩
                          have hq'2 : q ≤ q' ∧ q' ≤ s.size ∨ True := .inr trivial
                          have HC := Lib.hid (fun W (hrd : RdAt b s q W) => hcall W hrd hq2)
                          have HIN := Lib.hid hin
                          have HVL := Lib.hid hvl
                          have HVG := Lib.hid hvg
                          have HGL := Lib.hid hgl
                          have HBL2 := Lib.hid hbl2
                          have HBG := Lib.hid hbg
                          have HOUT := Lib.hid hout
                          have HMAN := Lib.hid hman
                          have HAL := Lib.hid hal
                          clear hcall hman hgq hal hout hvl hvg hgl hbl2 hbg hin hq'2
                          go_wp2_with fail
                          refine' wp_region_factsM (S := (InR wr b gO s (.slice A acc.length cp) acc q q')) (Rr b (.slice A acc.length cp)) [eqM (.pointer (some ⟨gO, 3, none⟩)), eqM (.slice A acc.length cp), eqM (.pointer (some ⟨b, 0, none⟩)), eqM (.int .i64 (d : Int)), eqM (.int .i64 ((d : Int) - 1)), childP b (.slice A acc.length cp) x wr.heap.size, litP b (.slice A acc.length cp) x wr.heap.size, rowP b gO (acc ++ [x])] (by kernel_rfl) (by kernel_rfl) ?hst ?h0 (Ord.stepsM_cons ?s0 (Ord.stepsM_cons ?s1 (Ord.stepsM_cons ?s2 (Ord.stepsM_cons ?s3 (Ord.stepsM_cons ?s4 (Ord.stepsM_cons ?s5 (Ord.stepsM_cons ?s6 (Ord.stepsM_cons ?s7 (Ord.stepsM_nil))))))))) ?fin
                          case s0 =>
                            intro g W L hL hSW hd
                            try simp only [Nat.zero_add, Nat.reduceAdd] at hd ⊢
                            with_reducible refine OpGives.pre_reads [] 113 ?_ ?_ ?_
                            · rfl
                            · kernel_rfl
                            simp only [List.map_cons, List.map_nil]
                            refine OpGives.val (v := .pointer (some ⟨gO, 3, none⟩)) (w' := W) ?_ ⟨Rr.of_B (by decide) (ModB.refl b _), rfl, hSW⟩; go_simp
                          case s1 =>
                            intro g W L hL hSW hd
                            try simp only [Nat.zero_add, Nat.reduceAdd] at hd ⊢
                            have h0 : g 0 = _ := hd 0 (by decide) (by kernel_rfl)
                            with_reducible refine OpGives.pre_reads [(102, 0)] 113 ?_ ?_ ?_
                            · rfl
                            · kernel_rfl
                            simp only [List.map_cons, List.map_nil]
                            have c1 : W.cell? ⟨gO, 3, none⟩ = some (.slice A acc.length cp) := (by rw [Lib.cell_of_heap ((hSW.1.block gO HGL.out (Ne.symm HBG.out) (fun e => Nat.lt_irrefl _ (HVG.out _ e))).trans HOUT.out.blk)]; rfl); refine OpGives.val (v := .slice A acc.length cp) (w' := W) ?_ ⟨Rr.of_B (by decide) (ModB.refl b _), rfl, hSW⟩; go_simp
                          case s2 =>
                            intro g W L hL hSW hd
                            try simp only [Nat.zero_add, Nat.reduceAdd] at hd ⊢
                            with_reducible refine OpGives.pre_reads [] 113 ?_ ?_ ?_
                            · rfl
                            · kernel_rfl
                            simp only [List.map_cons, List.map_nil]
                            refine OpGives.val (w' := W) ?_ ⟨Rr.of_B (by decide) (ModB.refl b _), rfl, hSW⟩
                            go_simp
                            try with_reducible rfl
                          case s3 =>
                            intro g W L hL hSW hd
                            try simp only [Nat.zero_add, Nat.reduceAdd] at hd ⊢
                            with_reducible refine OpGives.pre_reads [] 113 ?_ ?_ ?_
                            · rfl
                            · kernel_rfl
                            simp only [List.map_cons, List.map_nil]
                            refine OpGives.val (w' := W) ?_ ⟨Rr.of_B (by decide) (ModB.refl b _), rfl, hSW⟩
                            go_simp
                            try with_reducible rfl
                          case s4 =>
                            intro g W L hL hSW hd
                            try simp only [Nat.zero_add, Nat.reduceAdd] at hd ⊢
                            have h3 : g 3 = _ := hd 3 (by decide) (by kernel_rfl)
                            with_reducible refine OpGives.pre_reads [(105, 3)] 113 ?_ ?_ ?_
                            · rfl
                            · kernel_rfl
                            simp only [List.map_cons, List.map_nil]
                            refine OpGives.val (v := .int .i64 ((d : Int) - 1)) (w' := W) ?_ ⟨Rr.of_B (by decide) (ModB.refl b _), rfl, hSW⟩; go_simp; rw [IntKind.wrap_i64]; omega
                          case s5 =>
                            intro g W L hL hSW hd
                            try simp only [Nat.zero_add, Nat.reduceAdd] at hd ⊢
                            have h2 : g 2 = _ := hd 2 (by decide) (by kernel_rfl)
                            have h4 : g 4 = _ := hd 4 (by decide) (by kernel_rfl)
                            with_reducible refine OpGives.pre_reads [(104, 2), (106, 4)] 113 ?_ ?_ ?_
                            · rfl
                            · kernel_rfl
                            simp only [List.map_cons, List.map_nil]
                            refine OpGives.call (f := 66) (args := #[.pointer (some ⟨b, 0, none⟩), .int .i64 ((d : Int) - 1)]) (w' := W) (by go_simp) ((HC.out W (hSW.2.2.1 hL)).mono fun e w9 hp => call_post hSW HBL2.out HVL.out hp)
                          case s6 =>
                            intro g W L hL hSW hd
                            try simp only [Nat.zero_add, Nat.reduceAdd] at hd ⊢
                            have h5 := hd 5 (by decide) (by kernel_rfl)
                            change (childP b (.slice A acc.length cp) x wr.heap.size) (g 5) W at h5
                            with_reducible refine OpGives.pre_reads [(107, 5)] 113 ?_ ?_ ?_
                            · rfl
                            · kernel_rfl
                            simp only [List.map_cons, List.map_nil]
                            obtain ⟨v3, e5, hR5⟩ := h5; obtain ⟨A3, c3', rfl⟩ := R_slice hR5; rw [e5]; refine OpGives.val (v := .slice (some ⟨W.heap.size, 0, none⟩) 1 1) (w' := W.alloc (.cells #[.int .i64 x.f0, .int .i64 x.f1, .string x.f2, .slice A3 x.f3.length c3'] 42)) ?_ (lit_post hSW HBL2.out HVL.out rfl hR5); go_simp
                          case s7 =>
                            intro g W L hL hSW hd
                            try simp only [Nat.zero_add, Nat.reduceAdd] at hd ⊢
                            have h1 : g 1 = _ := hd 1 (by decide) (by kernel_rfl)
                            have h6 := hd 6 (by decide) (by kernel_rfl)
                            change (litP b (.slice A acc.length cp) x wr.heap.size) (g 6) W at h6
                            with_reducible refine OpGives.pre_reads [(103, 1), (108, 6)] 113 ?_ ?_ ?_
                            · rfl
                            · kernel_rfl
                            simp only [List.map_cons, List.map_nil]
                            obtain ⟨v', W', hr, hg, hrow, hS'⟩ := append_cell hSW hL HBL2.out HGL.out HGL.out (fun k hk => Nat.lt_of_lt_of_le HGL.out hk) h6 (by have := HAL.out; omega) 40; rw [← h1] at hr; exact OpGives.val (v := v') (w' := W') (exec_append _ _ _ rfl hr) ⟨Rr.of_grown hg, hrow, hS'⟩
                          case hst => exact facts_st
                          case h0 => exact HIN.out
                          case fin =>
                            intro v W L hL hSW hf
                            have h0 : v 0 = _ := hf 0 (Nat.lt_of_lt_of_eq (by decide : 0 < 8) rfl)
                            have h7 : rowP b gO (acc ++ [x]) (v 7) W := hf 7 (Nat.lt_of_lt_of_eq (by decide : 7 < 8) rfl)
                            clear hf
                            have hrd := hSW.2.2.2 (hL 5 (Nat.lt_of_lt_of_eq (by decide : 5 < 8) rfl))
                            have hmv := hSW.1
                            generalize hF : Ord.pre _ _ v _ = F
                            rw [Ord.pre_lit [some 102, some 103, some 104, some 105, some 106, some 107, some 108, some 109]
                              (by kernel_rfl)] at hF
                            simp only [Ord.puts, Nat.zero_add, Nat.reduceAdd] at hF
                            subst hF
                            obtain ⟨A7, c7, e7⟩ := R_slice h7
                            rw [e7] at h7 ⊢
                            have hblk := (hmv.block gO HGL.out (Ne.symm HBG.out) (fun e => Nat.lt_irrefl _ (HVG.out _ e))).trans HOUT.out.blk
                            have hdone := out_step HOUT.out hmv h7 hrd.1
                            have d3 : W.cell? ⟨gO, 3, none⟩ = some (.slice A acc.length cp) := by rw [Lib.cell_of_heap hblk]; rfl
                            have f3 := Lib.frozen_of_heap hblk 3
                            have hq12 := hrd.2
                            have HD := Lib.hid hdone
                            clear hblk hdone hmv hrd h7 e7 hSW hL
                            rw [h0]
                            clear h0
                            refine any_one (i := 8) (by kernel_rfl) ?_
                            refine wpOp_value (v := .pointer (some ⟨gO, 3, none⟩)) (w' := W) rfl rfl (by go_simp) ?_
                            refine any_one (i := 9) (by kernel_rfl) ?_
                            refine wpOp_skip (w' := W.setCell ⟨gO, 3, none⟩ (.slice A7 (acc ++ [x]).length c7)) rfl rfl (by go_simp) ?_
                            refine wpAny_done (by kernel_rfl) ?_ _
                            try simp only [List.getElem_toArray, List.getElem_cons_succ, List.getElem_cons_zero]
                            go_frame
                            clear d3 f3 c3
                            generalize W.setCell ⟨gO, 3, none⟩ (.slice A7 (acc ++ [x]).length c7) = W8 at *
                            go_wp2_with fail
                            go_roundw
                            case rel => exact ⟨m + 1, _, acc ++ [x], q', by omega, by go_num, by have := HAL.out; simp; omega, HD.out, by omega, hq12.2, HMAN.out⟩
                            case measure => simp [intOf]; omega
                      · have hmk' : m = kk := by omega
                        rw [hmk', Nat.sub_self, manyW] at hman
                        have e0 : r = .ok ⟨3, 0, ⟨#[]⟩, acc⟩ q := by rw [HRF.out, ← hman]
                        obtain ⟨A, cp, rfl⟩ := R_slice hout.row
                        have hg7 := (hout.mod.block _ (Array.getElem?_eq_some_iff.1 HG1.out).1 (by have := HBL.out; omega)).trans HG1.out
                        have z0 : wr.cell? ⟨w.heap.size, 0, none⟩ = some (.int .i64 0) := by rw [Lib.cell_of_heap hg7]; rfl
                        have z1 : wr.cell? ⟨w.heap.size, 1, none⟩ = some (.int .i64 0) := by rw [Lib.cell_of_heap hg7]; rfl
                        have z2 : wr.cell? ⟨w.heap.size, 2, none⟩ = some (.string (⟨#[]⟩ : ByteArray)) := by rw [Lib.cell_of_heap hg7]; rfl
                        have z3 : wr.cell? ⟨w.heap.size, 3, none⟩ = some (.slice none 0 0) := by rw [Lib.cell_of_heap hg7]; rfl
                        have f0 := Lib.frozen_of_heap hg7 0
                        have f1 := Lib.frozen_of_heap hg7 1
                        have f2 := Lib.frozen_of_heap hg7 2
                        have f3 := Lib.frozen_of_heap hg7 3
                        have y0 : wr.cell? ⟨gO, 0, none⟩ = some (.int .i64 3) := by rw [Lib.cell_of_heap hout.blk]; rfl
                        have y1 : wr.cell? ⟨gO, 1, none⟩ = some (.int .i64 0) := by rw [Lib.cell_of_heap hout.blk]; rfl
                        have y2 : wr.cell? ⟨gO, 2, none⟩ = some (.string (⟨#[]⟩ : ByteArray)) := by rw [Lib.cell_of_heap hout.blk]; rfl
                        have y3 : wr.cell? ⟨gO, 3, none⟩ = some (.slice A acc.length cp) := by rw [Lib.cell_of_heap hout.blk]; rfl
                        have HG7 := Lib.hid hg7
                        have HOUT := Lib.hid hout
                        clear hg7 hout hman hmk' HRF HR hal
                        subst e0
                        go_wp2_with fail
                        obtain ⟨e1, e2, e3⟩ := fin_cell HBL.out (HX.out _ HOUT.out.mod) HOUT.out.rd (Nat.lt_succ_of_lt HGW.out) (Kd.R_mono HOUT.out.row (fun k hk => hk.1)) (.int .i64 3) (.int .i64 0) (.string (⟨#[]⟩ : ByteArray)) (.slice A acc.length cp)
                        refine bodyPost_ret (results_cell_row rfl _ _ w.heap.size 42 #[.int .i64 3, .int .i64 0, .string (⟨#[]⟩ : ByteArray), .slice A acc.length cp] (0, 0) _ rfl (four_put HG7.out _ _ _ _) Tryd.underlying42 rfl (by kernel_rfl)) rfl ?_
                        exact ⟨e1, ⟨_, rfl, e3⟩, e2, by omega, hq2⟩
          · have e0 : r = .bad p 5 := by rw [HR.out]; exact if_pos (by rw [decide_eq_false hd0])
            rw [decide_eq_false hd0]
            refine (need_no _ _ _).mono ?_
            rintro e W' ⟨rfl, rfl⟩
            rw [e0]
            exact ⟨rfl, HX.out _ HM3.out, rfl⟩
/-- The reader's cell, to any depth that is asked. -/
theorem cell_calls (s : ByteArray) (hs : s.size ≤ 140737488355328) (b : Nat) : ∀ (d : Nat), d ≤ 40 → ∀ (p : Nat) (w : World), RdAt b s p w → p ≤ s.size →
    Calls Tryd.prog 66 #[.pointer (some ⟨b, 0, none⟩), .int .i64 (d : Int)] w (CellPost (cellD s d p) b s p w)
  | 0, _, p, w, h, hp => by
    have := cell_step 0 (by decide) s hs b (fun _ => .bad 0 0) (fun h0 => absurd h0 (by decide)) p w h hp
    rw [show decide (0 < 0) = false by rfl] at this
    exact this
  | d + 1, hd, p, w, h, hp => by
    have ih := cell_calls s hs b d (by omega)
    have := cell_step (d + 1) hd s hs b (cellD s d) (fun _ p w h hp => by
      rw [show (((d + 1 : Nat) : Int) - 1) = (d : Int) by omega]
      exact ih p w h hp) p w h hp
    rw [show decide (0 < d + 1) = true by simp] at this
    exact this
end Go.Proofs.YtgjlchcfdbmmlaaDoor.PObjectTakes
namespace Go.Proofs.YtgjlchcfdbmmlaaDoor.PObjectTakes
open Go.RowKit Go.Proofs.YtgjlchcfdbmmlaaDoor.Ord Go.Proofs.YtgjlchcfdbmmlaaDoorW.PrintWords Go.Proofs.YtgjlchcfdbmmlaaDoorW.PrintLast Go.Proofs.YtgjlchcfdbmmlaaDoorW.PrintMore
attribute [local irreducible] OpGives
attribute [local go_sem] rdl_const rdl_func rdl_global rdl_nil rdl_cons

/-- The three results hold what the panic told; of the rest nothing has turned. -/
structure Caught (c t f : Nat) (p e0 : Int) (w w' : World) : Prop where
  os : w'.os = w.os
  tape : w'.tape = w.tape
  output : w'.output = w.output
  size : w.heap.size ≤ w'.heap.size
  block : ∀ k, k < w.heap.size → k ≠ c → k ≠ t → k ≠ f → w'.heap[k]? = w.heap[k]?
  cc : w'.heap[c]? = some (.cells #[.int .i64 0, .int .i64 0, .string (⟨#[]⟩ : ByteArray), .slice none 0 0] 42 (0, 0))
  ct : w'.heap[t]? = some (.cells #[.int .i64 p] 3 (0, 0))
  cf : w'.heap[f]? = some (.cells #[.int .i64 e0] 30 (0, 0))
/-- Four cells of a block written. -/
def put4 (W : World) (g : Nat) (a b c d : Value) : World := (((W.setCell ⟨g, 0, none⟩ a).setCell ⟨g, 1, none⟩ b).setCell ⟨g, 2, none⟩ c).setCell ⟨g, 3, none⟩ d
theorem put4_same {W : World} {g : Nat} {ty : TypeId} {a b c d : Value} (h : W.heap[g]? = some (.cells #[a, b, c, d] ty (0, 0))) (a' b' c' d' : Value) : (put4 W g a' b' c' d').heap[g]? = some (.cells #[a', b', c', d'] ty (0, 0)) := four_put h a' b' c' d'
theorem set_far (W : World) (k b j : Nat) (v : Value) (h : k ≠ b) : (W.setCell ⟨b, j, none⟩ v).heap[k]? = W.heap[k]? := Below.heap_setCell W ⟨b, j, none⟩ v k h
theorem put4_far {W : World} {g k : Nat} (h : k ≠ g) (a b c d : Value) : (put4 W g a b c d).heap[k]? = W.heap[k]? := by
  unfold put4
  rw [set_far _ _ _ _ _ h, set_far _ _ _ _ _ h, set_far _ _ _ _ _ h, set_far _ _ _ _ _ h]
theorem put4_size (W : World) (g : Nat) (a b c d : Value) : (put4 W g a b c d).heap.size = W.heap.size := by simp [put4, World.setCell]
/-- The closure's stores. -/
def caughtW (c t f : Nat) (p e0 : Int) (W : World) : World := World.setCell (World.setCell (put4 W c (.int .i64 0) (.int .i64 0) (.string (⟨#[]⟩ : ByteArray)) (.slice none 0 0)) ⟨t, 0, none⟩ (.int .i64 p)) ⟨f, 0, none⟩ (.int .i64 e0)
theorem caught_of {c t f : Nat} {p e0 : Int} {a0 a1 a2 a3 b0 d0 : Value} {w W1 : World} (hct : c ≠ t) (hcf : c ≠ f) (htf : t ≠ f) (hn : Below w.heap.size w W1)
    (hc : W1.heap[c]? = some (.cells #[a0, a1, a2, a3] 42 (0, 0))) (ht : W1.heap[t]? = some (.cells #[b0] 3 (0, 0))) (hf : W1.heap[f]? = some (.cells #[d0] 30 (0, 0))) : Caught c t f p e0 w (caughtW c t f p e0 W1) := by
  obtain ⟨W2, hW2⟩ : ∃ W2, W2 = put4 W1 c (.int .i64 0) (.int .i64 0) (.string (⟨#[]⟩ : ByteArray)) (.slice none 0 0) := ⟨_, rfl⟩
  have h4 : W2.heap[c]? = some (.cells #[.int .i64 0, .int .i64 0, .string (⟨#[]⟩ : ByteArray), .slice none 0 0] 42 (0, 0)) := by rw [hW2]; exact put4_same hc _ _ _ _
  have far : ∀ k, k ≠ c → W2.heap[k]? = W1.heap[k]? := fun k hk => by rw [hW2]; exact put4_far hk _ _ _ _
  have hsz : W2.heap.size = W1.heap.size := by rw [hW2]; exact put4_size _ _ _ _ _ _
  have hos : W2.os = W1.os := by rw [hW2]; rfl
  have htp : W2.tape = W1.tape := by rw [hW2]; rfl
  have hou : W2.output = W1.output := by rw [hW2]; rfl
  have t1 := (far t (Ne.symm hct)).trans ht
  have f1 := (far f (Ne.symm hcf)).trans hf
  obtain ⟨W3, hW3⟩ : ∃ W3, W3 = W2.setCell ⟨t, 0, none⟩ (.int .i64 p) := ⟨_, rfl⟩
  have hfin : caughtW c t f p e0 W1 = W3.setCell ⟨f, 0, none⟩ (.int .i64 e0) := by rw [hW3, hW2]; rfl
  have t3 : W3.heap[t]? = some (.cells #[.int .i64 p] 3 (0, 0)) := by rw [hW3]; exact blk_put (cs := #[b0]) t1 0 _ rfl
  have far3 : ∀ k, k ≠ t → W3.heap[k]? = W2.heap[k]? := fun k hk => by rw [hW3]; exact set_far _ _ _ _ _ hk
  have hs3 : W3.heap.size = W1.heap.size := by rw [hW3, ← hsz]; simp [World.setCell]
  rw [hfin]
  refine ⟨?_, ?_, ?_, ?_, fun k hk h1 h2 h3 => ?_, ?_, ?_, ?_⟩
  · show W3.os = _; rw [hW3]; show W2.os = _; rw [hos]; exact hn.os
  · show W3.tape = _; rw [hW3]; show W2.tape = _; rw [htp]; exact hn.tape
  · show W3.output = _; rw [hW3]; show W2.output = _; rw [hou]; exact hn.output
  · have := hn.size
    simp only [World.setCell, Array.size_modify]; omega
  · rw [set_far _ _ _ _ _ h3, far3 k h2, far k h1]; exact hn.block k hk
  · rw [set_far _ _ _ _ _ hcf, far3 c hct]; exact h4
  · rw [set_far _ _ _ _ _ htf]; exact t3
  · exact blk_put (cs := #[d0]) ((far3 f (Ne.symm htf)).trans f1) 0 _ rfl
theorem Caught.drew {c t f : Nat} {p e0 : Int} {w W : World} (h : Caught c t f p e0 w W) : Caught c t f p e0 w W.drew := ⟨h.os, h.tape, h.output, h.size, h.block, h.cc, h.ct, h.cf⟩
theorem as_wrong (v : Value) (W : World) : (Instr.typeAssert (.iface 132 v) 20 132 false).run Tryd.prog W = .ok v W := by kernel_rfl
set_option maxHeartbeats 4000000 in
set_option maxRecDepth 100000 in
theorem catch_idle (v0 v1 v2 : Value) (w : World) :
    CallsD Tryd.prog 65 #[v0, v1, v2] .returning w fun e u' w' => e = .returned (.tuple #[]) ∧ u' = .returning ∧ w' = w := by
  refine callsD_of_wpS Tryd.func65 rfl fun c₀ cs hu => ?_
  apply wpS_seq
  apply wpS_region
  simp [wpOpsS, go_sem, recoverD, hu, Tryd.ntmps65, Exit.thenS]
  rw [show (#[v0, v1, v2] ++ ((Array.replicate 12 undef).setIfInBounds 2 Value.nilIface).setIfInBounds 0 Value.nilIface) = #[v0, v1, v2, .nilIface, undef, .nilIface, undef, undef, undef, undef, undef, undef, undef, undef, undef] from rfl]
  refine wpS_of_wp ?_
  go_wp2
  cases c₀
  simp_all [bodyPostS, results, Tryd.results65]

set_option maxHeartbeats 4000000 in
set_option maxRecDepth 100000 in
theorem catch_wrong (c t f : Nat) (p e0 : Int) (older : List PanicEntry) (a0 a1 a2 a3 b0 d0 : Value) (w : World) (hct : c ≠ t) (hcf : c ≠ f) (htf : t ≠ f)
    (hc : w.heap[c]? = some (.cells #[a0, a1, a2, a3] 42 (0, 0))) (ht : w.heap[t]? = some (.cells #[b0] 3 (0, 0))) (hf : w.heap[f]? = some (.cells #[d0] 30 (0, 0))) :
    CallsD Tryd.prog 65 #[.pointer (some ⟨c, 0, none⟩), .pointer (some ⟨t, 0, none⟩), .pointer (some ⟨f, 0, none⟩)] (.panicking ({ v := .iface 132 (.agg #[.int .i64 p, .int .i64 e0]), recovered := false } :: older)) w fun e u' w' =>
      e = .returned (.tuple #[]) ∧ u' = .panicking ({ v := .iface 132 (.agg #[.int .i64 p, .int .i64 e0]), recovered := true } :: older) ∧ Caught c t f p e0 w w' := by
  have q1 := as_wrong
  refine callsD_of_wpS Tryd.func65 rfl fun c₀ cs hu => ?_
  apply wpS_seq
  apply wpS_region
  simp [wpOpsS, go_sem, recoverD, hu, Tryd.ntmps65, Exit.thenS]
  rw [show ∀ (v0 v1 v2 v : Value), (#[v0, v1, v2] ++ ((Array.replicate 12 undef).setIfInBounds 2 v).setIfInBounds 0 v) = #[v0, v1, v2, v, undef, v, undef, undef, undef, undef, undef, undef, undef, undef, undef] from fun _ _ _ _ => rfl]
  refine wpS_of_wp ?_
  have n1 : c < w.heap.size := (Array.getElem?_eq_some_iff.1 hc).1
  have n2 : t < w.heap.size := (Array.getElem?_eq_some_iff.1 ht).1
  have n3 : f < w.heap.size := (Array.getElem?_eq_some_iff.1 hf).1
  obtain ⟨W1, hW1⟩ : ∃ W1, W1 = w.alloc (.cells #[.int .i64 p, .int .i64 e0] 132) := ⟨_, rfl⟩
  have HW1 := Lib.hid hW1
  have hn : Below w.heap.size w W1 := by rw [hW1]; exact (Below.refl _ _).alloc (Nat.le_refl _) _
  have hg : W1.heap[w.heap.size]? = some (.cells #[.int .i64 p, .int .i64 e0] 132 (0, 0)) := by rw [hW1]; exact heap_alloc_last _ _
  have hc1 := (hn.block c n1).trans hc
  have ht1 := (hn.block t n2).trans ht
  have hf1 := (hn.block f n3).trans hf
  clear hW1 hc ht hf hn
  go_wp2
  rw [← HW1.out]
  have z0 : W1.cell? ⟨c, 0, none⟩ = some a0 := by rw [Lib.cell_of_heap hc1]; rfl
  have z1 : W1.cell? ⟨c, 1, none⟩ = some a1 := by rw [Lib.cell_of_heap hc1]; rfl
  have z2 : W1.cell? ⟨c, 2, none⟩ = some a2 := by rw [Lib.cell_of_heap hc1]; rfl
  have z3 : W1.cell? ⟨c, 3, none⟩ = some a3 := by rw [Lib.cell_of_heap hc1]; rfl
  have f0 := Lib.frozen_of_heap hc1 0
  have f1 := Lib.frozen_of_heap hc1 1
  have f2 := Lib.frozen_of_heap hc1 2
  have f3 := Lib.frozen_of_heap hc1 3
  have y0 : W1.cell? ⟨t, 0, none⟩ = some b0 := by rw [Lib.cell_of_heap ht1]; rfl
  have y1 : W1.cell? ⟨f, 0, none⟩ = some d0 := by rw [Lib.cell_of_heap hf1]; rfl
  have g0 := Lib.frozen_of_heap ht1 0
  have g1 := Lib.frozen_of_heap hf1 0
  have x0 : W1.cell? ⟨w.heap.size, 0, none⟩ = some (.int .i64 p) := by rw [Lib.cell_of_heap hg]; rfl
  have x1 : W1.cell? ⟨w.heap.size, 1, none⟩ = some (.int .i64 e0) := by rw [Lib.cell_of_heap hg]; rfl
  have hne1 : w.heap.size ≠ c := by omega
  have hne2 : w.heap.size ≠ t := by omega
  have hne3 : w.heap.size ≠ f := by omega
  have hd := (caught_of (p := p) (e0 := e0) (w := w) (W1 := W1) hct hcf htf (by rw [HW1.out]; exact (Below.refl _ _).alloc (Nat.le_refl _) _) hc1 ht1 hf1).drew
  have HD := Lib.hid hd
  clear hd hg hc1 ht1 hf1
  go_region
  have hfin := HD.out
  obtain ⟨WF, hWF⟩ : ∃ WF, WF = (caughtW c t f p e0 W1).drew := ⟨_, rfl⟩
  rw [← hWF] at hfin
  unfold caughtW put4 at hWF
  rw [← hWF]
  clear hWF HD
  exact ⟨rfl, _, rfl, _, results_none rfl _ _ _, rfl, rfl, hfin⟩
end Go.Proofs.YtgjlchcfdbmmlaaDoor.PObjectTakes
namespace Go.Proofs.YtgjlchcfdbmmlaaDoor.PObjectTakes
open Go.RowKit Go.Proofs.YtgjlchcfdbmmlaaDoor.Ord Go.Proofs.YtgjlchcfdbmmlaaDoorW.PrintWords Go.Proofs.YtgjlchcfdbmmlaaDoorW.PrintLast Go.Proofs.YtgjlchcfdbmmlaaDoorW.PrintMore
attribute [local irreducible] OpGives
attribute [local go_sem] rdl_const rdl_func rdl_global rdl_nil rdl_cons

/-- What Next answers. -/
def nextR (s : ByteArray) (a : Int) : S42 × Nat × Nat :=
  if a < 0 ∨ (s.size : Int) < a then (z42, 0, 2) else match cellD s 16 a.toNat with
  | .ok x q => (x, q, 0)
  | .bad p e => (z42, p, e)
def NextPost (r : S42 × Nat × Nat) (w : World) (e : Ending) (w' : World) : Prop :=
  ∃ v3, e = .returned (.tuple #[.agg #[.int .i64 r.1.f0, .int .i64 r.1.f1, .string r.1.f2, v3], .int .i64 (r.2.1 : Int), .int .i64 (r.2.2 : Int)]) ∧ Kd.R k42 42 w' w.heap.size (fun _ => True) v3 r.1.f3 ∧ Below w.heap.size w w'

/-- The three results hold what the panic told; of the rest nothing has turned. -/
structure Stored (c t f : Nat) (u0 u1 u2 u3 : Value) (p e0 : Int) (w w' : World) : Prop where
  os : w'.os = w.os
  tape : w'.tape = w.tape
  output : w'.output = w.output
  size : w.heap.size ≤ w'.heap.size
  block : ∀ k, k < w.heap.size → k ≠ c → k ≠ t → k ≠ f → w'.heap[k]? = w.heap[k]?
  cc : w'.heap[c]? = some (.cells #[u0, u1, u2, u3] 42 (0, 0))
  ct : w'.heap[t]? = some (.cells #[.int .i64 p] 3 (0, 0))
  cf : w'.heap[f]? = some (.cells #[.int .i64 e0] 30 (0, 0))
/-- The closure's stores. -/
def storeW (c t f : Nat) (u0 u1 u2 u3 : Value) (p e0 : Int) (W : World) : World := World.setCell (World.setCell (put4 W c u0 u1 u2 u3) ⟨t, 0, none⟩ (.int .i64 p)) ⟨f, 0, none⟩ (.int .i64 e0)
theorem stored_of {c t f : Nat} {u0 u1 u2 u3 : Value} {p e0 : Int} {a0 a1 a2 a3 b0 d0 : Value} {w W1 : World} (hct : c ≠ t) (hcf : c ≠ f) (htf : t ≠ f) (hn : Below w.heap.size w W1)
    (hc : W1.heap[c]? = some (.cells #[a0, a1, a2, a3] 42 (0, 0))) (ht : W1.heap[t]? = some (.cells #[b0] 3 (0, 0))) (hf : W1.heap[f]? = some (.cells #[d0] 30 (0, 0))) : Stored c t f u0 u1 u2 u3 p e0 w (storeW c t f u0 u1 u2 u3 p e0 W1) := by
  obtain ⟨W2, hW2⟩ : ∃ W2, W2 = put4 W1 c u0 u1 u2 u3 := ⟨_, rfl⟩
  have h4 : W2.heap[c]? = some (.cells #[u0, u1, u2, u3] 42 (0, 0)) := by rw [hW2]; exact put4_same hc _ _ _ _
  have far : ∀ k, k ≠ c → W2.heap[k]? = W1.heap[k]? := fun k hk => by rw [hW2]; exact put4_far hk _ _ _ _
  have hsz : W2.heap.size = W1.heap.size := by rw [hW2]; exact put4_size _ _ _ _ _ _
  have hos : W2.os = W1.os := by rw [hW2]; rfl
  have htp : W2.tape = W1.tape := by rw [hW2]; rfl
  have hou : W2.output = W1.output := by rw [hW2]; rfl
  have t1 := (far t (Ne.symm hct)).trans ht
  have f1 := (far f (Ne.symm hcf)).trans hf
  obtain ⟨W3, hW3⟩ : ∃ W3, W3 = W2.setCell ⟨t, 0, none⟩ (.int .i64 p) := ⟨_, rfl⟩
  have hfin : storeW c t f u0 u1 u2 u3 p e0 W1 = W3.setCell ⟨f, 0, none⟩ (.int .i64 e0) := by rw [hW3, hW2]; rfl
  have t3 : W3.heap[t]? = some (.cells #[.int .i64 p] 3 (0, 0)) := by rw [hW3]; exact blk_put (cs := #[b0]) t1 0 _ rfl
  have far3 : ∀ k, k ≠ t → W3.heap[k]? = W2.heap[k]? := fun k hk => by rw [hW3]; exact set_far _ _ _ _ _ hk
  have hs3 : W3.heap.size = W1.heap.size := by rw [hW3, ← hsz]; simp [World.setCell]
  rw [hfin]
  refine ⟨?_, ?_, ?_, ?_, fun k hk h1 h2 h3 => ?_, ?_, ?_, ?_⟩
  · show W3.os = _; rw [hW3]; show W2.os = _; rw [hos]; exact hn.os
  · show W3.tape = _; rw [hW3]; show W2.tape = _; rw [htp]; exact hn.tape
  · show W3.output = _; rw [hW3]; show W2.output = _; rw [hou]; exact hn.output
  · have := hn.size
    simp only [World.setCell, Array.size_modify]; omega
  · rw [set_far _ _ _ _ _ h3, far3 k h2, far k h1]; exact hn.block k hk
  · rw [set_far _ _ _ _ _ hcf, far3 c hct]; exact h4
  · rw [set_far _ _ _ _ _ htf]; exact t3
  · exact blk_put (cs := #[d0]) ((far3 f (Ne.symm htf)).trans f1) 0 _ rfl
theorem Stored.drew {c t f : Nat} {u0 u1 u2 u3 : Value} {p e0 : Int} {w W : World} (h : Stored c t f u0 u1 u2 u3 p e0 w W) : Stored c t f u0 u1 u2 u3 p e0 w W.drew := ⟨h.os, h.tape, h.output, h.size, h.block, h.cc, h.ct, h.cf⟩
theorem allocs3 (w : World) (o1 o2 o3 : Obj) : (((w.alloc o1).alloc o2).alloc o3).heap[w.heap.size]? = some o1 ∧ (((w.alloc o1).alloc o2).alloc o3).heap[w.heap.size + 1]? = some o2 ∧ (((w.alloc o1).alloc o2).alloc o3).heap[w.heap.size + 1 + 1]? = some o3 ∧ (((w.alloc o1).alloc o2).alloc o3).heap.size = w.heap.size + 1 + 1 + 1 := by
  have s1 : (w.alloc o1).heap.size = w.heap.size + 1 := by simp
  have s2 : ((w.alloc o1).alloc o2).heap.size = w.heap.size + 1 + 1 := by simp
  have e2 := heap_alloc_last (w.alloc o1) o2
  have e3 := heap_alloc_last ((w.alloc o1).alloc o2) o3
  rw [s1] at e2
  rw [s2] at e3
  exact ⟨(Lib.alloc_old _ _ _ (by omega)).trans ((Lib.alloc_old _ _ _ (by omega)).trans (heap_alloc_last _ _)), (Lib.alloc_old _ _ _ (by omega)).trans e2, e3, by simp⟩
theorem allocs4 (w : World) (o1 o2 o3 o4 : Obj) : ((((w.alloc o1).alloc o2).alloc o3).alloc o4).heap[w.heap.size]? = some o1 ∧ ((((w.alloc o1).alloc o2).alloc o3).alloc o4).heap[w.heap.size + 1]? = some o2 ∧ ((((w.alloc o1).alloc o2).alloc o3).alloc o4).heap[w.heap.size + 1 + 1]? = some o3 ∧
    ((((w.alloc o1).alloc o2).alloc o3).alloc o4).heap[w.heap.size + 1 + 1 + 1]? = some o4 ∧ ((((w.alloc o1).alloc o2).alloc o3).alloc o4).heap.size = w.heap.size + 1 + 1 + 1 + 1 := by
  obtain ⟨h1, h2, h3, hs⟩ := allocs3 w o1 o2 o3
  have e4 := heap_alloc_last (((w.alloc o1).alloc o2).alloc o3) o4
  rw [hs] at e4
  exact ⟨(Lib.alloc_old _ _ _ (by omega)).trans h1, (Lib.alloc_old _ _ _ (by omega)).trans h2, (Lib.alloc_old _ _ _ (by omega)).trans h3, e4, by simp⟩
theorem results_next (tmps : Array Value) (w : World) (c t f : Nat) (a0 a1 a2 a3 : Value) (p e : Int) (h4 : tmps.getD 4 undef = .pointer (some ⟨c, 0, none⟩)) (h5 : tmps.getD 5 undef = .pointer (some ⟨t, 0, none⟩)) (h6 : tmps.getD 6 undef = .pointer (some ⟨f, 0, none⟩))
    (hc : w.heap[c]? = some (.cells #[a0, a1, a2, a3] 42 (0, 0))) (ht : w.heap[t]? = some (.cells #[.int .i64 p] 3 (0, 0))) (hf : w.heap[f]? = some (.cells #[.int .i64 e] 30 (0, 0))) :
    (results Tryd.f40 tmps).run Tryd.prog w = .ok (.tuple #[.agg #[a0, a1, a2, a3], .int .i64 p, .int .i64 e]) w := by
  have h4' : tmps[4]?.getD undef = .pointer (some ⟨c, 0, none⟩) := by simpa using h4
  have h5' : tmps[5]?.getD undef = .pointer (some ⟨t, 0, none⟩) := by simpa using h5
  have h6' : tmps[6]?.getD undef = .pointer (some ⟨f, 0, none⟩) := by simpa using h6
  have c5 : w.cell? ⟨t, 0, none⟩ = some (.int .i64 p) := by rw [Lib.cell_of_heap ht]; rfl
  have c6 : w.cell? ⟨f, 0, none⟩ = some (.int .i64 e) := by rw [Lib.cell_of_heap hf]; rfl
  have k0 : w.cell? ⟨c, 0, none⟩ = some a0 := by rw [Lib.cell_of_heap hc]; rfl
  have k1 : w.cell? ⟨c, 1, none⟩ = some a1 := by rw [Lib.cell_of_heap hc]; rfl
  have k2 : w.cell? ⟨c, 2, none⟩ = some a2 := by rw [Lib.cell_of_heap hc]; rfl
  have k3 : w.cell? ⟨c, 3, none⟩ = some a3 := by rw [Lib.cell_of_heap hc]; rfl
  simp [results, Tryd.results40, h4', h5', h6', asAddr, k0, k1, k2, k3, c5, c6, go_sem]
theorem nextR_out {s : ByteArray} {a : Int} (h : a < 0 ∨ (s.size : Int) < a) : nextR s a = (z42, 0, 2) := if_pos h
theorem nextR_ok {s : ByteArray} {p q : Nat} {x : S42} (h : p ≤ s.size) (hc : cellD s 16 p = .ok x q) : nextR s (p : Int) = (x, q, 0) := by
  unfold nextR
  rw [if_neg (by omega), Int.toNat_natCast, hc]
theorem nextR_bad {s : ByteArray} {p p' e' : Nat} (h : p ≤ s.size) (hc : cellD s 16 p = .bad p' e') : nextR s (p : Int) = (z42, p', e') := by
  unfold nextR
  rw [if_neg (by omega), Int.toNat_natCast, hc]
set_option maxHeartbeats 8000000 in
set_option maxRecDepth 100000 in
theorem Next_calls (s : ByteArray) (a : Int) (w : World) (hs : s.size ≤ 140737488355328) (ha0 : -9223372036854775808 ≤ a) (ha1 : a ≤ 9223372036854775807) :
    Calls Tryd.prog 40 #[.string s, .int .i64 a] w (NextPost (nextR s a) w) := by
  have hmf : ∀ (fn : Fn) (first cap : Array Value) (w : World), (Instr.makeFunc fn first cap).run Tryd.prog w = .ok (.func fn first cap) w := fun _ _ _ _ => rfl
  obtain ⟨W3, hW3⟩ : ∃ W3 : World, W3 = ((w.alloc (.cells #[.int .i64 0, .int .i64 0, .string (⟨#[]⟩ : ByteArray), .slice none 0 0] 42)).alloc (.cells #[.int .i64 0] 3)).alloc (.cells #[.int .i64 2] 30) := ⟨_, rfl⟩
  have b3 : Below w.heap.size w W3 := by rw [hW3]; exact (((Below.refl _ _).alloc (Nat.le_refl _) _).alloc (by simp) _).alloc (by simp; omega) _
  have h3 := allocs3 w (.cells #[.int .i64 0, .int .i64 0, .string (⟨#[]⟩ : ByteArray), .slice none 0 0] 42) (.cells #[.int .i64 0] 3) (.cells #[.int .i64 2] 30)
  rw [← hW3] at h3
  obtain ⟨hc3, ht3, hf3, _⟩ := h3
  by_cases hbad : a < 0 ∨ (s.size : Int) < a
  · rw [nextR_out hbad]
    have HW3 := Lib.hid hW3
    have fin : ∀ tmps : Array Value, tmps.getD 4 undef = .pointer (some ⟨w.heap.size, 0, none⟩) → tmps.getD 5 undef = .pointer (some ⟨w.heap.size + 1, 0, none⟩) → tmps.getD 6 undef = .pointer (some ⟨w.heap.size + 1 + 1, 0, none⟩) →
        bodyPostD Tryd.prog Tryd.f40 (NextPost (z42, 0, 2) w) Exit.ret { tmps := tmps, defers := [] } W3 := fun tmps h4 h5 h6 =>
      ⟨_, results_next tmps W3 _ _ _ _ _ _ _ _ _ h4 h5 h6 hc3 ht3 hf3, _, rfl, Kd.R_nil _ _ _ _ _, b3⟩
    have FIN := Lib.hid fin
    clear hW3 b3 hc3 ht3 hf3 fin
    by_cases h0 : a < 0
    · go_enter_defers Tryd.func40, Tryd.ntmps40
      go_wp2
      rw [← HW3.out]
      exact FIN.out _ rfl rfl rfl
    · have h2 : (s.size : Int) < a := by omega
      clear hbad
      go_enter_defers Tryd.func40, Tryd.ntmps40
      go_wp2
      rw [← HW3.out]
      exact FIN.out _ rfl rfl rfl
  · clear hW3 b3 hc3 ht3 hf3
    obtain ⟨p, rfl⟩ : ∃ p : Nat, a = (p : Int) := ⟨a.toNat, by omega⟩
    have hle : p ≤ s.size := by omega
    obtain ⟨rr, hrr⟩ : ∃ rr, rr = nextR s (p : Int) := ⟨_, rfl⟩
    rw [← hrr]
    have HRRR := Lib.hid hrr
    have HLE := Lib.hid hle
    clear hrr
    have h1 : ¬ ((p : Int) < 0) := by omega
    have h2 : ¬ ((s.size : Int) < (p : Int)) := by omega
    obtain ⟨W4, hW4⟩ : ∃ W4 : World, W4 = (((w.alloc (.cells #[.int .i64 0, .int .i64 0, .string (⟨#[]⟩ : ByteArray), .slice none 0 0] 42)).alloc (.cells #[.int .i64 0] 3)).alloc (.cells #[.int .i64 0] 30)).alloc (.cells #[.string s, .int .i64 (p : Int)] 135) := ⟨_, rfl⟩
    have b4 : Below w.heap.size w W4 := by rw [hW4]; exact ((((Below.refl _ _).alloc (Nat.le_refl _) _).alloc (by simp) _).alloc (by simp; omega) _).alloc (by simp; omega) _
    have h4 := allocs4 w (.cells #[.int .i64 0, .int .i64 0, .string (⟨#[]⟩ : ByteArray), .slice none 0 0] 42) (.cells #[.int .i64 0] 3) (.cells #[.int .i64 0] 30) (.cells #[.string s, .int .i64 (p : Int)] 135)
    rw [← hW4] at h4
    obtain ⟨hc4, ht4, hf4, hr4, hsz4⟩ := h4
    have HCALL := Lib.hid (cell_calls s hs (w.heap.size + 1 + 1 + 1) 16 (by decide) p W4 hr4 hle)
    have HW4 := Lib.hid hW4
    clear hW4 hr4
    go_enter_defers Tryd.func40, Tryd.ntmps40
    go_wp2_with fail
    rw [← HW4.out]
    refine HCALL.out.mono ?_
    rintro e W5 ⟨hm, hp⟩
    have hc5 := (hm.block w.heap.size (by omega) (by omega)).trans hc4
    have ht5 := (hm.block (w.heap.size + 1) (by omega) (by omega)).trans ht4
    have hf5 := (hm.block (w.heap.size + 1 + 1) (by omega) (by omega)).trans hf4
    have hb5 : Below w.heap.size w W5 := b4.trans (hm.below (by omega) (by omega))
    cases hcd : cellD s 16 p with
    | bad p' e' =>
      rw [hcd] at hp
      have he : e = .panicked (wrongP (p' : Int) (e' : Int)) := hp
      subst he
      refine leaves_cons (f := 65) (args := #[.pointer (some ⟨w.heap.size, 0, none⟩), .pointer (some ⟨w.heap.size + 1, 0, none⟩), .pointer (some ⟨w.heap.size + 1 + 1, 0, none⟩)]) (by simp) (by simp [go_sem]) ?_
      refine (catch_wrong _ _ _ (p' : Int) (e' : Int) [] _ _ _ _ _ _ W5 (by omega) (by omega) (by omega) hc5 ht5 hf5).mono ?_
      rintro e u' w'' ⟨rfl, rfl, hcg⟩
      have hfin : Below w.heap.size w w'' := ⟨hcg.os.trans hb5.os, hcg.tape.trans hb5.tape, hcg.output.trans hb5.output, Nat.le_trans hb5.size hcg.size, fun k hk => (hcg.block k (Nat.lt_of_lt_of_le hk hb5.size) (by omega) (by omega) (by omega)).trans (hb5.block k hk)⟩
      refine ⟨_, results_next _ w'' _ _ _ _ _ _ _ _ _ rfl rfl rfl hcg.cc hcg.ct hcg.cf, ?_⟩
      rw [HRRR.out, nextR_bad HLE.out hcd]
      exact ⟨_, rfl, Kd.R_nil _ _ _ _ _, hfin⟩
    | ok x q =>
      rw [hcd] at hp
      obtain ⟨⟨v3, he, hR⟩, hrd, hq⟩ := hp
      subst he
      obtain ⟨A3, c3, rfl⟩ := R_slice hR
      have z0 : W5.cell? ⟨w.heap.size, 0, none⟩ = some (.int .i64 0) := by rw [Lib.cell_of_heap hc5]; rfl
      have z1 : W5.cell? ⟨w.heap.size, 1, none⟩ = some (.int .i64 0) := by rw [Lib.cell_of_heap hc5]; rfl
      have z2 : W5.cell? ⟨w.heap.size, 2, none⟩ = some (.string (⟨#[]⟩ : ByteArray)) := by rw [Lib.cell_of_heap hc5]; rfl
      have z3 : W5.cell? ⟨w.heap.size, 3, none⟩ = some (.slice none 0 0) := by rw [Lib.cell_of_heap hc5]; rfl
      have f0 := Lib.frozen_of_heap hc5 0
      have f1 := Lib.frozen_of_heap hc5 1
      have f2 := Lib.frozen_of_heap hc5 2
      have f3 := Lib.frozen_of_heap hc5 3
      have HC5 := Lib.hid hc5
      have HT5 := Lib.hid ht5
      have HF5 := Lib.hid hf5
      have HB5 := Lib.hid hb5
      have HR := Lib.hid hR
      have HRD := Lib.hid hrd
      have HSZ := Lib.hid hsz4
      have HS5 := Lib.hid hm.size
      clear hc5 ht5 hf5 hb5 hR hrd hm hc4 ht4 hf4 hsz4 b4
      go_wp2_with fail
      obtain ⟨W6, hW6⟩ : ∃ W6, W6 = put4 W5 w.heap.size (.int .i64 x.f0) (.int .i64 x.f1) (.string x.f2) (.slice A3 x.f3.length c3) := ⟨_, rfl⟩
      have hc6 : W6.heap[w.heap.size]? = some (.cells #[.int .i64 x.f0, .int .i64 x.f1, .string x.f2, .slice A3 x.f3.length c3] 42 (0, 0)) := by rw [hW6]; exact put4_same HC5.out _ _ _ _
      have hfar6 : ∀ k, k ≠ w.heap.size → W6.heap[k]? = W5.heap[k]? := fun k hk => by rw [hW6]; exact put4_far hk _ _ _ _
      have hs6 : W6.heap.size = W5.heap.size := by rw [hW6]; exact put4_size _ _ _ _ _ _
      have hb6 : Below w.heap.size w W6 := ⟨by rw [hW6]; exact HB5.out.os, by rw [hW6]; exact HB5.out.tape, by rw [hW6]; exact HB5.out.output, by rw [hs6]; exact HB5.out.size, fun k hk => (hfar6 k (by omega)).trans (HB5.out.block k hk)⟩
      have ht6 := (hfar6 (w.heap.size + 1) (by omega)).trans HT5.out
      have hf6 := (hfar6 (w.heap.size + 1 + 1) (by omega)).trans HF5.out
      have hr6 : W6.heap[w.heap.size + 1 + 1 + 1]? = some (.cells #[.string s, .int .i64 (q : Int)] 135 (0, 0)) := (hfar6 _ (by omega)).trans HRD.out
      have hR6 : Kd.R k42 42 W6 w.heap.size (fun k => k ≠ w.heap.size ∧ k ≠ w.heap.size + 1 ∧ k ≠ w.heap.size + 1 + 1) (.slice A3 x.f3.length c3) x.f3 := by
        have h1 := Kd.R_mono (ok' := fun k => w.heap.size + 1 + 1 + 1 + 1 ≤ k) (Kd.R_bound HR.out) (fun k hk => by have := HSZ.out; have := hk.2.1; omega)
        have h2 := Kd.R_step (w1 := W6) h1 (fun k hk hl => hfar6 k (by omega))
        exact Kd.R_mono (Kd.R_lower h2 (by have := HSZ.out; omega)) (fun k hk => by omega)
      unfold put4 at hW6
      rw [← hW6]
      clear hW6 hfar6 z0 z1 z2 z3 f0 f1 f2 f3
      have z0 : W6.cell? ⟨w.heap.size, 0, none⟩ = some (.int .i64 x.f0) := by rw [Lib.cell_of_heap hc6]; rfl
      have z1 : W6.cell? ⟨w.heap.size, 1, none⟩ = some (.int .i64 x.f1) := by rw [Lib.cell_of_heap hc6]; rfl
      have z2 : W6.cell? ⟨w.heap.size, 2, none⟩ = some (.string x.f2) := by rw [Lib.cell_of_heap hc6]; rfl
      have z3 : W6.cell? ⟨w.heap.size, 3, none⟩ = some (.slice A3 x.f3.length c3) := by rw [Lib.cell_of_heap hc6]; rfl
      have f0 := Lib.frozen_of_heap hc6 0
      have f1 := Lib.frozen_of_heap hc6 1
      have f2 := Lib.frozen_of_heap hc6 2
      have f3 := Lib.frozen_of_heap hc6 3
      have y0 : W6.cell? ⟨w.heap.size + 1, 0, none⟩ = some (.int .i64 0) := by rw [Lib.cell_of_heap ht6]; rfl
      have y1 : W6.cell? ⟨w.heap.size + 1 + 1, 0, none⟩ = some (.int .i64 0) := by rw [Lib.cell_of_heap hf6]; rfl
      have g0 := Lib.frozen_of_heap ht6 0
      have g1 := Lib.frozen_of_heap hf6 0
      have x1 : W6.cell? ⟨w.heap.size + 1 + 1 + 1, 1, none⟩ = some (.int .i64 (q : Int)) := by rw [Lib.cell_of_heap hr6]; rfl
      have hd := (stored_of (u0 := .int .i64 x.f0) (u1 := .int .i64 x.f1) (u2 := .string x.f2) (u3 := .slice A3 x.f3.length c3) (p := (q : Int)) (e0 := 0) (w := w) (W1 := W6) (c := w.heap.size) (t := w.heap.size + 1) (f := w.heap.size + 1 + 1) (by omega) (by omega) (by omega) hb6 hc6 ht6 hf6).drew
      have HD := Lib.hid hd
      have HR6 := Lib.hid hR6
      have HCD := Lib.hid hcd
      have HS6 := Lib.hid hs6
      have far : ∀ k, k ≠ w.heap.size → k ≠ w.heap.size + 1 → k ≠ w.heap.size + 1 + 1 → (storeW w.heap.size (w.heap.size + 1) (w.heap.size + 1 + 1) (.int .i64 x.f0) (.int .i64 x.f1) (.string x.f2) (.slice A3 x.f3.length c3) (q : Int) 0 W6).drew.heap[k]? = W6.heap[k]? := fun k h1 h2 h3 => by
        show (storeW w.heap.size (w.heap.size + 1) (w.heap.size + 1 + 1) (.int .i64 x.f0) (.int .i64 x.f1) (.string x.f2) (.slice A3 x.f3.length c3) (q : Int) 0 W6).heap[k]? = _
        unfold storeW
        rw [set_far _ _ _ _ _ h3, set_far _ _ _ _ _ h2, put4_far h1]
      have HFAR := Lib.hid far
      clear hd hR6 hc6 ht6 hf6 hr6 hb6 hs6 far hmf hcd hq h1 h2 hbad hle ha0 ha1
      go_region
      obtain ⟨WF, hWF⟩ : ∃ WF, WF = (storeW w.heap.size (w.heap.size + 1) (w.heap.size + 1 + 1) (.int .i64 x.f0) (.int .i64 x.f1) (.string x.f2) (.slice A3 x.f3.length c3) (q : Int) 0 W6).drew := ⟨_, rfl⟩
      have hst := HD.out
      have hfr := HFAR.out
      rw [← hWF] at hst hfr
      unfold storeW put4 at hWF
      rw [← hWF]
      have hRF := Kd.R_step (w1 := WF) HR6.out (fun k hk hl => hfr k hk.1 hk.2.1 hk.2.2)
      have HST := Lib.hid hst
      have HRF := Lib.hid (Kd.R_mono (ok' := fun _ => True) hRF (fun _ _ => trivial))
      clear hWF HD HFAR hst hfr hRF HR6 z0 z1 z2 z3 f0 f1 f2 f3 y0 y1 g0 g1 x1
      go_wp2_with fail
      refine leaves_cons (f := 65) (args := #[.pointer (some ⟨w.heap.size, 0, none⟩), .pointer (some ⟨w.heap.size + 1, 0, none⟩), .pointer (some ⟨w.heap.size + 1 + 1, 0, none⟩)]) (by simp) (by simp [go_sem]) ?_
      refine (catch_idle _ _ _ WF).mono ?_
      rintro e u' w'' ⟨rfl, rfl, rfl⟩
      have hcg := HST.out
      have hfin : Below w.heap.size w w'' := ⟨hcg.os, hcg.tape, hcg.output, hcg.size, fun k hk => hcg.block k hk (by omega) (by omega) (by omega)⟩
      refine ⟨_, results_next _ w'' _ _ _ _ _ _ _ _ _ rfl rfl rfl hcg.cc hcg.ct hcg.cf, ?_⟩
      rw [HRRR.out, nextR_ok HLE.out HCD.out]
      exact ⟨_, rfl, HRF.out, hfin⟩
end Go.Proofs.YtgjlchcfdbmmlaaDoor.PObjectTakes
