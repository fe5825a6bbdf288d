/- (*writer).put: a cell's bytes. -/
import Derived.Test.YtjelpapcboiimaaUB
import Derived.Deep.WholeRow
import Derived.Laws.DeepNot64
namespace Go.Proofs.Ytjelpapcboiimaa.PCellPuts
open Go.RowKit Go.Proofs.YtjelpapcboiimaaW.PrintWords Go.Proofs.YtjelpapcboiimaaW.PrintLast Go.Proofs.YtjelpapcboiimaaW.PrintMore
set_option linter.unusedVariables false
set_option linter.unusedSimpArgs false

mutual
/-- A cell's bytes. -/
def encS : S25 → List UInt8
  | ⟨k, n, s, l⟩ => if k = 1 then (if n < 0 then headB 2 (-(n + 1)).toNat else headB 1 n.toNat) else if k = 2 then headB 3 s.size ++ s.data.toList else headB 4 l.length ++ encL l
def encL : List S25 → List UInt8
  | [] => []
  | x :: xs => encS x ++ encL xs
end
mutual
/-- Its numbers are of their kind. -/
def wfS : S25 → Prop
  | ⟨k, n, s, l⟩ => -9223372036854775808 ≤ n ∧ n ≤ 9223372036854775807 ∧ s.size ≤ 140737488355328 ∧ l.length ≤ 140737488355328 ∧ wfL l
def wfL : List S25 → Prop
  | [] => True
  | x :: xs => wfS x ∧ wfL xs
end
theorem wfL_at : ∀ {l : List S25}, wfL l → ∀ {i : Nat} {x : S25}, l[i]? = some x → wfS x
  | [], _, i, x, h => by simp at h
  | y :: ys, hw, i, x, h => by
    rw [wfL] at hw
    cases i with
    | zero => simp at h; exact h ▸ hw.1
    | succ i => exact wfL_at hw.2 (by simpa using h)
theorem encL_snoc : ∀ (l : List S25) (x : S25), encL (l ++ [x]) = encL l ++ encS x
  | [], x => by simp [encL]
  | y :: ys, x => by simp [encL, encL_snoc ys x]
theorem encL_take_le : ∀ (l : List S25) (i : Nat), (encL (l.take i)).length ≤ (encL l).length
  | [], i => by simp
  | y :: ys, 0 => by simp [encL]
  | y :: ys, i + 1 => by
    have := encL_take_le ys i
    simp [encL]; exact this

theorem IsWr.far {B b : Nat} {bs : List Value} {w w' : World} (h : IsWr B b bs w) (hb : Below w.heap.size w w') : IsWr B b bs w' := by
  have f : ∀ p, Wr B b p bs w → Wr B b p bs w' := fun p ⟨h1, v, h2, h3, h4⟩ =>
    ⟨h1, v, (hb.block b (Array.getElem?_eq_some_iff.1 h2).1).trans h2, own_move h3 (fun k hk => hb.block k (own_lt h3 k hk)), h4⟩
  exact h.elim (fun x => .inl (f _ x)) (fun x => .inr (f _ x))
/-- The first i elements are written. -/
def PutAt (w0 : World) (b : Nat) (bs : List Value) (w : World) (g : Nat) (cs : Array Value) (l : List S25) (i : Nat) (W : World) : Prop :=
  i ≤ l.length ∧ Wr w0.heap.size b (.pointer (some ⟨b, 0, none⟩)) (bs ++ Lib.byteCells (headB 4 l.length ++ encL (l.take i))) W ∧ Below w0.heap.size w0 W ∧ ModW b w W
theorem i64_not_neg (n : Int) (h0 : -9223372036854775808 ≤ n) (h1 : n < 0) : bits .xor .i64 (-1) n = -1 - n := by
  show IntKind.i64.wrap ((BitVec.ofInt 64 (-1) ^^^ BitVec.ofInt 64 n).toNat : Int) = _
  have h2 : BitVec.ofInt 64 (-1) = BitVec.allOnes 64 := by decide
  rw [h2, BitVec.allOnes_xor, BitVec.toNat_not, BitVec.toNat_ofInt]
  simp [IntKind.wrap, IntKind.bits, IntKind.signed]
  omega
theorem headB_len (k n : Nat) (h : n < 18446744073709551616) : (headB k n).length ≤ 9 := by
  have := bes_len8 h
  simp only [headB, List.length_cons]; omega
theorem strCells_bytes (s : ByteArray) : Lib.strCells s = Lib.byteCells s.data.toList := by simp [Lib.strCells, Lib.byteCells]
set_option maxHeartbeats 8000000 in
set_option maxRecDepth 100000 in
theorem put_calls (m : Nat) : ∀ (x : S25) (hm : SizeOf.sizeOf x < m) (w0 : World) (b : Nat) (bs : List Value) (A : Option Addr) (c : Nat) (w : World) (h : IsWr w0.heap.size b bs w) (hA : Kd.C k25 w0 A x.f3.length x.f3) (hx : wfS x)
    (hlen : bs.length + (encS x).length + 16 ≤ 140737488355328) (hb0 : Below w0.heap.size w0 w),
    Calls Try.prog 24 #[.pointer (some ⟨b, 0, none⟩), .agg #[.int .i64 x.f0, .int .i64 x.f1, .string x.f2, .slice A x.f3.length c]] w fun e w' => e = .returned (.tuple #[]) ∧ (Wr w0.heap.size b (.pointer (some ⟨b, 0, none⟩)) (bs ++ Lib.byteCells (encS x)) w' ∧ Below w0.heap.size w0 w' ∧ ModW b w w') := by
  induction m with
  | zero => intro x hm; omega
  | succ m ih =>
    rintro ⟨k, n, s, l⟩ hm w0 b bs A c w h hA hx hlen hb0
    simp only at hA ⊢
    rw [wfS] at hx
    obtain ⟨hn0, hn1, hss, hll, hwl⟩ := hx
    rw [encS] at hlen ⊢
    have H := Lib.hid h
    have HA := Lib.hid hA
    have HB := Lib.hid hb0
    have HW := Lib.hid hwl
    have hlt := h.elim (fun e => e.lt) (fun e => e.lt)
    have HIH := Lib.hid ih
    clear h hA hb0 hwl ih
    by_cases hk1 : k = 1
    · rw [if_pos hk1] at hlen
      rw [if_pos hk1]
      by_cases hneg : n < 0
      · rw [if_pos hneg] at hlen
        rw [if_pos hneg]
        obtain ⟨q, hq⟩ : ∃ q : Nat, (-(n + 1)).toNat = q := ⟨_, rfl⟩
        rw [hq] at hlen ⊢
        go_enter Try.func24, Try.ntmps24
        go_wp2_with fail
        obtain ⟨W1, hW1⟩ : ∃ W1, W1 = w.alloc (.cells #[.int .i64 1, .int .i64 n, .string s, .slice A l.length c] 25) := ⟨_, rfl⟩
        rw [← hW1]
        have hn1 : Below w.heap.size w W1 := by rw [hW1]; exact (Below.refl _ _).alloc (Nat.le_refl _) _
        clear hW1
        have hB1 : Below w0.heap.size w0 W1 := HB.out.trans (hn1.mono HB.out.size)
        rw [i64_not_neg n hn0 hneg, show IntKind.u64.wrap (-1 - n) = (q : Int) by rw [IntKind.wrap_u64]; omega]
        have hhl := headB_len 2 q (by omega)
        refine (head_calls w0.heap.size b bs 2 q W1 (H.out.far hn1) (by decide) (by omega) (by omega) hB1.size).mono ?_
        rintro e W2 ⟨rfl, hw2, hb2, hm2⟩
        have HD := Lib.hid (And.intro hw2 (And.intro (hB1.trans hb2) ((ModW.of_below hn1).trans hm2)))
        clear hw2 hb2 hm2 hB1 hn1
        go_wp2_with fail
        go_end0
        exact ⟨rfl, HD.out⟩
      · rw [if_neg hneg] at hlen
        rw [if_neg hneg]
        obtain ⟨q, rfl⟩ : ∃ q : Nat, n = (q : Int) := ⟨n.toNat, by omega⟩
        rw [Int.toNat_natCast] at hlen ⊢
        go_enter Try.func24, Try.ntmps24
        go_wp2_with fail
        obtain ⟨W1, hW1⟩ : ∃ W1, W1 = w.alloc (.cells #[.int .i64 1, .int .i64 (q : Int), .string s, .slice A l.length c] 25) := ⟨_, rfl⟩
        rw [← hW1]
        have hn1 : Below w.heap.size w W1 := by rw [hW1]; exact (Below.refl _ _).alloc (Nat.le_refl _) _
        clear hW1
        have hB1 : Below w0.heap.size w0 W1 := HB.out.trans (hn1.mono HB.out.size)
        have hhl := headB_len 1 q (by omega)
        refine (head_calls w0.heap.size b bs 1 q W1 (H.out.far hn1) (by decide) (by omega) (by omega) hB1.size).mono ?_
        rintro e W2 ⟨rfl, hw2, hb2, hm2⟩
        have HD := Lib.hid (And.intro hw2 (And.intro (hB1.trans hb2) ((ModW.of_below hn1).trans hm2)))
        clear hw2 hb2 hm2 hB1 hn1
        go_wp2_with fail
        go_end0
        exact ⟨rfl, HD.out⟩
    · by_cases hk2 : k = 2
      · rw [if_neg hk1, if_pos hk2] at hlen
        rw [if_neg hk1, if_pos hk2]
        go_enter Try.func24, Try.ntmps24
        go_wp2_with fail
        obtain ⟨W1, hW1⟩ : ∃ W1, W1 = w.alloc (.cells #[.int .i64 2, .int .i64 n, .string s, .slice A l.length c] 25) := ⟨_, rfl⟩
        rw [← hW1]
        have hn1 : Below w.heap.size w W1 := by rw [hW1]; exact (Below.refl _ _).alloc (Nat.le_refl _) _
        have hg1 : W1.heap[w.heap.size]? = some (.cells #[.int .i64 2, .int .i64 n, .string s, .slice A l.length c] 25 (0, 0)) := by rw [hW1]; exact heap_alloc_last _ _
        have hgs : w.heap.size < W1.heap.size := (Array.getElem?_eq_some_iff.1 hg1).1
        have hB1 : Below w0.heap.size w0 W1 := HB.out.trans (hn1.mono HB.out.size)
        have hhl := headB_len 3 s.size (by omega)
        refine (head_calls w0.heap.size b bs 3 s.size W1 (H.out.far hn1) (by decide) (by omega) (by omega) hB1.size).mono ?_
        rintro e W2 ⟨rfl, hw2, hb2, hm2⟩
        have hc2 : W2.drew.cell? ⟨w.heap.size, 2, none⟩ = some (.string s) := by
          have hh : W2.drew.heap[w.heap.size]? = _ := (hm2.block _ hgs (by omega) (by rw [hg1]; intro c f e; injection e with e; injection e with _ e _; cases e)).trans hg1
          rw [Lib.cell_of_heap hh]; rfl
        have hws := writeString w0.heap.size b _ s W2.drew (IsWr.far (.inr hw2) ((Below.refl _ _).drew)) (by
          simp only [List.length_append, Lib.byteCells_length] at hlen ⊢
          have : s.data.toList.length = s.size := by rw [Array.length_toList]; rfl
          omega) (Nat.le_trans hB1.size hb2.size)
        rw [List.append_assoc, strCells_bytes, ← byteCells_append] at hws
        have HWS := Lib.hid hws
        have HD := Lib.hid (And.intro (hB1.trans hb2) ((ModW.of_below hn1).trans hm2))
        clear hw2 hb2 hm2 hn1 hW1 hg1 hgs hB1 hws
        go_wp2_with fail
        go_region_with (refine HWS.out.mono ?_; rintro e W3 ⟨rfl, hw3, hb3, hm3⟩)
        all_goals (go_wp2_with fail; go_end0; exact ⟨rfl, hw3, HD.out.1.trans (Below.trans ((Below.refl _ _).drew) hb3), HD.out.2.trans (ModW.trans (ModW.refl b _).drew hm3)⟩)
      · rw [if_neg hk1, if_neg hk2] at hlen
        rw [if_neg hk1, if_neg hk2]
        go_enter Try.func24, Try.ntmps24
        go_wp2_with fail
        obtain ⟨W1, hW1⟩ : ∃ W1, W1 = w.alloc (.cells #[.int .i64 k, .int .i64 n, .string s, .slice A l.length c] 25) := ⟨_, rfl⟩
        rw [← hW1]
        have hn1 : Below w.heap.size w W1 := by rw [hW1]; exact (Below.refl _ _).alloc (Nat.le_refl _) _
        have hg1 : W1.heap[w.heap.size]? = some (.cells #[.int .i64 k, .int .i64 n, .string s, .slice A l.length c] 25 (0, 0)) := by rw [hW1]; exact heap_alloc_last _ _
        have hgs : w.heap.size < W1.heap.size := (Array.getElem?_eq_some_iff.1 hg1).1
        have hB1 : Below w0.heap.size w0 W1 := HB.out.trans (hn1.mono HB.out.size)
        have hlen1 : (headB 4 l.length).length ≤ 9 := by
          have := bes_len8 (n := l.length) (by omega)
          simp only [headB, List.length_cons]; omega
        refine (head_calls w0.heap.size b bs 4 l.length W1 (H.out.far hn1) (by decide) (by omega) (by omega) hB1.size).mono ?_
        rintro e W2 ⟨rfl, hw2, hb2, hm2⟩
        have hc2 : W2.cell? ⟨w.heap.size, 3, none⟩ = some (.slice A l.length c) := by
          rw [Lib.cell_of_heap ((hm2.block _ hgs (by omega) (by rw [hg1]; intro c f e; injection e with e; injection e with _ e _; cases e)).trans hg1)]; rfl
        have hpa : PutAt w0 b bs w w.heap.size #[] l 0 W2 := ⟨Nat.zero_le _, by simpa [encL] using hw2, hB1.trans hb2, (ModW.of_below hn1).trans hm2⟩
        have HPA := Lib.hid hpa
        clear hW1 hg1 hgs hB1 hw2 hb2 hm2 hpa
        go_wp2_with fail
        go_loopw [17] (fun v wr => ∃ i : Nat, v = .int .i64 (i : Int) ∧ PutAt w0 b bs w w.heap.size #[] l i wr) (fun v _ => l.length - (intOf v).toNat)
        case atStart => exact ⟨0, rfl, HPA.out⟩
        case round =>
          obtain ⟨i, rfl, hi, hwr, hbe, hmo⟩ := hrel
          have HWR := Lib.hid hwr
          have HBE := Lib.hid hbe
          have HMO := Lib.hid hmo
          clear hwr hbe hmo
          by_cases hil : i < l.length
          · obtain ⟨ad, A3, c3, rfl, c0, c1, c2, c3', l3, g3⟩ := at_T25 HA.out (i : Int) (by omega) (by omega)
            obtain ⟨x, hx⟩ : ∃ x, l[i]? = some x := ⟨_, List.getElem?_eq_getElem hil⟩
            have hrd : rd_T25 l (i : Int) = x := by unfold rd_T25; rw [Int.toNat_natCast, List.getD_eq_getElem?_getD, hx]; rfl
            rw [hrd] at c0 c1 c2 c3' l3 g3
            rw [Int.toNat_natCast] at c0 c1 c2 c3'
            have hbk := block_lt_of_cell c0
            have c0 := (HBE.out.cell hbk).trans c0
            have c1 := (HBE.out.cell (p := ⟨(ad.add (i * 4)).block, (ad.add (i * 4)).off + 1, none⟩) hbk).trans c1
            have c2 := (HBE.out.cell (p := ⟨(ad.add (i * 4)).block, (ad.add (i * 4)).off + 2, none⟩) hbk).trans c2
            have c3' := (HBE.out.cell (p := ⟨(ad.add (i * 4)).block, (ad.add (i * 4)).off + 3, none⟩) hbk).trans c3'
            have HX := Lib.hid hx
            have HG3 := Lib.hid g3
            clear hx hrd g3 hbk
            go_wp2_with fail
            obtain ⟨W3, hW3⟩ : ∃ W3, W3 = wr.alloc (.cells #[.int .i64 x.f0, .int .i64 x.f1, .string x.f2, .slice A3 x.f3.length c3] 25) := ⟨_, rfl⟩
            rw [← hW3]
            have hn3 : Below wr.heap.size wr W3 := by rw [hW3]; exact (Below.refl _ _).alloc (Nat.le_refl _) _
            clear hW3
            have hsz : SizeOf.sizeOf x < m := by
              have := List.sizeOf_lt_of_mem (List.mem_of_getElem? HX.out)
              simp at hm; omega
            have hxl : (l.take (i + 1)) = l.take i ++ [x] := by rw [List.take_add_one, HX.out]; rfl
            have hle : (bs ++ Lib.byteCells (headB 4 l.length ++ encL (l.take i))).length + (encS x).length + 16 ≤ 140737488355328 := by
              have := encL_take_le l (i + 1)
              rw [hxl, encL_snoc] at this
              simp only [List.length_append, Lib.byteCells_length] at this hlen ⊢
              omega
            refine (HIH.out x hsz w0 b _ A3 c3 W3 (IsWr.far (.inr HWR.out) hn3) HG3.out (wfL_at HW.out HX.out) hle (HBE.out.trans (hn3.mono HBE.out.size))).mono ?_
            rintro e W4 ⟨rfl, hw4, hb4, hm4⟩
            have hp4 : PutAt w0 b bs w w.heap.size #[] l (i + 1) W4 := ⟨hil, by
              rw [hxl, encL_snoc, ← List.append_assoc, byteCells_append, ← List.append_assoc]; exact hw4, hb4, (HMO.out.trans (ModW.of_below hn3)).trans hm4⟩
            have HP4 := Lib.hid hp4
            clear hw4 hb4 hm4 hp4 hxl hle hsz
            go_wp2_with fail
            go_roundw
            case rel => exact ⟨i + 1, by go_num, HP4.out⟩
            case measure => simp [intOf]; omega
          · have hie : i = l.length := by omega
            have hfin : Wr w0.heap.size b (.pointer (some ⟨b, 0, none⟩)) (bs ++ Lib.byteCells (headB 4 l.length ++ encL l)) wr := by
              have := HWR.out; rw [hie, List.take_length] at this; exact this
            have HF := Lib.hid hfin
            clear hfin hie
            go_wp2_with fail
            go_end0
            exact ⟨rfl, HF.out, HBE.out, HMO.out⟩
end Go.Proofs.Ytjelpapcboiimaa.PCellPuts
