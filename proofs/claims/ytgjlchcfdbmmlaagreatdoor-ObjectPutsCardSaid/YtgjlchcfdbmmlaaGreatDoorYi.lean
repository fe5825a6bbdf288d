/- Texts of one proof, joined: ZQA, ZSD, ZUG. -/
import Derived.Test.YtgjlchcfdbmmlaaGreatDoorYh
import Derived.Test.YtgjlchcfdbmmlaaGreatDoorYd
import Derived.Test.YtgjlchcfdbmmlaaGreatDoorYc
import Derived.StillTailTactics
import Derived.Test.YtgjlchcfdbmmlaaGreatDoorYb
set_option linter.unusedSimpArgs false
set_option linter.unusedVariables false
namespace Go.Proofs.YtgjlchcfdbmmlaaGreatDoor.PObjectPuts
open Go.RowKit Go.Proofs.YtgjlchcfdbmmlaaGreatDoor.Ord Go.Proofs.YtgjlchcfdbmmlaaGreatDoor.Obj Go.Proofs.YtgjlchcfdbmmlaaGreatDoorW.PrintWords Go.Proofs.YtgjlchcfdbmmlaaGreatDoorW.PrintLast Go.Proofs.YtgjlchcfdbmmlaaGreatDoorW.PrintMore
open Go.ChangeShapes Go.WideShapes
set_option maxRecDepth 100000

section
variable {H : Type} {enc : TypeId × Value → H} {W : World} {held : Bool}
theorem wf_byte {n : Int} (h : (Lit.int .u8 n).wf = true) : 0 ≤ n ∧ n ≤ 255 := by
  simp only [Lit.wf, Bool.and_eq_true, decide_eq_true_eq] at h
  exact ⟨Int.le_trans (by decide) h.1, Int.le_trans h.2 (by decide)⟩
theorem open_value {fuel : Nat} {cs : List Value} {x : DataW H × List MemPlace} (h : DataW.trod enc Tryz.prog W 0 (fun _ => true) held fuel 48 cs = some x) :
    ∃ v : S48, cs = [.int .i64 v.f0, .int .i64 v.f1, .string v.f2] ∧ (-9223372036854775808 ≤ v.f1 ∧ v.f1 ≤ 9223372036854775807) := by
  cases fuel with
  | zero => simp [DataW.trod] at h
  | succ fuel =>
    obtain ⟨xs, n, hn, _, hlen, hxs, hf⟩ := DataW.trod_struct Tryz.underlying48 h
    injection hn with hn
    subst hn
    obtain ⟨a, b, c, rfl⟩ : ∃ a b c, cs = [a, b, c] := by
      rw [show Tryz.prog.cellsOf 48 = 3 from by kernel_rfl] at hlen
      match cs, hlen with
      | [a, b, c], _ => exact ⟨a, b, c, rfl⟩
    have hx : xs.length = 3 := hxs
    have g0 : DataW.trod enc Tryz.prog W 0 (fun _ => true) held fuel 46 [a] = xs[0]? := by have := hf 0 _ rfl; rw [show Tryz.prog.cellsOf (_ : Field).type = 1 from by kernel_rfl] at this; exact this
    have g1 : DataW.trod enc Tryz.prog W 0 (fun _ => true) held fuel 3 [b] = xs[1]? := by have := hf 1 _ rfl; rw [show Tryz.prog.cellsOf (_ : Field).type = 1 from cells_one.1] at this; exact this
    have g2 : DataW.trod enc Tryz.prog W 0 (fun _ => true) held fuel 9 [c] = xs[2]? := by have := hf 2 _ rfl; rw [show Tryz.prog.cellsOf (_ : Field).type = 1 from cells_one.2.1] at this; exact this
    rw [List.getElem?_eq_getElem (by omega)] at g0 g1 g2
    obtain ⟨n0, e0, _, w0⟩ := DataW.trod_int Tryz.underlying46 g0
    obtain ⟨n1, e1, _, w1⟩ := DataW.trod_int Tryz.underlying3 g1
    obtain ⟨s2, e2, _, w2⟩ := DataW.trod_string Tryz.underlying9 g2
    simp at e0 e1 e2
    subst e0; subst e1; subst e2
    exact ⟨⟨n0, n1, s2⟩, rfl, wf_int w1⟩
theorem open_row {fuel : Nat} {cs : List Value} {x : DataW H × List MemPlace} (h : DataW.trod enc Tryz.prog W 0 (fun _ => true) held fuel 50 cs = some x) :
    ∃ v : S50, cs = [.int .i64 v.f0, .int .i64 v.f1, .int .i64 v.f2.f0, .int .i64 v.f2.f1, .string v.f2.f2] ∧
      ((-9223372036854775808 ≤ v.f0 ∧ v.f0 ≤ 9223372036854775807) ∧ (-9223372036854775808 ≤ v.f1 ∧ v.f1 ≤ 9223372036854775807) ∧ -9223372036854775808 ≤ v.f2.f1 ∧ v.f2.f1 ≤ 9223372036854775807) := by
  cases fuel with
  | zero => simp [DataW.trod] at h
  | succ fuel =>
    obtain ⟨xs, n, hn, _, hlen, hxs, hf⟩ := DataW.trod_struct Tryz.underlying50 h
    injection hn with hn
    subst hn
    obtain ⟨a, b, c, d, e, rfl⟩ : ∃ a b c d e, cs = [a, b, c, d, e] := by
      rw [show Tryz.prog.cellsOf 50 = 5 from by kernel_rfl] at hlen
      match cs, hlen with
      | [a, b, c, d, e], _ => exact ⟨a, b, c, d, e, rfl⟩
    have hx : xs.length = 3 := hxs
    have g0 : DataW.trod enc Tryz.prog W 0 (fun _ => true) held fuel 3 [a] = xs[0]? := by have := hf 0 _ rfl; rw [show Tryz.prog.cellsOf (_ : Field).type = 1 from by kernel_rfl] at this; exact this
    have g1 : DataW.trod enc Tryz.prog W 0 (fun _ => true) held fuel 3 [b] = xs[1]? := by have := hf 1 _ rfl; rw [show Tryz.prog.cellsOf (_ : Field).type = 1 from cells_one.1] at this; exact this
    have g2 : DataW.trod enc Tryz.prog W 0 (fun _ => true) held fuel 48 [c, d, e] = xs[2]? := by have := hf 2 _ rfl; rw [show Tryz.prog.cellsOf (_ : Field).type = 3 from by kernel_rfl] at this; exact this
    rw [List.getElem?_eq_getElem (by omega)] at g0 g1 g2
    obtain ⟨n0, e0, _, w0⟩ := DataW.trod_int Tryz.underlying3 g0
    obtain ⟨n1, e1, _, w1⟩ := DataW.trod_int Tryz.underlying3 g1
    obtain ⟨v, e2, w2⟩ := open_value g2
    simp at e0 e1 e2
    obtain ⟨e2, e3, e4⟩ := e2
    subst e0; subst e1; subst e2; subst e3; subst e4
    exact ⟨⟨n0, n1, v⟩, rfl, wf_int w0, wf_int w1, w2⟩
theorem open_kid {fuel : Nat} {cs : List Value} {x : DataW H × List MemPlace} (h : DataW.trod enc Tryz.prog W 0 (fun _ => true) held fuel 52 cs = some x) :
    ∃ v : S52, cs = [.int .u8 v.f0, .string v.f1] ∧ 0 ≤ v.f0 ∧ v.f0 ≤ 255 := by
  cases fuel with
  | zero => simp [DataW.trod] at h
  | succ fuel =>
    obtain ⟨xs, n, hn, _, hlen, hxs, hf⟩ := DataW.trod_struct Tryz.underlying52 h
    injection hn with hn
    subst hn
    obtain ⟨a, b, rfl⟩ : ∃ a b, cs = [a, b] := by
      rw [show Tryz.prog.cellsOf 52 = 2 from by kernel_rfl] at hlen
      match cs, hlen with
      | [a, b], _ => exact ⟨a, b, rfl⟩
    have hx : xs.length = 2 := hxs
    have g0 : DataW.trod enc Tryz.prog W 0 (fun _ => true) held fuel 5 [a] = xs[0]? := by have := hf 0 _ rfl; rw [show Tryz.prog.cellsOf (_ : Field).type = 1 from by kernel_rfl] at this; exact this
    have g1 : DataW.trod enc Tryz.prog W 0 (fun _ => true) held fuel 9 [b] = xs[1]? := by have := hf 1 _ rfl; rw [show Tryz.prog.cellsOf (_ : Field).type = 1 from cells_one.2.1] at this; exact this
    rw [List.getElem?_eq_getElem (by omega)] at g0 g1
    obtain ⟨n0, e0, _, w0⟩ := DataW.trod_int Tryz.underlying5 g0
    obtain ⟨s1, e1, _, w1⟩ := DataW.trod_string Tryz.underlying9 g1
    simp at e0 e1
    subst e0; subst e1
    exact ⟨⟨n0, s1⟩, rfl, wf_byte w0⟩
/-- A string that comes in. -/
theorem open_str1 {fuel : Nat} {cs : List Value} {x : DataW H × List MemPlace} (h : DataW.trod enc Tryz.prog W 0 (fun _ => true) held fuel 9 cs = some x) : ∃ s, cs = [.string s] := by
  cases fuel with
  | zero => simp [DataW.trod] at h
  | succ fuel => obtain ⟨s, e, _, _⟩ := DataW.trod_string Tryz.underlying9 h; exact ⟨s, e⟩
theorem open_rows {fuel : Nat} {cs : List Value} {x : DataW H × List MemPlace} (h : DataW.trod enc Tryz.prog W 0 (fun _ => true) held fuel 23 cs = some x) :
    ∃ l A c, cs = [.slice A (l : List S50).length c] ∧ l.length ≤ c ∧ Kd.C k50 W A l.length l ∧
      ∀ v ∈ l, ((-9223372036854775808 ≤ v.f0 ∧ v.f0 ≤ 9223372036854775807) ∧ (-9223372036854775808 ≤ v.f1 ∧ v.f1 ≤ 9223372036854775807) ∧ -9223372036854775808 ≤ v.f2.f1 ∧ v.f2.f1 ≤ 9223372036854775807) := by
  cases fuel with
  | zero => simp [DataW.trod] at h
  | succ fuel => exact open_sl k50 _ 23 50 Tryz.underlying23 (by kernel_rfl) (fun cs x h _ => by obtain ⟨v, e, w⟩ := open_row h; exact ⟨v, by rw [e]; exact k50_mk W v, w⟩) h
theorem open_kids {fuel : Nat} {cs : List Value} {x : DataW H × List MemPlace} (h : DataW.trod enc Tryz.prog W 0 (fun _ => true) held fuel 24 cs = some x) :
    ∃ l A c, cs = [.slice A (l : List S52).length c] ∧ l.length ≤ c ∧ Kd.C k52 W A l.length l ∧ ∀ v ∈ l, 0 ≤ v.f0 ∧ v.f0 ≤ 255 := by
  cases fuel with
  | zero => simp [DataW.trod] at h
  | succ fuel => exact open_sl k52 _ 24 52 Tryz.underlying24 (by kernel_rfl) (fun cs x h _ => by obtain ⟨v, e, w⟩ := open_kid h; exact ⟨v, by rw [e]; exact k52_mk W v, w⟩) h
theorem open_strs {fuel : Nat} {cs : List Value} {x : DataW H × List MemPlace} (h : DataW.trod enc Tryz.prog W 0 (fun _ => true) held fuel 25 cs = some x) :
    ∃ l A c, cs = [.slice A (l : List ByteArray).length c] ∧ l.length ≤ c ∧ Kd.C Kd.string W A l.length l ∧ ∀ v ∈ l, True := by
  cases fuel with
  | zero => simp [DataW.trod] at h
  | succ fuel => exact open_sl Kd.string _ 25 9 Tryz.underlying25 (by kernel_rfl) (fun cs x h _ => by obtain ⟨v, e⟩ := open_str1 h; exact ⟨v, by rw [e]; exact rfl, trivial⟩) h
set_option maxRecDepth 100000 in
/-- An argument of the type of objects. -/
theorem open_ob {r : Reach} {b0 : Nat} {v : Value} {d : DataW H} {p : List MemPlace} (hv : Value.okWide Tryz.prog W r b0 27 v) (h : DataW.Trod enc Tryz.prog W 0 (fun _ => true) held 27 v d p) :
    ∃ (o : Ob) (Ar : Option Addr) (cr : Nat) (Ak : Option Addr) (ck : Nat) (Ap : Option Addr) (cp : Nat), v = .agg (obV o Ar cr Ak ck Ap cp) ∧ ObAt W o Ar cr Ak ck Ap cp ∧ wfOb o := by
  obtain ⟨cs, rfl, hsz⟩ := okWide_struct Tryz.underlying27 hv
  obtain ⟨fuel, hf⟩ := h
  have hf' : DataW.trod enc Tryz.prog W 0 (fun _ => true) held fuel 27 cs.toList = some (d, p) := hf
  clear hf
  cases fuel with
  | zero => simp [DataW.trod] at hf'
  | succ fuel =>
    obtain ⟨xs, n, hn, _, hlen, hxs, hf⟩ := DataW.trod_struct Tryz.underlying27 hf'
    injection hn with hn
    subst hn
    obtain ⟨a, b, c, d, e, f, g, i, ecs⟩ : ∃ a b c d e f g i, cs.toList = [a, b, c, d, e, f, g, i] := by
      rw [show Tryz.prog.cellsOf 27 = 8 from by kernel_rfl] at hlen
      match cs.toList, hlen with
      | [a, b, c, d, e, f, g, i], _ => exact ⟨a, b, c, d, e, f, g, i, rfl⟩
    rw [ecs] at hf
    have hx : xs.length = 8 := hxs
    have g0 : DataW.trod enc Tryz.prog W 0 (fun _ => true) held fuel 22 [a] = xs[0]? := by have := hf 0 _ rfl; rw [show Tryz.prog.cellsOf (_ : Field).type = 1 from by kernel_rfl] at this; exact this
    have g1 : DataW.trod enc Tryz.prog W 0 (fun _ => true) held fuel 9 [b] = xs[1]? := by have := hf 1 _ rfl; rw [show Tryz.prog.cellsOf (_ : Field).type = 1 from cells_one.2.1] at this; exact this
    have g2 : DataW.trod enc Tryz.prog W 0 (fun _ => true) held fuel 23 [c] = xs[2]? := by have := hf 2 _ rfl; rw [show Tryz.prog.cellsOf (_ : Field).type = 1 from by kernel_rfl] at this; exact this
    have g3 : DataW.trod enc Tryz.prog W 0 (fun _ => true) held fuel 24 [d] = xs[3]? := by have := hf 3 _ rfl; rw [show Tryz.prog.cellsOf (_ : Field).type = 1 from by kernel_rfl] at this; exact this
    have g4 : DataW.trod enc Tryz.prog W 0 (fun _ => true) held fuel 25 [e] = xs[4]? := by have := hf 4 _ rfl; rw [show Tryz.prog.cellsOf (_ : Field).type = 1 from by kernel_rfl] at this; exact this
    have g5 : DataW.trod enc Tryz.prog W 0 (fun _ => true) held fuel 3 [f] = xs[5]? := by have := hf 5 _ rfl; rw [show Tryz.prog.cellsOf (_ : Field).type = 1 from cells_one.1] at this; exact this
    have g6 : DataW.trod enc Tryz.prog W 0 (fun _ => true) held fuel 9 [g] = xs[6]? := by have := hf 6 _ rfl; rw [show Tryz.prog.cellsOf (_ : Field).type = 1 from cells_one.2.1] at this; exact this
    have g7 : DataW.trod enc Tryz.prog W 0 (fun _ => true) held fuel 9 [i] = xs[7]? := by have := hf 7 _ rfl; rw [show Tryz.prog.cellsOf (_ : Field).type = 1 from cells_one.2.1] at this; exact this
    rw [List.getElem?_eq_getElem (by omega)] at g0 g1 g2 g3 g4 g5 g6 g7
    obtain ⟨n0, e0, _, w0⟩ := DataW.trod_int Tryz.underlying22 g0
    obtain ⟨s1, e1, _, w1⟩ := DataW.trod_string Tryz.underlying9 g1
    obtain ⟨lr, Ar, cr, e2, l2, c2, w2⟩ := open_rows g2
    obtain ⟨lk, Ak, ck, e3, l3, c3, w3⟩ := open_kids g3
    obtain ⟨lp, Ap, cp, e4, l4, c4, _⟩ := open_strs g4
    obtain ⟨n5, e5, _, w5⟩ := DataW.trod_int Tryz.underlying3 g5
    obtain ⟨s6, e6, _, w6⟩ := DataW.trod_string Tryz.underlying9 g6
    obtain ⟨s7, e7, _, w7⟩ := DataW.trod_string Tryz.underlying9 g7
    simp at e0 e1 e2 e3 e4 e5 e6 e7
    subst e0; subst e1; subst e2; subst e3; subst e4; subst e5; subst e6; subst e7
    refine ⟨⟨n0, s1, lr, lk, lp, n5, s6, s7⟩, Ar, cr, Ak, ck, Ap, cp, ?_, ⟨c2, l2, c3, l3, c4, l4⟩, ⟨wf_int w5, w2, w3⟩⟩
    rw [← Array.toArray_toList (xs := cs), ecs]
    rfl
/-- The two tables of unicode/utf8, off the row's list. -/
theorem tabs_of (hL : laidMet Tryz.prog Rows.objectPutsRow.laid W) : Lib.Utf8Tabs 0 1 W :=
  utf8Tabs_of_reads (ρ := Tryz.lays260_ren) Tryz.lays260 ⟨by kernel_rfl, by kernel_rfl, by kernel_rfl, by kernel_rfl, by kernel_rfl, by kernel_rfl, by kernel_rfl⟩ (Lib.laidMet.reads hL (.tail _ (.head _))) (Lib.laidMet.reads hL (.head _))
end
end Go.Proofs.YtgjlchcfdbmmlaaGreatDoor.PObjectPuts
namespace Go.Proofs.YtgjlchcfdbmmlaaGreatDoor.PObjectPuts
open Go.RowKit Go.Proofs.YtgjlchcfdbmmlaaGreatDoor.Ord Go.Proofs.YtgjlchcfdbmmlaaGreatDoor.Obj Go.Proofs.YtgjlchcfdbmmlaaGreatDoorW.PrintWords Go.Proofs.YtgjlchcfdbmmlaaGreatDoorW.PrintLast Go.Proofs.YtgjlchcfdbmmlaaGreatDoorW.PrintMore
attribute [local irreducible] OpGives

/-- Are two cells the same? -/
noncomputable def eqC (x y : S38) : Bool := @decide (x = y) (Classical.propDecidable _)
theorem eqC_self (x : S38) : eqC x x = true := by unfold eqC; simp
theorem eqC_ne {x y : S38} (h : x ≠ y) : eqC x y = false := by unfold eqC; simp [h]
theorem eqC_true {x y : S38} (h : eqC x y = true) : x = y := by unfold eqC at h; simpa using h
theorem eqC_false {x y : S38} (h : eqC x y = false) : x ≠ y := fun e => by rw [e, eqC_self] at h; cases h
theorem cell_at {w : World} {A : Option Addr} {l : List S38} {i : Nat} {x : S38} (h : Kd.C k38 w A l.length l) (hx : l[i]? = some x) :
    ∃ ad A3 c3, A = some ad ∧ w.cell? (ad.add (i * 4)) = some (.int .i64 x.f0) ∧ w.cell? ⟨(ad.add (i * 4)).block, (ad.add (i * 4)).off + 1, none⟩ = some (.int .i64 x.f1) ∧ w.cell? ⟨(ad.add (i * 4)).block, (ad.add (i * 4)).off + 2, none⟩ = some (.string x.f2) ∧ w.cell? ⟨(ad.add (i * 4)).block, (ad.add (i * 4)).off + 3, none⟩ = some (.slice A3 x.f3.length c3) ∧ x.f3.length ≤ c3 ∧ Kd.C k38 w A3 x.f3.length x.f3 ∧ (ad.add (i * 4)).block < w.heap.size := by
  have hi : i < l.length := (List.getElem?_eq_some_iff.1 hx).1
  obtain ⟨ad, A3, c3, e, c0, c1, c2, c4, l3, g3⟩ := at_T38 h (i : Int) (by omega) (by omega)
  have hrd : rd_T38 l (i : Int) = x := by unfold rd_T38; rw [Int.toNat_natCast, List.getD_eq_getElem?_getD, hx]; rfl
  rw [hrd] at c0 c1 c2 c4 l3 g3
  rw [Int.toNat_natCast] at c0 c1 c2 c4
  exact ⟨ad, A3, c3, e, c0, c1, c2, c4, l3, g3, block_lt_of_cell c0⟩
set_option maxHeartbeats 8000000 in
set_option maxRecDepth 100000 in
theorem same4_calls : ∀ (z : Nat) (x y : S38), SizeOf.sizeOf x < z → ∀ (A : Option Addr) (c : Nat) (A' : Option Addr) (c' : Nat) (w : World), Kd.C k38 w A x.f3.length x.f3 → Kd.C k38 w A' y.f3.length y.f3 →
    Calls Tryz.prog 12 #[.agg #[.int .i64 x.f0, .int .i64 x.f1, .string x.f2, .slice A x.f3.length c], .agg #[.int .i64 y.f0, .int .i64 y.f1, .string y.f2, .slice A' y.f3.length c']] w fun e w' => e = .returned (.bool (eqC x y)) ∧ Below w.heap.size w w'
  | 0, x, y, h, A, c, A', c', w, hA, hA' => by omega
  | z + 1, x, y, h, A, c, A', c', w, hA, hA' => by
    have HIH := Lib.hid (fun x y h A c A' c' w => same4_calls z x y h A c A' c' w)
    obtain ⟨RV, hRV⟩ : ∃ RV, RV = eqC x y := ⟨_, rfl⟩
    rw [← hRV]
    have HRV := Lib.hid hRV
    clear hRV
    obtain ⟨k, n, s, l⟩ := x
    obtain ⟨k', n', s', l'⟩ := y
    simp only at hA hA' ⊢
    obtain ⟨W2, hW2⟩ : ∃ W2, W2 = (w.alloc (.cells #[.int .i64 k, .int .i64 n, .string s, .slice A l.length c] 38)).alloc (.cells #[.int .i64 k', .int .i64 n', .string s', .slice A' l'.length c'] 38) := ⟨_, rfl⟩
    have hn2 : Below w.heap.size w W2 := by rw [hW2]; exact ((Below.refl _ _).alloc (Nat.le_refl _) _).alloc (by simp) _
    have hg2 : W2.heap[w.heap.size + 1]? = some (.cells #[.int .i64 k', .int .i64 n', .string s', .slice A' l'.length c'] 38 (0, 0)) := by
      have := alloc_lastV (w.alloc (.cells #[.int .i64 k, .int .i64 n, .string s, .slice A l.length c] 38)) (.cells #[.int .i64 k', .int .i64 n', .string s', .slice A' l'.length c'] 38)
      rw [← hW2] at this; simpa using this
    have hg1 : W2.heap[w.heap.size]? = some (.cells #[.int .i64 k, .int .i64 n, .string s, .slice A l.length c] 38 (0, 0)) := by
      have h1 := alloc_lastV w (.cells #[.int .i64 k, .int .i64 n, .string s, .slice A l.length c] 38)
      rw [hW2]; exact (((Below.refl _ (w.alloc (.cells #[.int .i64 k, .int .i64 n, .string s, .slice A l.length c] 38))).alloc (Nat.le_refl _) _).block _ (Array.getElem?_eq_some_iff.1 h1).1).trans h1
    obtain ⟨⟨b0, b1, b2, b3⟩, _⟩ := box4 hg1
    obtain ⟨⟨d0, d1, d2, d3⟩, _⟩ := box4 hg2
    have HN := Lib.hid hn2
    have HG1 := Lib.hid hg1
    have HG2 := Lib.hid hg2
    have HA := Lib.hid (Kd.C_below hA hn2)
    have HA' := Lib.hid (Kd.C_below hA' hn2)
    have hmx := hA.2.1
    rw [hW2] at b0 b1 b2 b3 d0 d1 d2 d3
    have HW2 := Lib.hid hW2
    clear hW2 hn2 hg1 hg2 hA hA'
    have HNO := Lib.hid (fun (h : (⟨k, n, s, l⟩ : S38) ≠ ⟨k', n', s', l'⟩) => (HRV.out.trans (eqC_ne h) : RV = false))
    by_cases h0 : k = k'
    case neg =>
      have HF := Lib.hid (HNO.out (fun e => by cases e; exact h0 rfl))
      go_enter Tryz.func12, Tryz.ntmps12
      go_wp2_with fail
      go_ret
      exact ⟨by rw [HF.out]; rfl, ((Below.refl _ _).alloc (Nat.le_refl _) _).alloc (by simp) _⟩
    subst h0
    by_cases h1 : n = n'
    case neg =>
      have HF := Lib.hid (HNO.out (fun e => by cases e; exact h1 rfl))
      go_enter Tryz.func12, Tryz.ntmps12
      go_wp2_with fail
      go_ret
      exact ⟨by rw [HF.out]; rfl, ((Below.refl _ _).alloc (Nat.le_refl _) _).alloc (by simp) _⟩
    subst h1
    by_cases h2 : s = s'
    case neg =>
      have HF := Lib.hid (HNO.out (fun e => by cases e; exact h2 rfl))
      have h2' : (s.toList == s'.toList) = false := by
        rw [beq_eq_false_iff_ne]; intro e
        rw [Lib.toList_data, Lib.toList_data] at e
        exact h2 (by cases s; cases s'; simp only [ByteArray.mk.injEq]; exact Array.toList_inj.1 e)
      go_enter Tryz.func12, Tryz.ntmps12
      go_wp2_with fail
      go_ret
      exact ⟨by rw [HF.out]; rfl, ((Below.refl _ _).alloc (Nat.le_refl _) _).alloc (by simp) _⟩
    subst h2
    by_cases h3 : l.length = l'.length
    case neg =>
      have HF := Lib.hid (HNO.out (fun e => by cases e; exact h3 rfl))
      go_enter Tryz.func12, Tryz.ntmps12
      go_wp2_with fail
      go_ret
      exact ⟨by rw [HF.out]; rfl, ((Below.refl _ _).alloc (Nat.le_refl _) _).alloc (by simp) _⟩
    have HL := Lib.hid h3
    rw [← h3] at d3
    have HG3 := Lib.hid (by have := HG2.out; rw [← h3] at this; exact this)
    have HA3 := Lib.hid (by have := HA'.out; rw [← h3] at this; exact this)
    rw [← h3]
    rw [← h3] at HW2
    clear h3 HA' HG2
    go_enter Tryz.func12, Tryz.ntmps12
    go_wp2_with fail
    rw [← HW2.out]
    clear b0 b1 b2 b3 d0 d1 d2 d3
    go_loopw [5] (fun v wr => ∃ i : Nat, v = .int .i64 (i : Int) ∧ i ≤ l.length ∧ Hid (l.take i = l'.take i) ∧ Below W2.heap.size W2 wr) (fun v _ => l.length - (intOf v).toNat)
    case atStart => exact ⟨0, rfl, Nat.zero_le _, Lib.hid rfl, Below.refl _ _⟩
    case round =>
      obtain ⟨i, rfl, hi, HT, hbe⟩ := hrel
      have HBE := Lib.hid hbe
      have hgr1 := (hbe.block _ (Array.getElem?_eq_some_iff.1 HG1.out).1).trans HG1.out
      have hgr2 := (hbe.block _ (Array.getElem?_eq_some_iff.1 HG3.out).1).trans HG3.out
      obtain ⟨⟨b0, b1, b2, b3⟩, _⟩ := box4 hgr1
      obtain ⟨⟨d0, d1, d2, d3⟩, _⟩ := box4 hgr2
      by_cases hil : i < l.length
      · obtain ⟨x, hx⟩ : ∃ x, l[i]? = some x := ⟨_, List.getElem?_eq_getElem hil⟩
        obtain ⟨y, hy⟩ : ∃ y, l'[i]? = some y := ⟨_, List.getElem?_eq_getElem (by have := HL.out; omega)⟩
        have hA := Kd.C_below HA.out hbe
        have hA' := Kd.C_below HA3.out hbe
        obtain ⟨ad, A3, c3, rfl, c0, c1, c2, c3', l3, g3, hbk⟩ := cell_at hA hx
        obtain ⟨ad', A4, c4, rfl, e0, e1, e2, e3, l4, g4, hbk'⟩ := cell_at (l := l') (by have := HL.out; rw [← this]; exact hA') hy
        have hsz : SizeOf.sizeOf x < z := by
          have := List.sizeOf_lt_of_mem (List.mem_of_getElem? hx)
          simp at h; omega
        have HC := Lib.hid (fun W (hW : Below wr.heap.size wr W) => HIH.out x y hsz A3 c3 A4 c4 W (Kd.C_below g3 hW) (Kd.C_below g4 hW))
        have HX := Lib.hid (And.intro hx hy)
        clear hA hA' g3 g4 hsz hx hy hbe hgr1 hgr2
        go_wp2_with fail
        go_still_tail 10, (by kernel_rfl)
        change wpList _ _ _ _ _ wr.drew
        have hbd : Below wr.heap.size wr wr.drew := (Below.refl _ _).drew
        have HCD := Lib.hid (HC.out wr.drew hbd)
        have HBD := Lib.hid hbd
        clear hbd
        generalize wr.drew = w3 at HCD HBD ⊢
        go_wp2_with fail
        refine HCD.out.mono ?_
        rintro e W4 ⟨rfl, hb4⟩
        have HB4 := Lib.hid (HBE.out.trans ((HBD.out.trans (hb4.mono HBD.out.size)).mono HBE.out.size))
        clear hb4
        cases hq : eqC x y with
        | true =>
          have HT2 := Lib.hid (show l.take (i + 1) = l'.take (i + 1) by rw [List.take_add_one, List.take_add_one, HX.out.1, HX.out.2, HT.out, eqC_true hq])
          clear hq
          go_wp2_with fail
          go_roundw
          case rel => exact ⟨i + 1, by go_num, hil, HT2, HB4.out⟩
          case measure => simp [intOf]; omega
        | false =>
          have HF := Lib.hid (HNO.out (fun e => by
            injection e with e1 e2 e3 e4
            have h1 := HX.out.1; have h2 := HX.out.2
            rw [e4] at h1; rw [h1] at h2
            exact eqC_false hq (Option.some.inj h2)))
          clear hq
          go_wp2_with fail
          go_ret
          exact ⟨by rw [HF.out]; rfl, HN.out.trans (HB4.out.mono HN.out.size)⟩
      · have HF := Lib.hid (show RV = true by
          have hie : i = l.length := by omega
          have ht := HT.out
          rw [hie, List.take_length, HL.out, List.take_length] at ht
          rw [HRV.out, ht]; exact eqC_self _)
        clear hbe hgr1 hgr2
        go_wp2_with fail
        go_ret
        exact ⟨by rw [HF.out]; rfl, HN.out.trans (HBE.out.mono HN.out.size)⟩
end Go.Proofs.YtgjlchcfdbmmlaaGreatDoor.PObjectPuts
namespace Go.Proofs.YtgjlchcfdbmmlaaGreatDoor.PObjectPuts
open Go.RowKit Go.Proofs.YtgjlchcfdbmmlaaGreatDoor.Ord Go.Proofs.YtgjlchcfdbmmlaaGreatDoor.Obj Go.Proofs.YtgjlchcfdbmmlaaGreatDoorW.PrintWords Go.Proofs.YtgjlchcfdbmmlaaGreatDoorW.PrintLast Go.Proofs.YtgjlchcfdbmmlaaGreatDoorW.PrintMore
attribute [local irreducible] OpGives
attribute [local go_sem] rdl_const rdl_func rdl_global rdl_nil rdl_cons

set_option maxHeartbeats 32000000 in
set_option maxRecDepth 100000 in
theorem objectPuts_walk (o : Ob) (Ar : Option Addr) (cr : Nat) (Ak : Option Addr) (ck : Nat) (Ap : Option Addr) (cp : Nat) (w : World) (hO : ObAt w o Ar cr Ak ck Ap cp) (hw : wfOb o) (hT : Lib.Utf8Tabs 0 1 w) :
    Calls Tryz.prog 3 #[.agg (obV o Ar cr Ak ck Ap cp)] w fun e w' => e = .returned (.bool true) ∧ Below w.heap.size w w' := by
  obtain ⟨W1, hW1⟩ : ∃ W1, W1 = w.alloc (.cells (obV o Ar cr Ak ck Ap cp) 27) := ⟨_, rfl⟩
  have hn1 : Below w.heap.size w W1 := by rw [hW1]; exact (Below.refl _ _).alloc (Nat.le_refl _) _
  have hg1 : W1.heap[w.heap.size]? = some (.cells (obV o Ar cr Ak ck Ap cp) 27 (0, 0)) := by rw [hW1]; exact alloc_lastV _ _
  have hq := small_calls o Ar cr Ak ck Ap cp W1 (hO.below hn1)
  have HSMALL := Lib.hid hq
  have HN1 := Lib.hid hn1
  have hkx : o.kids.length ≤ 9223372036854775807 := hO.k.2.1
  have hL : ∀ W, Below w.heap.size w W → Calls Tryz.prog 5 #[] W fun e w' => e = .returned (.bool true) ∧ Below W.heap.size W w' := fun W h => lives_calls W (Utf8Tabs_below hT h)
  have HL := Lib.hid hL
  have HP3 := Lib.hid (fun W (h : Below w.heap.size w W) => oput_calls o Ar cr Ak ck Ap cp W (hO.below h) hw (Utf8Tabs_below hT h))
  have HP4 := Lib.hid (fun W (h : Below w.heap.size w W) => dput_calls o Ar cr Ak ck Ap cp W (hO.below h) hw hkx)
  have HP5 := Lib.hid (fun W (h : Below w.heap.size w W) => oid_calls o Ar cr Ak ck Ap cp W (hO.below h) hw (Utf8Tabs_below hT h))
  have HP6 := Lib.hid (fun W (h : Below w.heap.size w W) => did_calls o Ar cr Ak ck Ap cp W (hO.below h) hw hkx)
  have HP7 := Lib.hid (fun W (h : Below w.heap.size w W) => putrows_calls o.rows Ar cr W (hO.below h).r (hO.below h).lr (Utf8Tabs_below hT h))
  have HP8 := Lib.hid (fun W (h : Below w.heap.size w W) => dputrows_calls o.rows Ar cr W (hO.below h).r (hO.below h).lr)
  have HC1 := Lib.hid (fun W (h : Below w.heap.size w W) => ocheck_calls o Ar cr Ak ck Ap cp W (hO.below h) (Utf8Tabs_below hT h))
  have HC2 := Lib.hid (fun W (h : Below w.heap.size w W) => dcheck_calls o Ar cr Ak ck Ap cp W (hO.below h) hkx)
  clear hn1 hq hL hO hw hT hkx
  generalize putS o = S at HP3 HP4
  generalize idS o = I at HP5 HP6
  generalize errO (okOb o) = E at HP3 HP4 HP5 HP6 HC1 HC2
  generalize rowsR o.rows = R at HP7 HP8
  generalize errO (okRows o.rows) = F at HP7 HP8
  unfold obV at hW1 hg1 HSMALL HP3 HP4 HP5 HP6 HC1 HC2 ⊢
  obtain ⟨o0, o1, o2, o3, o4, o5, o6, o7⟩ := o
  simp only at hW1 hg1 HSMALL HP3 HP4 HP5 HP6 HP7 HP8 HC1 HC2 ⊢
  obtain ⟨⟨b0, b1, b2, b3⟩, b4, b5, b6, b7⟩ := box8 hg1
  have HG1 := Lib.hid hg1
  rw [hW1] at b0 b1 b2 b3 b4 b5 b6 b7
  have HW1 := Lib.hid hW1
  clear hg1 hW1
  go_enter Tryz.func3, Tryz.ntmps3
  go_wp2_with fail
  rw [← HW1.out]
  clear b0 b1 b2 b3 b4 b5 b6 b7
  refine HSMALL.out.mono ?_
  rintro e W2 ⟨q, rfl, hb2⟩
  have HB2 := Lib.hid (HN1.out.trans (hb2.mono HN1.out.size))
  have HG2 := Lib.hid ((hb2.block _ (Array.getElem?_eq_some_iff.1 HG1.out).1).trans HG1.out)
  clear hb2
  cases q with
  | false =>
    go_wp2_with fail
    refine (HL.out W2 HB2.out).mono ?_
    rintro e W3 ⟨rfl, hb3⟩
    have HF := Lib.hid (HB2.out.trans (hb3.mono HB2.out.size))
    clear hb3
    go_wp2_with fail
    go_ret
    exact ⟨rfl, HF.out⟩
  | true =>
    obtain ⟨⟨b0, b1, b2, b3⟩, b4, b5, b6, b7⟩ := box8 HG2.out
    go_wp2_with fail
    clear b0 b1 b2 b3 b4 b5 b6 b7
    refine (HP3.out W2 HB2.out).mono ?_
    rintro e W3 ⟨rfl, hb3⟩
    have HB3 := Lib.hid (HB2.out.trans (hb3.mono HB2.out.size))
    have HG3 := Lib.hid ((hb3.block _ (Array.getElem?_eq_some_iff.1 HG2.out).1).trans HG2.out)
    clear hb3
    obtain ⟨⟨b0, b1, b2, b3⟩, b4, b5, b6, b7⟩ := box8 HG3.out
    go_wp2_with fail
    clear b0 b1 b2 b3 b4 b5 b6 b7
    refine (HP4.out W3 HB3.out).mono ?_
    rintro e W4 ⟨rfl, hb4⟩
    have HB4 := Lib.hid (HB3.out.trans (hb4.mono HB3.out.size))
    have HG4 := Lib.hid ((hb4.block _ (Array.getElem?_eq_some_iff.1 HG3.out).1).trans HG3.out)
    clear hb4
    obtain ⟨⟨b0, b1, b2, b3⟩, b4, b5, b6, b7⟩ := box8 HG4.out
    go_wp2_with fail
    clear b0 b1 b2 b3 b4 b5 b6 b7
    refine (HP5.out W4 HB4.out).mono ?_
    rintro e W5 ⟨rfl, hb5⟩
    have HB5 := Lib.hid (HB4.out.trans (hb5.mono HB4.out.size))
    have HG5 := Lib.hid ((hb5.block _ (Array.getElem?_eq_some_iff.1 HG4.out).1).trans HG4.out)
    clear hb5
    obtain ⟨⟨b0, b1, b2, b3⟩, b4, b5, b6, b7⟩ := box8 HG5.out
    go_wp2_with fail
    clear b0 b1 b2 b3 b4 b5 b6 b7
    refine (HP6.out W5 HB5.out).mono ?_
    rintro e W6 ⟨rfl, hb6⟩
    have HB6 := Lib.hid (HB5.out.trans (hb6.mono HB5.out.size))
    have HG6 := Lib.hid ((hb6.block _ (Array.getElem?_eq_some_iff.1 HG5.out).1).trans HG5.out)
    clear hb6
    obtain ⟨⟨b0, b1, b2, b3⟩, b4, b5, b6, b7⟩ := box8 HG6.out
    go_wp2_with fail
    skip
    clear b0 b1 b2 b3 b4 b5 b6 b7
    refine (HP7.out W6 HB6.out).mono ?_
    rintro e W7 ⟨u7, rfl, ⟨v7, rfl, hR7⟩, hb7⟩
    obtain ⟨A7, c7, rfl⟩ := R_slice hR7
    obtain ⟨_, hc7, hC7⟩ := Kd.R_reads' hR7
    obtain ⟨Y7, hY7⟩ : ∃ Y7, Y7 = W7.alloc (.cells #[.int .i64 R.f0, .int .i64 R.f1, .string R.f2, .slice A7 R.f3.length c7] 38) := ⟨_, rfl⟩
    have hn7 : Below W7.heap.size W7 Y7 := by rw [hY7]; exact (Below.refl _ _).alloc (Nat.le_refl _) _
    have hg7 : Y7.heap[W7.heap.size]? = some (.cells #[.int .i64 R.f0, .int .i64 R.f1, .string R.f2, .slice A7 R.f3.length c7] 38 (0, 0)) := by rw [hY7]; exact alloc_lastV _ _
    have hx7 : Below W6.heap.size W6 Y7 := hb7.trans (hn7.mono hb7.size)
    have HBY7 := Lib.hid (HB6.out.trans (hx7.mono HB6.out.size))
    have HGY7 := Lib.hid ((hx7.block _ (Array.getElem?_eq_some_iff.1 HG6.out).1).trans HG6.out)
    have HK7 := Lib.hid (Kd.C_below hC7 hn7)
    have HKC7 := Lib.hid hc7
    have HGC7 := Lib.hid hg7
    skip
    have HWY7 := Lib.hid hY7
    obtain ⟨⟨b0, b1, b2, b3⟩, b4, b5, b6, b7⟩ := box8 HGY7.out
    rw [hY7] at b0 b1 b2 b3 b4 b5 b6 b7
    clear hY7 hn7 hg7 hx7 hb7 hR7 hC7 hc7
    go_wp2_with fail
    rw [← HWY7.out]
    clear b0 b1 b2 b3 b4 b5 b6 b7
    refine (HP8.out Y7 HBY7.out).mono ?_
    rintro e W8 ⟨u8, rfl, ⟨v8, rfl, hR8⟩, hb8⟩
    obtain ⟨A8, c8, rfl⟩ := R_slice hR8
    obtain ⟨_, hc8, hC8⟩ := Kd.R_reads' hR8
    obtain ⟨Y8, hY8⟩ : ∃ Y8, Y8 = W8.alloc (.cells #[.int .i64 R.f0, .int .i64 R.f1, .string R.f2, .slice A8 R.f3.length c8] 38) := ⟨_, rfl⟩
    have hn8 : Below W8.heap.size W8 Y8 := by rw [hY8]; exact (Below.refl _ _).alloc (Nat.le_refl _) _
    have hg8 : Y8.heap[W8.heap.size]? = some (.cells #[.int .i64 R.f0, .int .i64 R.f1, .string R.f2, .slice A8 R.f3.length c8] 38 (0, 0)) := by rw [hY8]; exact alloc_lastV _ _
    have hx8 : Below Y7.heap.size Y7 Y8 := hb8.trans (hn8.mono hb8.size)
    have HBY8 := Lib.hid (HBY7.out.trans (hx8.mono HBY7.out.size))
    have HGY8 := Lib.hid ((hx8.block _ (Array.getElem?_eq_some_iff.1 HGY7.out).1).trans HGY7.out)
    have HK8 := Lib.hid (Kd.C_below hC8 hn8)
    have HKC8 := Lib.hid hc8
    have HGC8 := Lib.hid hg8
    have HX8 := Lib.hid hx8
    have HWY8 := Lib.hid hY8
    clear hY8 hn8 hg8 hx8 hb8 hR8 hC8 hc8
    have hin : ∀ W, Below Y8.heap.size Y8 W → Below w.heap.size w W := fun W hW => HBY8.out.trans (hW.mono HBY8.out.size)
    have HIN := Lib.hid hin
    have hcl : ∀ W, Below Y8.heap.size Y8 W → ((W.cell? ⟨w.heap.size, 0, none⟩ = some (.int .i64 o0) ∧ W.cell? ⟨w.heap.size, 1, none⟩ = some (.string o1) ∧ W.cell? ⟨w.heap.size, 2, none⟩ = some (.slice Ar o2.length cr) ∧ W.cell? ⟨w.heap.size, 3, none⟩ = some (.slice Ak o3.length ck)) ∧ W.cell? ⟨w.heap.size, 4, none⟩ = some (.slice Ap o4.length cp) ∧ W.cell? ⟨w.heap.size, 5, none⟩ = some (.int .i64 o5) ∧ W.cell? ⟨w.heap.size, 6, none⟩ = some (.string o6) ∧ W.cell? ⟨w.heap.size, 7, none⟩ = some (.string o7)) ∧
        ((W.cell? ⟨W7.heap.size, 0, none⟩ = some (.int .i64 R.f0) ∧ W.cell? ⟨W7.heap.size, 1, none⟩ = some (.int .i64 R.f1) ∧ W.cell? ⟨W7.heap.size, 2, none⟩ = some (.string R.f2) ∧ W.cell? ⟨W7.heap.size, 3, none⟩ = some (.slice A7 R.f3.length c7)) ∧ True) ∧
        (W.cell? ⟨W8.heap.size, 0, none⟩ = some (.int .i64 R.f0) ∧ W.cell? ⟨W8.heap.size, 1, none⟩ = some (.int .i64 R.f1) ∧ W.cell? ⟨W8.heap.size, 2, none⟩ = some (.string R.f2) ∧ W.cell? ⟨W8.heap.size, 3, none⟩ = some (.slice A8 R.f3.length c8)) ∧ True := fun W hW => by
      have g7 := (HX8.out.block _ (Array.getElem?_eq_some_iff.1 HGC7.out).1).trans HGC7.out
      exact ⟨box8 ((hW.block _ (Array.getElem?_eq_some_iff.1 HGY8.out).1).trans HGY8.out), ⟨(box4 ((hW.block _ (Array.getElem?_eq_some_iff.1 g7).1).trans g7)).1, trivial⟩, (box4 ((hW.block _ (Array.getElem?_eq_some_iff.1 HGC8.out).1).trans HGC8.out)).1, trivial⟩
    have HCL := Lib.hid hcl
    have hsame : ∀ W, Below Y8.heap.size Y8 W → Calls Tryz.prog 12 #[.agg #[.int .i64 R.f0, .int .i64 R.f1, .string R.f2, .slice A7 R.f3.length c7], .agg #[.int .i64 R.f0, .int .i64 R.f1, .string R.f2, .slice A8 R.f3.length c8]] W fun e w' => e = .returned (.bool true) ∧ Below W.heap.size W w' := fun W hW => by
      have := same4_calls _ R R (Nat.lt_succ_self _) A7 c7 A8 c8 W (Kd.C_below (Kd.C_below HK7.out HX8.out) hW) (Kd.C_below HK8.out hW)
      rw [eqC_self] at this; exact this
    have HSAME := Lib.hid hsame
    clear hin hcl hsame
    go_wp2_with fail
    rw [← HWY8.out]
    refine' wp_region_factsW (sz := 89) (S := (fun _ W => Below Y8.heap.size Y8 W)) (fun _ W W' => Below W.heap.size W W') [eqM _, eqM _, eqM (.bool true), eqM (.bool true), eqM _, eqM _, eqM (.bool true), eqM (.bool true), eqM (.bool true), eqM _, eqM _, eqM (.bool true), eqM (.bool true), eqM (.bool true), eqM _, eqM _, eqM (.bool true), eqM (.bool true), eqM (.bool true), eqM (.agg #[.int .i64 R.f0, .int .i64 R.f1, .string R.f2, .slice A7 R.f3.length c7]), eqM (.agg #[.int .i64 R.f0, .int .i64 R.f1, .string R.f2, .slice A8 R.f3.length c8]), eqM (.bool true), eqM (.bool true), eqM (.bool true), eqM _, eqM _, eqM (.bool true), eqM (.bool true), eqM (.bool true), eqM (.agg #[.int .i64 o0, .string o1, .slice Ar o2.length cr, .slice Ak o3.length ck, .slice Ap o4.length cp, .int .i64 o5, .string o6, .string o7]), eqM (.int .i64 E), eqM (.agg #[.int .i64 o0, .string o1, .slice Ar o2.length cr, .slice Ak o3.length ck, .slice Ap o4.length cp, .int .i64 o5, .string o6, .string o7]), eqM (.int .i64 E), eqM (.bool true), eqM (.bool true), eqM (.bool true), eqM (.bool true), eqM (.bool true)] (by kernel_rfl) (by kernel_rfl) rfl (guardsM_of [(3, true), (8, true), (13, true), (18, true), (23, true), (28, true), (35, true)] (n := 38) rfl (by kernel_rfl) ⟨fun _ _ h => h, fun _ _ h => h, fun _ _ h => h, fun _ _ h => h, fun _ _ h => h, fun _ _ h => h, fun _ _ h => h, trivial⟩) ?hst ?h0 (Ord.stepsW_cons ?s0 (Ord.stepsW_cons ?s1 (Ord.stepsW_cons ?s2 (Ord.stepsW_cons ?s3 (Ord.stepsW_cons ?s4 (Ord.stepsW_cons ?s5 (Ord.stepsW_cons ?s6 (Ord.stepsW_cons ?s7 (Ord.stepsW_cons ?s8 (Ord.stepsW_cons ?s9 (Ord.stepsW_cons ?s10 (Ord.stepsW_cons ?s11 (Ord.stepsW_cons ?s12 (Ord.stepsW_cons ?s13 (Ord.stepsW_cons ?s14 (Ord.stepsW_cons ?s15 (Ord.stepsW_cons ?s16 (Ord.stepsW_cons ?s17 (Ord.stepsW_cons ?s18 (Ord.stepsW_cons ?s19 (Ord.stepsW_cons ?s20 (Ord.stepsW_cons ?s21 (Ord.stepsW_cons ?s22 (Ord.stepsW_cons ?s23 (Ord.stepsW_cons ?s24 (Ord.stepsW_cons ?s25 (Ord.stepsW_cons ?s26 (Ord.stepsW_cons ?s27 (Ord.stepsW_cons ?s28 (Ord.stepsW_cons ?s29 (Ord.stepsW_cons ?s30 (Ord.stepsW_cons ?s31 (Ord.stepsW_cons ?s32 (Ord.stepsW_cons ?s33 (Ord.stepsW_cons ?s34 (Ord.stepsW_cons ?s35 (Ord.stepsW_cons ?s36 (Ord.stepsW_cons ?s37 (Ord.stepsW_nil))))))))))))))))))))))))))))))))))))))) ?fin
    case s0 =>
      intro g W L hL hSW hd
      try simp only [Nat.zero_add, Nat.reduceAdd] at hd ⊢
      with_reducible refine OpGives.pre_reads [] 89 ?_ ?_ ?_
      · rfl
      · kernel_rfl
      simp only [List.map_cons, List.map_nil]
      refine OpGives.val (w' := W) ?_ ⟨Below.refl _ _, rfl, hSW⟩
      go_simp
      try with_reducible rfl
    case s1 =>
      intro g W L hL hSW hd
      try simp only [Nat.zero_add, Nat.reduceAdd] at hd ⊢
      with_reducible refine OpGives.pre_reads [] 89 ?_ ?_ ?_
      · rfl
      · kernel_rfl
      simp only [List.map_cons, List.map_nil]
      refine OpGives.val (w' := W) ?_ ⟨Below.refl _ _, rfl, hSW⟩
      go_simp
      try with_reducible rfl
    case s2 =>
      intro g W L hL hSW hd
      try simp only [Nat.zero_add, Nat.reduceAdd] at hd ⊢
      have h0 : g 0 = _ := hd 0 (by decide) (by kernel_rfl)
      have h1 : g 1 = _ := hd 1 (by decide) (by kernel_rfl)
      with_reducible refine OpGives.pre_reads [(51, 0), (52, 1)] 89 ?_ ?_ ?_
      · rfl
      · kernel_rfl
      simp only [List.map_cons, List.map_nil]
      refine OpGives.val (w' := W) ?_ ⟨Below.refl _ _, rfl, hSW⟩
      go_simp
      try with_reducible rfl
    case s3 =>
      intro g W L hL hSW hd
      try simp only [Nat.zero_add, Nat.reduceAdd] at hd ⊢
      have h2 : g 2 = _ := hd 2 (by decide) (by kernel_rfl)
      with_reducible refine OpGives.pre_reads [(53, 2)] 89 ?_ ?_ ?_
      · rfl
      · kernel_rfl
      simp only [List.map_cons, List.map_nil]
      refine OpGives.val (w' := W) ?_ ⟨Below.refl _ _, rfl, hSW⟩
      go_simp
      try with_reducible rfl
    case s4 =>
      intro g W L hL hSW hd
      try simp only [Nat.zero_add, Nat.reduceAdd] at hd ⊢
      with_reducible refine OpGives.pre_reads [] 89 ?_ ?_ ?_
      · rfl
      · kernel_rfl
      simp only [List.map_cons, List.map_nil]
      refine OpGives.val (w' := W) ?_ ⟨Below.refl _ _, rfl, hSW⟩
      go_simp
      try with_reducible rfl
    case s5 =>
      intro g W L hL hSW hd
      try simp only [Nat.zero_add, Nat.reduceAdd] at hd ⊢
      with_reducible refine OpGives.pre_reads [] 89 ?_ ?_ ?_
      · rfl
      · kernel_rfl
      simp only [List.map_cons, List.map_nil]
      refine OpGives.val (w' := W) ?_ ⟨Below.refl _ _, rfl, hSW⟩
      go_simp
      try with_reducible rfl
    case s6 =>
      intro g W L hL hSW hd
      try simp only [Nat.zero_add, Nat.reduceAdd] at hd ⊢
      have h4 : g 4 = _ := hd 4 (by decide) (by kernel_rfl)
      have h5 : g 5 = _ := hd 5 (by decide) (by kernel_rfl)
      with_reducible refine OpGives.pre_reads [(55, 4), (56, 5)] 89 ?_ ?_ ?_
      · rfl
      · kernel_rfl
      simp only [List.map_cons, List.map_nil]
      refine OpGives.val (w' := W) ?_ ⟨Below.refl _ _, rfl, hSW⟩
      go_simp
      try with_reducible rfl
    case s7 =>
      intro g W L hL hSW hd
      try simp only [Nat.zero_add, Nat.reduceAdd] at hd ⊢
      have h3 : g 3 = _ := hd 3 (by decide) (by kernel_rfl)
      have h6 : g 6 = _ := hd 6 (by decide) (by kernel_rfl)
      with_reducible refine OpGives.pre_reads [(54, 3), (57, 6)] 89 ?_ ?_ ?_
      · rfl
      · kernel_rfl
      simp only [List.map_cons, List.map_nil]
      refine OpGives.val (w' := W) ?_ ⟨Below.refl _ _, rfl, hSW⟩
      go_simp
      try with_reducible rfl
    case s8 =>
      intro g W L hL hSW hd
      try simp only [Nat.zero_add, Nat.reduceAdd] at hd ⊢
      have h7 : g 7 = _ := hd 7 (by decide) (by kernel_rfl)
      with_reducible refine OpGives.pre_reads [(58, 7)] 89 ?_ ?_ ?_
      · rfl
      · kernel_rfl
      simp only [List.map_cons, List.map_nil]
      refine OpGives.val (w' := W) ?_ ⟨Below.refl _ _, rfl, hSW⟩
      go_simp
      try with_reducible rfl
    case s9 =>
      intro g W L hL hSW hd
      try simp only [Nat.zero_add, Nat.reduceAdd] at hd ⊢
      with_reducible refine OpGives.pre_reads [] 89 ?_ ?_ ?_
      · rfl
      · kernel_rfl
      simp only [List.map_cons, List.map_nil]
      refine OpGives.val (w' := W) ?_ ⟨Below.refl _ _, rfl, hSW⟩
      go_simp
      try with_reducible rfl
    case s10 =>
      intro g W L hL hSW hd
      try simp only [Nat.zero_add, Nat.reduceAdd] at hd ⊢
      with_reducible refine OpGives.pre_reads [] 89 ?_ ?_ ?_
      · rfl
      · kernel_rfl
      simp only [List.map_cons, List.map_nil]
      refine OpGives.val (w' := W) ?_ ⟨Below.refl _ _, rfl, hSW⟩
      go_simp
      try with_reducible rfl
    case s11 =>
      intro g W L hL hSW hd
      try simp only [Nat.zero_add, Nat.reduceAdd] at hd ⊢
      have h9 : g 9 = _ := hd 9 (by decide) (by kernel_rfl)
      have h10 : g 10 = _ := hd 10 (by decide) (by kernel_rfl)
      with_reducible refine OpGives.pre_reads [(60, 9), (61, 10)] 89 ?_ ?_ ?_
      · rfl
      · kernel_rfl
      simp only [List.map_cons, List.map_nil]
      refine OpGives.val (w' := W) ?_ ⟨Below.refl _ _, rfl, hSW⟩
      go_simp
      try with_reducible rfl
    case s12 =>
      intro g W L hL hSW hd
      try simp only [Nat.zero_add, Nat.reduceAdd] at hd ⊢
      have h8 : g 8 = _ := hd 8 (by decide) (by kernel_rfl)
      have h11 : g 11 = _ := hd 11 (by decide) (by kernel_rfl)
      with_reducible refine OpGives.pre_reads [(59, 8), (62, 11)] 89 ?_ ?_ ?_
      · rfl
      · kernel_rfl
      simp only [List.map_cons, List.map_nil]
      refine OpGives.val (w' := W) ?_ ⟨Below.refl _ _, rfl, hSW⟩
      go_simp
      try with_reducible rfl
    case s13 =>
      intro g W L hL hSW hd
      try simp only [Nat.zero_add, Nat.reduceAdd] at hd ⊢
      have h12 : g 12 = _ := hd 12 (by decide) (by kernel_rfl)
      with_reducible refine OpGives.pre_reads [(63, 12)] 89 ?_ ?_ ?_
      · rfl
      · kernel_rfl
      simp only [List.map_cons, List.map_nil]
      refine OpGives.val (w' := W) ?_ ⟨Below.refl _ _, rfl, hSW⟩
      go_simp
      try with_reducible rfl
    case s14 =>
      intro g W L hL hSW hd
      try simp only [Nat.zero_add, Nat.reduceAdd] at hd ⊢
      with_reducible refine OpGives.pre_reads [] 89 ?_ ?_ ?_
      · rfl
      · kernel_rfl
      simp only [List.map_cons, List.map_nil]
      refine OpGives.val (w' := W) ?_ ⟨Below.refl _ _, rfl, hSW⟩
      go_simp
      try with_reducible rfl
    case s15 =>
      intro g W L hL hSW hd
      try simp only [Nat.zero_add, Nat.reduceAdd] at hd ⊢
      with_reducible refine OpGives.pre_reads [] 89 ?_ ?_ ?_
      · rfl
      · kernel_rfl
      simp only [List.map_cons, List.map_nil]
      refine OpGives.val (w' := W) ?_ ⟨Below.refl _ _, rfl, hSW⟩
      go_simp
      try with_reducible rfl
    case s16 =>
      intro g W L hL hSW hd
      try simp only [Nat.zero_add, Nat.reduceAdd] at hd ⊢
      have h14 : g 14 = _ := hd 14 (by decide) (by kernel_rfl)
      have h15 : g 15 = _ := hd 15 (by decide) (by kernel_rfl)
      with_reducible refine OpGives.pre_reads [(65, 14), (66, 15)] 89 ?_ ?_ ?_
      · rfl
      · kernel_rfl
      simp only [List.map_cons, List.map_nil]
      refine OpGives.val (w' := W) ?_ ⟨Below.refl _ _, rfl, hSW⟩
      go_simp
      try with_reducible rfl
    case s17 =>
      intro g W L hL hSW hd
      try simp only [Nat.zero_add, Nat.reduceAdd] at hd ⊢
      have h13 : g 13 = _ := hd 13 (by decide) (by kernel_rfl)
      have h16 : g 16 = _ := hd 16 (by decide) (by kernel_rfl)
      with_reducible refine OpGives.pre_reads [(64, 13), (67, 16)] 89 ?_ ?_ ?_
      · rfl
      · kernel_rfl
      simp only [List.map_cons, List.map_nil]
      refine OpGives.val (w' := W) ?_ ⟨Below.refl _ _, rfl, hSW⟩
      go_simp
      try with_reducible rfl
    case s18 =>
      intro g W L hL hSW hd
      try simp only [Nat.zero_add, Nat.reduceAdd] at hd ⊢
      have h17 : g 17 = _ := hd 17 (by decide) (by kernel_rfl)
      with_reducible refine OpGives.pre_reads [(68, 17)] 89 ?_ ?_ ?_
      · rfl
      · kernel_rfl
      simp only [List.map_cons, List.map_nil]
      refine OpGives.val (w' := W) ?_ ⟨Below.refl _ _, rfl, hSW⟩
      go_simp
      try with_reducible rfl
    case s19 =>
      intro g W L hL hSW hd
      try simp only [Nat.zero_add, Nat.reduceAdd] at hd ⊢
      with_reducible refine OpGives.pre_reads [] 89 ?_ ?_ ?_
      · rfl
      · kernel_rfl
      simp only [List.map_cons, List.map_nil]
      obtain ⟨⟨⟨z0, z1, z2, z3⟩, z4, z5, z6, z7⟩, ⟨⟨y0, y1, y2, y3⟩, _⟩, ⟨x0, x1, x2, x3⟩, _⟩ := HCL.out W hSW; refine OpGives.val (v := .agg #[.int .i64 R.f0, .int .i64 R.f1, .string R.f2, .slice A7 R.f3.length c7]) (w' := W) ?_ ⟨Below.refl _ _, rfl, hSW⟩; go_simp
    case s20 =>
      intro g W L hL hSW hd
      try simp only [Nat.zero_add, Nat.reduceAdd] at hd ⊢
      with_reducible refine OpGives.pre_reads [] 89 ?_ ?_ ?_
      · rfl
      · kernel_rfl
      simp only [List.map_cons, List.map_nil]
      obtain ⟨⟨⟨z0, z1, z2, z3⟩, z4, z5, z6, z7⟩, ⟨⟨y0, y1, y2, y3⟩, _⟩, ⟨x0, x1, x2, x3⟩, _⟩ := HCL.out W hSW; refine OpGives.val (v := .agg #[.int .i64 R.f0, .int .i64 R.f1, .string R.f2, .slice A8 R.f3.length c8]) (w' := W) ?_ ⟨Below.refl _ _, rfl, hSW⟩; go_simp
    case s21 =>
      intro g W L hL hSW hd
      try simp only [Nat.zero_add, Nat.reduceAdd] at hd ⊢
      have h19 : g 19 = _ := hd 19 (by decide) (by kernel_rfl)
      have h20 : g 20 = _ := hd 20 (by decide) (by kernel_rfl)
      with_reducible refine OpGives.pre_reads [(70, 19), (71, 20)] 89 ?_ ?_ ?_
      · rfl
      · kernel_rfl
      simp only [List.map_cons, List.map_nil]
      refine OpGives.call (f := 12) (args := #[.agg #[.int .i64 R.f0, .int .i64 R.f1, .string R.f2, .slice A7 R.f3.length c7], .agg #[.int .i64 R.f0, .int .i64 R.f1, .string R.f2, .slice A8 R.f3.length c8]]) (w' := W) (by go_simp) ((HSAME.out W hSW).mono fun e W' ⟨he, hb⟩ => ⟨_, he, hb, rfl, hSW.trans (hb.mono hSW.size)⟩)
    case s22 =>
      intro g W L hL hSW hd
      try simp only [Nat.zero_add, Nat.reduceAdd] at hd ⊢
      have h18 : g 18 = _ := hd 18 (by decide) (by kernel_rfl)
      have h21 : g 21 = _ := hd 21 (by decide) (by kernel_rfl)
      with_reducible refine OpGives.pre_reads [(69, 18), (72, 21)] 89 ?_ ?_ ?_
      · rfl
      · kernel_rfl
      simp only [List.map_cons, List.map_nil]
      refine OpGives.val (w' := W) ?_ ⟨Below.refl _ _, rfl, hSW⟩
      go_simp
      try with_reducible rfl
    case s23 =>
      intro g W L hL hSW hd
      try simp only [Nat.zero_add, Nat.reduceAdd] at hd ⊢
      have h22 : g 22 = _ := hd 22 (by decide) (by kernel_rfl)
      with_reducible refine OpGives.pre_reads [(73, 22)] 89 ?_ ?_ ?_
      · rfl
      · kernel_rfl
      simp only [List.map_cons, List.map_nil]
      refine OpGives.val (w' := W) ?_ ⟨Below.refl _ _, rfl, hSW⟩
      go_simp
      try with_reducible rfl
    case s24 =>
      intro g W L hL hSW hd
      try simp only [Nat.zero_add, Nat.reduceAdd] at hd ⊢
      with_reducible refine OpGives.pre_reads [] 89 ?_ ?_ ?_
      · rfl
      · kernel_rfl
      simp only [List.map_cons, List.map_nil]
      refine OpGives.val (w' := W) ?_ ⟨Below.refl _ _, rfl, hSW⟩
      go_simp
      try with_reducible rfl
    case s25 =>
      intro g W L hL hSW hd
      try simp only [Nat.zero_add, Nat.reduceAdd] at hd ⊢
      with_reducible refine OpGives.pre_reads [] 89 ?_ ?_ ?_
      · rfl
      · kernel_rfl
      simp only [List.map_cons, List.map_nil]
      refine OpGives.val (w' := W) ?_ ⟨Below.refl _ _, rfl, hSW⟩
      go_simp
      try with_reducible rfl
    case s26 =>
      intro g W L hL hSW hd
      try simp only [Nat.zero_add, Nat.reduceAdd] at hd ⊢
      have h24 : g 24 = _ := hd 24 (by decide) (by kernel_rfl)
      have h25 : g 25 = _ := hd 25 (by decide) (by kernel_rfl)
      with_reducible refine OpGives.pre_reads [(75, 24), (76, 25)] 89 ?_ ?_ ?_
      · rfl
      · kernel_rfl
      simp only [List.map_cons, List.map_nil]
      refine OpGives.val (w' := W) ?_ ⟨Below.refl _ _, rfl, hSW⟩
      go_simp
      try with_reducible rfl
    case s27 =>
      intro g W L hL hSW hd
      try simp only [Nat.zero_add, Nat.reduceAdd] at hd ⊢
      have h23 : g 23 = _ := hd 23 (by decide) (by kernel_rfl)
      have h26 : g 26 = _ := hd 26 (by decide) (by kernel_rfl)
      with_reducible refine OpGives.pre_reads [(74, 23), (77, 26)] 89 ?_ ?_ ?_
      · rfl
      · kernel_rfl
      simp only [List.map_cons, List.map_nil]
      refine OpGives.val (w' := W) ?_ ⟨Below.refl _ _, rfl, hSW⟩
      go_simp
      try with_reducible rfl
    case s28 =>
      intro g W L hL hSW hd
      try simp only [Nat.zero_add, Nat.reduceAdd] at hd ⊢
      have h27 : g 27 = _ := hd 27 (by decide) (by kernel_rfl)
      with_reducible refine OpGives.pre_reads [(78, 27)] 89 ?_ ?_ ?_
      · rfl
      · kernel_rfl
      simp only [List.map_cons, List.map_nil]
      refine OpGives.val (w' := W) ?_ ⟨Below.refl _ _, rfl, hSW⟩
      go_simp
      try with_reducible rfl
    case s29 =>
      intro g W L hL hSW hd
      try simp only [Nat.zero_add, Nat.reduceAdd] at hd ⊢
      with_reducible refine OpGives.pre_reads [] 89 ?_ ?_ ?_
      · rfl
      · kernel_rfl
      simp only [List.map_cons, List.map_nil]
      obtain ⟨⟨⟨z0, z1, z2, z3⟩, z4, z5, z6, z7⟩, ⟨⟨y0, y1, y2, y3⟩, _⟩, ⟨x0, x1, x2, x3⟩, _⟩ := HCL.out W hSW; refine OpGives.val (v := .agg #[.int .i64 o0, .string o1, .slice Ar o2.length cr, .slice Ak o3.length ck, .slice Ap o4.length cp, .int .i64 o5, .string o6, .string o7]) (w' := W) ?_ ⟨Below.refl _ _, rfl, hSW⟩; go_simp
    case s30 =>
      intro g W L hL hSW hd
      try simp only [Nat.zero_add, Nat.reduceAdd] at hd ⊢
      have h29 : g 29 = _ := hd 29 (by decide) (by kernel_rfl)
      with_reducible refine OpGives.pre_reads [(80, 29)] 89 ?_ ?_ ?_
      · rfl
      · kernel_rfl
      simp only [List.map_cons, List.map_nil]
      refine OpGives.call (f := 13) (args := #[.agg #[.int .i64 o0, .string o1, .slice Ar o2.length cr, .slice Ak o3.length ck, .slice Ap o4.length cp, .int .i64 o5, .string o6, .string o7]]) (w' := W) (by go_simp) ((HC1.out W (HIN.out W hSW)).mono fun e W' ⟨he, hb⟩ => ⟨_, he, hb, rfl, hSW.trans (hb.mono hSW.size)⟩)
    case s31 =>
      intro g W L hL hSW hd
      try simp only [Nat.zero_add, Nat.reduceAdd] at hd ⊢
      with_reducible refine OpGives.pre_reads [] 89 ?_ ?_ ?_
      · rfl
      · kernel_rfl
      simp only [List.map_cons, List.map_nil]
      obtain ⟨⟨⟨z0, z1, z2, z3⟩, z4, z5, z6, z7⟩, ⟨⟨y0, y1, y2, y3⟩, _⟩, ⟨x0, x1, x2, x3⟩, _⟩ := HCL.out W hSW; refine OpGives.val (v := .agg #[.int .i64 o0, .string o1, .slice Ar o2.length cr, .slice Ak o3.length ck, .slice Ap o4.length cp, .int .i64 o5, .string o6, .string o7]) (w' := W) ?_ ⟨Below.refl _ _, rfl, hSW⟩; go_simp
    case s32 =>
      intro g W L hL hSW hd
      try simp only [Nat.zero_add, Nat.reduceAdd] at hd ⊢
      have h31 : g 31 = _ := hd 31 (by decide) (by kernel_rfl)
      with_reducible refine OpGives.pre_reads [(82, 31)] 89 ?_ ?_ ?_
      · rfl
      · kernel_rfl
      simp only [List.map_cons, List.map_nil]
      refine OpGives.call (f := 14) (args := #[.agg #[.int .i64 o0, .string o1, .slice Ar o2.length cr, .slice Ak o3.length ck, .slice Ap o4.length cp, .int .i64 o5, .string o6, .string o7]]) (w' := W) (by go_simp) ((HC2.out W (HIN.out W hSW)).mono fun e W' ⟨he, hb⟩ => ⟨_, he, hb, rfl, hSW.trans (hb.mono hSW.size)⟩)
    case s33 =>
      intro g W L hL hSW hd
      try simp only [Nat.zero_add, Nat.reduceAdd] at hd ⊢
      have h30 : g 30 = _ := hd 30 (by decide) (by kernel_rfl)
      have h32 : g 32 = _ := hd 32 (by decide) (by kernel_rfl)
      with_reducible refine OpGives.pre_reads [(81, 30), (83, 32)] 89 ?_ ?_ ?_
      · rfl
      · kernel_rfl
      simp only [List.map_cons, List.map_nil]
      refine OpGives.val (w' := W) ?_ ⟨Below.refl _ _, rfl, hSW⟩
      go_simp
      try with_reducible rfl
    case s34 =>
      intro g W L hL hSW hd
      try simp only [Nat.zero_add, Nat.reduceAdd] at hd ⊢
      have h28 : g 28 = _ := hd 28 (by decide) (by kernel_rfl)
      have h33 : g 33 = _ := hd 33 (by decide) (by kernel_rfl)
      with_reducible refine OpGives.pre_reads [(79, 28), (84, 33)] 89 ?_ ?_ ?_
      · rfl
      · kernel_rfl
      simp only [List.map_cons, List.map_nil]
      refine OpGives.val (w' := W) ?_ ⟨Below.refl _ _, rfl, hSW⟩
      go_simp
      try with_reducible rfl
    case s35 =>
      intro g W L hL hSW hd
      try simp only [Nat.zero_add, Nat.reduceAdd] at hd ⊢
      have h34 : g 34 = _ := hd 34 (by decide) (by kernel_rfl)
      with_reducible refine OpGives.pre_reads [(85, 34)] 89 ?_ ?_ ?_
      · rfl
      · kernel_rfl
      simp only [List.map_cons, List.map_nil]
      refine OpGives.val (w' := W) ?_ ⟨Below.refl _ _, rfl, hSW⟩
      go_simp
      try with_reducible rfl
    case s36 =>
      intro g W L hL hSW hd
      try simp only [Nat.zero_add, Nat.reduceAdd] at hd ⊢
      with_reducible refine OpGives.pre_reads [] 89 ?_ ?_ ?_
      · rfl
      · kernel_rfl
      simp only [List.map_cons, List.map_nil]
      refine OpGives.call (f := 5) (args := #[]) (w' := W) (by go_simp) ((HL.out W (HIN.out W hSW)).mono fun e W' ⟨he, hb⟩ => ⟨_, he, hb, rfl, hSW.trans (hb.mono hSW.size)⟩)
    case s37 =>
      intro g W L hL hSW hd
      try simp only [Nat.zero_add, Nat.reduceAdd] at hd ⊢
      have h35 : g 35 = _ := hd 35 (by decide) (by kernel_rfl)
      have h36 : g 36 = _ := hd 36 (by decide) (by kernel_rfl)
      with_reducible refine OpGives.pre_reads [(86, 35), (87, 36)] 89 ?_ ?_ ?_
      · rfl
      · kernel_rfl
      simp only [List.map_cons, List.map_nil]
      refine OpGives.val (w' := W) ?_ ⟨Below.refl _ _, rfl, hSW⟩
      go_simp
      try with_reducible rfl
    case hst =>
      refine fun i j v w w' _ h hR => st_of (R := fun W W' => Below W.heap.size W W') ?_ i v w w' h hR
      repeat' first
        | exact trivial
        | with_reducible refine StL.eq ?_
    case h0 => exact (Below.refl _ _).drew
    case fin =>
      intro v W L hL hSW hf
      have h37 : v 37 = _ := hf 37 (Nat.lt_of_lt_of_eq (by decide : 37 < 38) rfl)
      clear hf
      generalize hF : Ord.pre _ _ v _ = F'
      rw [Ord.pre_lit [some 51, some 52, some 53, some 54, some 55, some 56, some 57, some 58, some 59, some 60, some 61, some 62, some 63, some 64, some 65, some 66, some 67, some 68, some 69, some 70, some 71, some 72, some 73, some 74, some 75, some 76, some 77, some 78, some 79, some 80, some 81, some 82, some 83, some 84, some 85, some 86, some 87, some 88]
        (by kernel_rfl)] at hF
      simp only [Ord.puts, Nat.zero_add, Nat.reduceAdd] at hF
      subst hF
      rw [h37]
      have HS8 := Lib.hid (HIN.out W hSW)
      clear hSW h37
      refine any_one (i := 38) (by kernel_rfl) ?_
      refine wpOp_value (v := .bool true) (w' := W) rfl rfl (by go_simp) ?_
      refine wpAny_done (by kernel_rfl) ?_ _
      try simp only [List.getElem_toArray, List.getElem_cons_succ, List.getElem_cons_zero]
      go_frame
      go_wp2_with fail
      go_ret
      exact ⟨rfl, HS8.out⟩
end Go.Proofs.YtgjlchcfdbmmlaaGreatDoor.PObjectPuts
