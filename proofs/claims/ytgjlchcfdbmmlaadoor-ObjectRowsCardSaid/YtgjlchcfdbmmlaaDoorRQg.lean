/- Texts of one proof, joined: TT, TOZ, TQA. -/
import Derived.Test.YtgjlchcfdbmmlaaDoorROfg
import Derived.ChangeArms
import Derived.DataReads
import Derived.WideShapes
import Derived.Deep.Slices
import Derived.Test.YtgjlchcfdbmmlaaDoorROyg
import Derived.Test.YtgjlchcfdbmmlaaDoorRows
import Derived.Lib.LaidU8
import Derived.SliceStrings
set_option linter.unusedSimpArgs false
set_option linter.unusedVariables false
/- A cell that comes in, opened. -/
namespace Go.Proofs.YtgjlchcfdbmmlaaDoor.PObjectTakes
open Go.RowKit Go.Proofs.YtgjlchcfdbmmlaaDoorW.PrintWords Go.Proofs.YtgjlchcfdbmmlaaDoorW.PrintLast Go.Proofs.YtgjlchcfdbmmlaaDoorW.PrintMore
open Go.ChangeShapes Go.WideShapes
set_option linter.unusedVariables false
set_option linter.unusedSimpArgs false

theorem choose_row {α : Type} (P : Nat → α → Prop) : ∀ n, (∀ i, i < n → ∃ v, P i v) → ∃ l : List α, l.length = n ∧ ∀ i v, l[i]? = some v → P i v
  | 0, _ => ⟨[], rfl, fun i v h => by simp at h⟩
  | n + 1, h => by
    obtain ⟨l, hl, hp⟩ := choose_row P n (fun i hi => h i (by omega))
    obtain ⟨v, hv⟩ := h n (by omega)
    refine ⟨l ++ [v], by simp [hl], fun i u hu => ?_⟩
    rcases Nat.lt_or_ge i l.length with hlt | hge
    · rw [List.getElem?_append_left hlt] at hu; exact hp i u hu
    · rw [List.getElem?_append_right hge] at hu
      have hi : i - l.length = 0 := by
        rcases Nat.eq_zero_or_pos (i - l.length) with e | e
        · exact e
        · rw [List.getElem?_eq_none (by simp; omega)] at hu; cases hu
      rw [hi] at hu
      simp at hu
      subst hu
      have : i = n := by omega
      rw [this]; exact hv
section
variable {H : Type} {enc : TypeId × Value → H} {W : World} {held : Bool}
theorem cells_one : Tryd.prog.cellsOf 3 = 1 ∧ Tryd.prog.cellsOf 9 = 1 ∧ Tryd.prog.cellsOf 40 = 1 := ⟨by kernel_rfl, by kernel_rfl, by kernel_rfl⟩
end
end Go.Proofs.YtgjlchcfdbmmlaaDoor.PObjectTakes
/- An object that comes in, opened; the tables that are laid. -/
namespace Go.Proofs.YtgjlchcfdbmmlaaDoor.PObjectTakes
open Go.RowKit Go.Proofs.YtgjlchcfdbmmlaaDoor.Ord Go.Proofs.YtgjlchcfdbmmlaaDoor.Obj Go.Proofs.YtgjlchcfdbmmlaaDoorW.PrintWords Go.Proofs.YtgjlchcfdbmmlaaDoorW.PrintLast Go.Proofs.YtgjlchcfdbmmlaaDoorW.PrintMore
open Go.ChangeShapes Go.WideShapes
set_option linter.unusedVariables false
set_option linter.unusedSimpArgs false

section
variable {H : Type} {enc : TypeId × Value → H} {W : World} {held : Bool}
theorem open_sl {α : Type} (d : Kd α) (P : α → Prop) (t e : TypeId) (hu : Tryd.prog.underlying t = some (.slice e)) (hsz : Tryd.prog.cellsOf e = d.sz) {fuel : Nat}
    (hel : ∀ cs (x : DataW H × List MemPlace), DataW.trod enc Tryd.prog W 0 (fun _ => true) held fuel e cs = some x → cs.length = d.sz → ∃ y, d.K W y cs ∧ P y) {cs : List Value} {x : DataW H × List MemPlace}
    (h : DataW.trod enc Tryd.prog W 0 (fun _ => true) held (fuel + 1) t cs = some x) : ∃ l A c, cs = [.slice A (l : List α).length c] ∧ l.length ≤ c ∧ d.C W A l.length l ∧ ∀ y ∈ l, P y := by
  rcases DataW.trod_slice hu h with ⟨rfl, _⟩ | ⟨a, len, cap, elems, rest, n, hn, rfl, _, _, hl, hm, hlen, hels, _, _⟩
  · exact ⟨[], none, 0, rfl, Nat.le_refl _, Kd.C_nil _ _, fun y hy => by cases hy⟩
  · injection hn with hn
    subst hn
    rw [hsz] at hels
    obtain ⟨l, hll, hlp⟩ := choose_row (fun i y => ∃ c, c.length = d.sz ∧ d.K W y c ∧ P y ∧ ∀ j u, c[j]? = some u → W.cell? (a.add (i * d.sz + j)) = some u) len (fun i hi => by
      have he := hels i hi
      rw [List.getElem?_eq_getElem (by omega)] at he
      obtain ⟨cs', hc, ht⟩ := Option.bind_eq_some_iff.1 he
      obtain ⟨_, hcl, hat⟩ := World.cells?_some hc
      obtain ⟨y, hy, hp⟩ := hel cs' _ ht hcl
      refine ⟨y, cs', hcl, hy, hp, fun j u hu => ?_⟩
      have hj : j < d.sz := by rw [← hcl]; exact (List.getElem?_eq_some_iff.1 hu).1
      have := hat j hj
      rw [hu] at this
      rw [← this, Go.Deep.add_add])
    refine ⟨l, some a, cap, by rw [hll], by omega, ⟨rfl, by unfold maxLen at hm; omega, fun _ => ⟨a, rfl, fun j p hj => ?_⟩⟩, fun y hy => ?_⟩
    · obtain ⟨c, h1, h2, _, h3⟩ := hlp j p hj
      exact ⟨c, h1, h2, h3⟩
    · obtain ⟨i, hi⟩ := List.getElem?_of_mem hy
      obtain ⟨c, _, _, hp, _⟩ := hlp i y hi
      exact hp
end
end Go.Proofs.YtgjlchcfdbmmlaaDoor.PObjectTakes
/- An object that comes in, opened; the tables that are laid. -/
namespace Go.Proofs.YtgjlchcfdbmmlaaDoor.PObjectTakes
open Go.RowKit Go.Proofs.YtgjlchcfdbmmlaaDoor.Ord Go.Proofs.YtgjlchcfdbmmlaaDoor.Obj Go.Proofs.YtgjlchcfdbmmlaaDoorW.PrintWords Go.Proofs.YtgjlchcfdbmmlaaDoorW.PrintLast Go.Proofs.YtgjlchcfdbmmlaaDoorW.PrintMore
open Go.ChangeShapes Go.WideShapes
set_option linter.unusedVariables false
set_option linter.unusedSimpArgs false
set_option maxRecDepth 100000

section
variable {H : Type} {enc : TypeId × Value → H} {W : World} {held : Bool}
theorem wf_byte {n : Int} (h : (Lit.int .u8 n).wf = true) : 0 ≤ n ∧ n ≤ 255 := by
  simp only [Lit.wf, Bool.and_eq_true, decide_eq_true_eq] at h
  exact ⟨Int.le_trans (by decide) h.1, Int.le_trans h.2 (by decide)⟩
theorem open_value {fuel : Nat} {cs : List Value} {x : DataW H × List MemPlace} (h : DataW.trod enc Tryd.prog W 0 (fun _ => true) held fuel 53 cs = some x) :
    ∃ v : S53, cs = [.int .i64 v.f0, .int .i64 v.f1, .string v.f2] ∧ (-9223372036854775808 ≤ v.f1 ∧ v.f1 ≤ 9223372036854775807) := by
  cases fuel with
  | zero => simp [DataW.trod] at h
  | succ fuel =>
    obtain ⟨xs, n, hn, _, hlen, hxs, hf⟩ := DataW.trod_struct Tryd.underlying53 h
    injection hn with hn
    subst hn
    obtain ⟨a, b, c, rfl⟩ : ∃ a b c, cs = [a, b, c] := by
      rw [show Tryd.prog.cellsOf 53 = 3 from by kernel_rfl] at hlen
      match cs, hlen with
      | [a, b, c], _ => exact ⟨a, b, c, rfl⟩
    have hx : xs.length = 3 := hxs
    have g0 : DataW.trod enc Tryd.prog W 0 (fun _ => true) held fuel 51 [a] = xs[0]? := by have := hf 0 _ rfl; rw [show Tryd.prog.cellsOf (_ : Field).type = 1 from by kernel_rfl] at this; exact this
    have g1 : DataW.trod enc Tryd.prog W 0 (fun _ => true) held fuel 3 [b] = xs[1]? := by have := hf 1 _ rfl; rw [show Tryd.prog.cellsOf (_ : Field).type = 1 from cells_one.1] at this; exact this
    have g2 : DataW.trod enc Tryd.prog W 0 (fun _ => true) held fuel 9 [c] = xs[2]? := by have := hf 2 _ rfl; rw [show Tryd.prog.cellsOf (_ : Field).type = 1 from cells_one.2.1] at this; exact this
    rw [List.getElem?_eq_getElem (by omega)] at g0 g1 g2
    obtain ⟨n0, e0, _, w0⟩ := DataW.trod_int Tryd.underlying51 g0
    obtain ⟨n1, e1, _, w1⟩ := DataW.trod_int Tryd.underlying3 g1
    obtain ⟨s2, e2, _, w2⟩ := DataW.trod_string Tryd.underlying9 g2
    simp at e0 e1 e2
    subst e0; subst e1; subst e2
    exact ⟨⟨n0, n1, s2⟩, rfl, wf_int w1⟩
theorem open_row {fuel : Nat} {cs : List Value} {x : DataW H × List MemPlace} (h : DataW.trod enc Tryd.prog W 0 (fun _ => true) held fuel 55 cs = some x) :
    ∃ v : S55, cs = [.int .i64 v.f0, .int .i64 v.f1, .int .i64 v.f2.f0, .int .i64 v.f2.f1, .string v.f2.f2] ∧
      ((-9223372036854775808 ≤ v.f0 ∧ v.f0 ≤ 9223372036854775807) ∧ (-9223372036854775808 ≤ v.f1 ∧ v.f1 ≤ 9223372036854775807) ∧ -9223372036854775808 ≤ v.f2.f1 ∧ v.f2.f1 ≤ 9223372036854775807) := by
  cases fuel with
  | zero => simp [DataW.trod] at h
  | succ fuel =>
    obtain ⟨xs, n, hn, _, hlen, hxs, hf⟩ := DataW.trod_struct Tryd.underlying55 h
    injection hn with hn
    subst hn
    obtain ⟨a, b, c, d, e, rfl⟩ : ∃ a b c d e, cs = [a, b, c, d, e] := by
      rw [show Tryd.prog.cellsOf 55 = 5 from by kernel_rfl] at hlen
      match cs, hlen with
      | [a, b, c, d, e], _ => exact ⟨a, b, c, d, e, rfl⟩
    have hx : xs.length = 3 := hxs
    have g0 : DataW.trod enc Tryd.prog W 0 (fun _ => true) held fuel 3 [a] = xs[0]? := by have := hf 0 _ rfl; rw [show Tryd.prog.cellsOf (_ : Field).type = 1 from by kernel_rfl] at this; exact this
    have g1 : DataW.trod enc Tryd.prog W 0 (fun _ => true) held fuel 3 [b] = xs[1]? := by have := hf 1 _ rfl; rw [show Tryd.prog.cellsOf (_ : Field).type = 1 from cells_one.1] at this; exact this
    have g2 : DataW.trod enc Tryd.prog W 0 (fun _ => true) held fuel 53 [c, d, e] = xs[2]? := by have := hf 2 _ rfl; rw [show Tryd.prog.cellsOf (_ : Field).type = 3 from by kernel_rfl] at this; exact this
    rw [List.getElem?_eq_getElem (by omega)] at g0 g1 g2
    obtain ⟨n0, e0, _, w0⟩ := DataW.trod_int Tryd.underlying3 g0
    obtain ⟨n1, e1, _, w1⟩ := DataW.trod_int Tryd.underlying3 g1
    obtain ⟨v, e2, w2⟩ := open_value g2
    simp at e0 e1 e2
    obtain ⟨e2, e3, e4⟩ := e2
    subst e0; subst e1; subst e2; subst e3; subst e4
    exact ⟨⟨n0, n1, v⟩, rfl, wf_int w0, wf_int w1, w2⟩
theorem open_kid {fuel : Nat} {cs : List Value} {x : DataW H × List MemPlace} (h : DataW.trod enc Tryd.prog W 0 (fun _ => true) held fuel 60 cs = some x) :
    ∃ v : S60, cs = [.int .u8 v.f0, .string v.f1] ∧ 0 ≤ v.f0 ∧ v.f0 ≤ 255 := by
  cases fuel with
  | zero => simp [DataW.trod] at h
  | succ fuel =>
    obtain ⟨xs, n, hn, _, hlen, hxs, hf⟩ := DataW.trod_struct Tryd.underlying60 h
    injection hn with hn
    subst hn
    obtain ⟨a, b, rfl⟩ : ∃ a b, cs = [a, b] := by
      rw [show Tryd.prog.cellsOf 60 = 2 from by kernel_rfl] at hlen
      match cs, hlen with
      | [a, b], _ => exact ⟨a, b, rfl⟩
    have hx : xs.length = 2 := hxs
    have g0 : DataW.trod enc Tryd.prog W 0 (fun _ => true) held fuel 5 [a] = xs[0]? := by have := hf 0 _ rfl; rw [show Tryd.prog.cellsOf (_ : Field).type = 1 from by kernel_rfl] at this; exact this
    have g1 : DataW.trod enc Tryd.prog W 0 (fun _ => true) held fuel 9 [b] = xs[1]? := by have := hf 1 _ rfl; rw [show Tryd.prog.cellsOf (_ : Field).type = 1 from cells_one.2.1] at this; exact this
    rw [List.getElem?_eq_getElem (by omega)] at g0 g1
    obtain ⟨n0, e0, _, w0⟩ := DataW.trod_int Tryd.underlying5 g0
    obtain ⟨s1, e1, _, w1⟩ := DataW.trod_string Tryd.underlying9 g1
    simp at e0 e1
    subst e0; subst e1
    exact ⟨⟨n0, s1⟩, rfl, wf_byte w0⟩
/-- A string that comes in. -/
theorem open_str1 {fuel : Nat} {cs : List Value} {x : DataW H × List MemPlace} (h : DataW.trod enc Tryd.prog W 0 (fun _ => true) held fuel 9 cs = some x) : ∃ s, cs = [.string s] := by
  cases fuel with
  | zero => simp [DataW.trod] at h
  | succ fuel => obtain ⟨s, e, _, _⟩ := DataW.trod_string Tryd.underlying9 h; exact ⟨s, e⟩
theorem open_rows {fuel : Nat} {cs : List Value} {x : DataW H × List MemPlace} (h : DataW.trod enc Tryd.prog W 0 (fun _ => true) held fuel 23 cs = some x) :
    ∃ l A c, cs = [.slice A (l : List S55).length c] ∧ l.length ≤ c ∧ Kd.C k55 W A l.length l ∧
      ∀ v ∈ l, ((-9223372036854775808 ≤ v.f0 ∧ v.f0 ≤ 9223372036854775807) ∧ (-9223372036854775808 ≤ v.f1 ∧ v.f1 ≤ 9223372036854775807) ∧ -9223372036854775808 ≤ v.f2.f1 ∧ v.f2.f1 ≤ 9223372036854775807) := by
  cases fuel with
  | zero => simp [DataW.trod] at h
  | succ fuel => exact open_sl k55 _ 23 55 Tryd.underlying23 (by kernel_rfl) (fun cs x h _ => by obtain ⟨v, e, w⟩ := open_row h; exact ⟨v, by rw [e]; exact k55_mk W v, w⟩) h
theorem open_kids {fuel : Nat} {cs : List Value} {x : DataW H × List MemPlace} (h : DataW.trod enc Tryd.prog W 0 (fun _ => true) held fuel 24 cs = some x) :
    ∃ l A c, cs = [.slice A (l : List S60).length c] ∧ l.length ≤ c ∧ Kd.C k60 W A l.length l ∧ ∀ v ∈ l, 0 ≤ v.f0 ∧ v.f0 ≤ 255 := by
  cases fuel with
  | zero => simp [DataW.trod] at h
  | succ fuel => exact open_sl k60 _ 24 60 Tryd.underlying24 (by kernel_rfl) (fun cs x h _ => by obtain ⟨v, e, w⟩ := open_kid h; exact ⟨v, by rw [e]; exact k60_mk W v, w⟩) h
theorem open_strs {fuel : Nat} {cs : List Value} {x : DataW H × List MemPlace} (h : DataW.trod enc Tryd.prog W 0 (fun _ => true) held fuel 25 cs = some x) :
    ∃ l A c, cs = [.slice A (l : List ByteArray).length c] ∧ l.length ≤ c ∧ Kd.C Kd.string W A l.length l ∧ ∀ v ∈ l, True := by
  cases fuel with
  | zero => simp [DataW.trod] at h
  | succ fuel => exact open_sl Kd.string _ 25 9 Tryd.underlying25 (by kernel_rfl) (fun cs x h _ => by obtain ⟨v, e⟩ := open_str1 h; exact ⟨v, by rw [e]; exact rfl, trivial⟩) h
set_option maxRecDepth 100000 in
/-- An argument of the type of objects. -/
theorem open_ob {r : Reach} {b0 : Nat} {v : Value} {d : DataW H} {p : List MemPlace} (hv : Value.okWide Tryd.prog W r b0 27 v) (h : DataW.Trod enc Tryd.prog W 0 (fun _ => true) held 27 v d p) :
    ∃ (o : Ob) (Ar : Option Addr) (cr : Nat) (Ak : Option Addr) (ck : Nat) (Ap : Option Addr) (cp : Nat), v = .agg (obV o Ar cr Ak ck Ap cp) ∧ ObAt W o Ar cr Ak ck Ap cp ∧ wfOb o := by
  obtain ⟨cs, rfl, hsz⟩ := okWide_struct Tryd.underlying27 hv
  obtain ⟨fuel, hf⟩ := h
  have hf' : DataW.trod enc Tryd.prog W 0 (fun _ => true) held fuel 27 cs.toList = some (d, p) := hf
  clear hf
  cases fuel with
  | zero => simp [DataW.trod] at hf'
  | succ fuel =>
    obtain ⟨xs, n, hn, _, hlen, hxs, hf⟩ := DataW.trod_struct Tryd.underlying27 hf'
    injection hn with hn
    subst hn
    obtain ⟨a, b, c, d, e, f, g, i, ecs⟩ : ∃ a b c d e f g i, cs.toList = [a, b, c, d, e, f, g, i] := by
      rw [show Tryd.prog.cellsOf 27 = 8 from by kernel_rfl] at hlen
      match cs.toList, hlen with
      | [a, b, c, d, e, f, g, i], _ => exact ⟨a, b, c, d, e, f, g, i, rfl⟩
    rw [ecs] at hf
    have hx : xs.length = 8 := hxs
    have g0 : DataW.trod enc Tryd.prog W 0 (fun _ => true) held fuel 22 [a] = xs[0]? := by have := hf 0 _ rfl; rw [show Tryd.prog.cellsOf (_ : Field).type = 1 from by kernel_rfl] at this; exact this
    have g1 : DataW.trod enc Tryd.prog W 0 (fun _ => true) held fuel 9 [b] = xs[1]? := by have := hf 1 _ rfl; rw [show Tryd.prog.cellsOf (_ : Field).type = 1 from cells_one.2.1] at this; exact this
    have g2 : DataW.trod enc Tryd.prog W 0 (fun _ => true) held fuel 23 [c] = xs[2]? := by have := hf 2 _ rfl; rw [show Tryd.prog.cellsOf (_ : Field).type = 1 from by kernel_rfl] at this; exact this
    have g3 : DataW.trod enc Tryd.prog W 0 (fun _ => true) held fuel 24 [d] = xs[3]? := by have := hf 3 _ rfl; rw [show Tryd.prog.cellsOf (_ : Field).type = 1 from by kernel_rfl] at this; exact this
    have g4 : DataW.trod enc Tryd.prog W 0 (fun _ => true) held fuel 25 [e] = xs[4]? := by have := hf 4 _ rfl; rw [show Tryd.prog.cellsOf (_ : Field).type = 1 from by kernel_rfl] at this; exact this
    have g5 : DataW.trod enc Tryd.prog W 0 (fun _ => true) held fuel 3 [f] = xs[5]? := by have := hf 5 _ rfl; rw [show Tryd.prog.cellsOf (_ : Field).type = 1 from cells_one.1] at this; exact this
    have g6 : DataW.trod enc Tryd.prog W 0 (fun _ => true) held fuel 9 [g] = xs[6]? := by have := hf 6 _ rfl; rw [show Tryd.prog.cellsOf (_ : Field).type = 1 from cells_one.2.1] at this; exact this
    have g7 : DataW.trod enc Tryd.prog W 0 (fun _ => true) held fuel 9 [i] = xs[7]? := by have := hf 7 _ rfl; rw [show Tryd.prog.cellsOf (_ : Field).type = 1 from cells_one.2.1] at this; exact this
    rw [List.getElem?_eq_getElem (by omega)] at g0 g1 g2 g3 g4 g5 g6 g7
    obtain ⟨n0, e0, _, w0⟩ := DataW.trod_int Tryd.underlying22 g0
    obtain ⟨s1, e1, _, w1⟩ := DataW.trod_string Tryd.underlying9 g1
    obtain ⟨lr, Ar, cr, e2, l2, c2, w2⟩ := open_rows g2
    obtain ⟨lk, Ak, ck, e3, l3, c3, w3⟩ := open_kids g3
    obtain ⟨lp, Ap, cp, e4, l4, c4, _⟩ := open_strs g4
    obtain ⟨n5, e5, _, w5⟩ := DataW.trod_int Tryd.underlying3 g5
    obtain ⟨s6, e6, _, w6⟩ := DataW.trod_string Tryd.underlying9 g6
    obtain ⟨s7, e7, _, w7⟩ := DataW.trod_string Tryd.underlying9 g7
    simp at e0 e1 e2 e3 e4 e5 e6 e7
    subst e0; subst e1; subst e2; subst e3; subst e4; subst e5; subst e6; subst e7
    refine ⟨⟨n0, s1, lr, lk, lp, n5, s6, s7⟩, Ar, cr, Ak, ck, Ap, cp, ?_, ⟨c2, l2, c3, l3, c4, l4⟩, ⟨wf_int w5, w2, w3⟩⟩
    rw [← Array.toArray_toList (xs := cs), ecs]
    rfl
/-- The two tables of unicode/utf8, off the row's list. -/
theorem tabs_of (hL : laidMet Tryd.prog Rows.objectBackRow.laid W) : Lib.Utf8Tabs 0 1 W :=
  utf8Tabs_of_reads (ρ := Tryd.lays260_ren) Tryd.lays260 ⟨by kernel_rfl, by kernel_rfl, by kernel_rfl, by kernel_rfl, by kernel_rfl, by kernel_rfl, by kernel_rfl⟩ (Lib.laidMet.reads hL (.tail _ (.head _))) (Lib.laidMet.reads hL (.head _))
end
end Go.Proofs.YtgjlchcfdbmmlaaDoor.PObjectTakes
