/- Texts of one proof, joined: Va, Ox, Shelf, Vb, PObjectTakesx0, TOA, PObjectTakesx4, TOB, TOC, TOD, PObjectTakesx9, TUA, TSA, TUB, TA. -/
import Derived.Lib.RuneCount
import Derived.Test.YtgjlchcfdbmmlaaDoorYb
import Derived.Great.BuildSlice
import Derived.Deep.AppendLies
import Derived.OwnWalk
import Derived.Shelf.Unicode.DecodeSlow
import Derived.Shelf.Unicode.DecodeAny
import Derived.Ground.SlgfProg
import Derived.Shelf.SlicesE.IndexFunc
import Derived.Test.YtgjlchcfdbmmlaaDoorProg
import Derived.Lib.OthersKept
import Derived.Lib.RuneCountTail
import Derived.Defers
import Derived.Recover
import Derived.Laws.Pointers
import Derived.Tactics2
import Derived.WalkSmall
import Derived.Lib.Hide
import Derived.Lib.LaidU8
import Derived.Below
import Derived.Deep.Draws
import Derived.Maps.AppendAt
import Derived.Laws.BytesArg
import Derived.Laws.MakeOwn
import Derived.Laws.OwnMore
import Derived.Deep.OwnRows
import Derived.Tactics
import Derived.Lib.ConvBytes
import Derived.Laws.Slices
import Derived.WalkKit
import Derived.KernelRfl
import Derived.RowKit3
import Derived.Deep.LoopGhost
import Derived.Deep.QuietTactic
import Derived.BigQuiet
import Derived.WideLaws
import Derived.Deep.DeepCutAuto
import Derived.Deep.CutBlock
import Derived.Deep.RegionHeld3
import Derived.Laws.Rows
import Derived.Lib.AppendStr
import Derived.ArgAppend
import Derived.Laws.IdiomCopy
import Derived.OrdersHeld
import Derived.Laws.BitsLemmas
import Derived.RowKit
import Derived.Test.YtgjlchcfdbmmlaaDoorYa
import Derived.Maps.RangeWalk
import Derived.Lib.Strings
import Derived.Lib.Walk
import Derived.Lib.Builder
import Derived.Lib.UnsafeStr
import Derived.Laws.Externs
set_option linter.unusedSimpArgs false
set_option linter.unusedVariables false
namespace Go.Proofs.YtgjlchcfdbmmlaaDoor.Obj
open Go

def gb (s : ByteArray) (i : Nat) : Nat := (s.get! i).toNat
def contB (s : ByteArray) (i : Nat) : Bool := decide (i < s.size) && gb s i / 64 == 2
/-- A code point of so many bytes at least so great. -/
def okC (c least : Nat) : Bool := !(decide (c < least) || (decide (55296 ≤ c) && decide (c < 57344)) || decide (1114111 < c))
def widthN (s : ByteArray) (i : Nat) : Nat :=
  if s.size ≤ i then 0
  else if gb s i < 128 then 1
  else if 192 ≤ gb s i ∧ gb s i < 224 then (if contB s (i + 1) && okC ((gb s i - 192) * 64 + gb s (i + 1) % 64) 128 then 2 else 0)
  else if 224 ≤ gb s i ∧ gb s i < 240 then (if contB s (i + 1) && contB s (i + 2) && okC ((gb s i - 224) * 4096 + gb s (i + 1) % 64 * 64 + gb s (i + 2) % 64) 2048 then 3 else 0)
  else if 240 ≤ gb s i ∧ gb s i < 248 then (if contB s (i + 1) && contB s (i + 2) && contB s (i + 3) && okC ((gb s i - 240) * 262144 + gb s (i + 1) % 64 * 4096 + gb s (i + 2) % 64 * 64 + gb s (i + 3) % 64) 65536 then 4 else 0)
  else 0
theorem gb_lt (s : ByteArray) (i : Nat) : gb s i < 256 := (s.get! i).toNat_lt
theorem okC_valid (c least : Nat) : okC c least = (decide (least ≤ c) && Utf8.valid (c : Int)) := by
  unfold okC Utf8.valid
  rw [Bool.eq_iff_iff]
  simp only [Bool.not_eq_true', Bool.or_eq_false_iff, Bool.and_eq_false_iff, Bool.and_eq_true, Bool.or_eq_true, decide_eq_true_eq, decide_eq_false_iff_not]
  omega
theorem width_decode (s : ByteArray) (i : Nat) (hi : i < s.size) :
    (widthN s i = 0 ∧ Utf8.decode s i = (65533, 1)) ∨ (0 < widthN s i ∧ (Utf8.decode s i).2 = widthN s i ∧ ((Utf8.decode s i).1 = 65533 → 2 ≤ widthN s i)) := by
  have hb := gb_lt s i
  have h1 := gb_lt s (i + 1)
  have h2 := gb_lt s (i + 2)
  have h3 := gb_lt s (i + 3)
  unfold widthN Utf8.decode
  rw [if_neg (by omega)]
  simp only [Utf8.runeError]
  have e0 : (s.get! (i + 0)).toNat = gb s i := rfl
  have e1 : (s.get! (i + 1)).toNat = gb s (i + 1) := rfl
  have e2 : (s.get! (i + 2)).toNat = gb s (i + 2) := rfl
  have e3 : (s.get! (i + 3)).toNat = gb s (i + 3) := rfl
  simp only [e0, e1, e2, e3]
  have d1 : (decide (i + 1 < s.size) && gb s (i + 1) / 64 == 2) = contB s (i + 1) := rfl
  have d2 : (decide (i + 2 < s.size) && gb s (i + 2) / 64 == 2) = contB s (i + 2) := rfl
  have d3 : (decide (i + 3 < s.size) && gb s (i + 3) / 64 == 2) = contB s (i + 3) := rfl
  simp only [d1, d2, d3]
  generalize gb s (i + 1) = g1 at *
  generalize gb s (i + 2) = g2 at *
  generalize gb s (i + 3) = g3 at *
  generalize gb s i = g at *
  generalize contB s (i + 1) = k1 at *
  generalize contB s (i + 2) = k2 at *
  generalize contB s (i + 3) = k3 at *
  clear e0 e1 e2 e3 d1 d2 d3 hi
  by_cases a1 : g < 128
  · rw [if_pos a1, if_pos (show g < 0x80 from a1)]
    exact .inr ⟨by decide, rfl, fun h => by have : g = 65533 := h; omega⟩
  rw [if_neg a1, if_neg (show ¬ g < 0x80 from a1)]
  by_cases a2 : 192 ≤ g ∧ g < 224
  · have q : (g / 32 == 6) = true := by rw [beq_iff_eq]; omega
    have m : g % 32 = g - 192 := by omega
    have r3 : (g / 16 == 14) = false := by rw [beq_eq_false_iff_ne]; omega
    have r4 : (g / 8 == 30) = false := by rw [beq_eq_false_iff_ne]; omega
    rw [if_pos a2, q, m, Bool.true_and, okC_valid, r3, r4]
    simp only [Bool.false_and, Bool.false_eq_true, if_false]
    cases k1 with
    | false => exact .inl ⟨rfl, rfl⟩
    | true =>
      simp only [Bool.true_and, if_true]
      by_cases c : 0x80 ≤ (g - 192) * 64 + g1 % 64
      · have v : Utf8.valid (((g - 192) * 64 + g1 % 64 : Nat) : Int) = true := by
          unfold Utf8.valid
          simp only [Bool.or_eq_true, Bool.and_eq_true, decide_eq_true_eq]
          omega
        rw [v, decide_eq_true (show 128 ≤ (g - 192) * 64 + g1 % 64 from c), if_pos c]
        exact .inr ⟨by decide, rfl, fun _ => by decide⟩
      · rw [decide_eq_false (show ¬ 128 ≤ (g - 192) * 64 + g1 % 64 from c), if_neg c]
        exact .inl ⟨rfl, rfl⟩
  have q2 : (g / 32 == 6) = false := by rw [beq_eq_false_iff_ne]; omega
  rw [if_neg a2, q2]
  simp only [Bool.false_and, Bool.false_eq_true, if_false]
  by_cases a3 : 224 ≤ g ∧ g < 240
  · have q : (g / 16 == 14) = true := by rw [beq_iff_eq]; omega
    have m : g % 16 = g - 224 := by omega
    have r4 : (g / 8 == 30) = false := by rw [beq_eq_false_iff_ne]; omega
    rw [if_pos a3, q, m, Bool.true_and, okC_valid, r4]
    simp only [Bool.false_and, Bool.false_eq_true, if_false]
    cases k1 with
    | false => exact .inl ⟨rfl, rfl⟩
    | true =>
      cases k2 with
      | false => exact .inl ⟨rfl, rfl⟩
      | true =>
        simp only [Bool.true_and, if_true]
        generalize (g - 224) * 4096 + g1 % 64 * 64 + g2 % 64 = c at *
        by_cases h : (decide (2048 ≤ c) && Utf8.valid (c : Int)) = true
        · rw [if_pos h, if_pos (by simpa [ge_iff_le] using h)]
          exact .inr ⟨by decide, rfl, fun _ => by decide⟩
        · rw [if_neg h, if_neg (by simpa [ge_iff_le] using h)]
          exact .inl ⟨rfl, rfl⟩
  have q3 : (g / 16 == 14) = false := by rw [beq_eq_false_iff_ne]; omega
  rw [if_neg a3, q3]
  simp only [Bool.false_and, Bool.false_eq_true, if_false]
  by_cases a4 : 240 ≤ g ∧ g < 248
  · have q : (g / 8 == 30) = true := by rw [beq_iff_eq]; omega
    have m : g % 8 = g - 240 := by omega
    rw [if_pos a4, q, m, Bool.true_and, okC_valid]
    cases k1 with
    | false => exact .inl ⟨rfl, rfl⟩
    | true =>
      cases k2 with
      | false => exact .inl ⟨rfl, rfl⟩
      | true =>
        cases k3 with
        | false => exact .inl ⟨rfl, rfl⟩
        | true =>
          simp only [Bool.true_and, if_true]
          generalize (g - 240) * 262144 + g1 % 64 * 4096 + g2 % 64 * 64 + g3 % 64 = c at *
          by_cases h : (decide (65536 ≤ c) && Utf8.valid (c : Int)) = true
          · rw [if_pos h, if_pos (by simpa [ge_iff_le] using h)]
            exact .inr ⟨by decide, rfl, fun _ => by decide⟩
          · rw [if_neg h, if_neg (by simpa [ge_iff_le] using h)]
            exact .inl ⟨rfl, rfl⟩
  have q4 : (g / 8 == 30) = false := by rw [beq_eq_false_iff_ne]; omega
  rw [if_neg a4, q4]
  simp
end Go.Proofs.YtgjlchcfdbmmlaaDoor.Obj
namespace Go.Proofs.YtgjlchcfdbmmlaaDoor.Ord
section
variable {P : Program}
theorem exec_append {o : Oper} {ρ : Operand → Value} {w w' : World} {v : Value} (s x : Operand) (t : TypeId) (ho : o.op = .call { callee := .builtin .append, args := #[s, x], argTypes := #[t, t] })
    (hr : (Builtin.append_ #[t, t] o.type #[ρ s, ρ x]).run P w = .ok v w') : (execOp ρ o).run P w = .ok (.value v) w' := by
  unfold execOp
  simp only [ho, resolve, invoke, builtin, Sem.run_bind, Sem.run_pure, Result.andThen_ok, List.map_toArray, List.map_cons, List.map_nil, hr]
theorem exec_buildSlice {o : Oper} {ρ : Operand → Value} {w w' : World} {v : Value} (t : TypeId) (len : Nat) (parts : Array (Nat × Operand)) (ho : o.op = .buildSlice t len parts)
    (hr : (Instr.buildSlice t len (parts.map fun (i, x) => (i, ρ x))).run P w = .ok v w') : (execOp ρ o).run P w = .ok (.value v) w' := by
  unfold execOp
  simp only [ho, Sem.run_bind, Sem.run_pure, Result.andThen_ok, hr]
/-- A slice literal: each element a value of s cells. -/
theorem run_lit (w : World) (t e : TypeId) (s len : Nat) (vs : List Value) (parts : Array (Nat × Value)) (z : Value) (b : Nat) (hu : P.underlying t = some (.slice e)) (hi : (P.info? e).map (fun i => (i.zero, i.size, i.bytes)) = some (some z, s, b))
    (hp : parts.toList = (vs.zipIdx 0).map fun x => (x.2, x.1)) (hs : 0 < s) (hn : 0 < len) (hl : vs.length = len) (hsm : len * s ≤ 2 ^ 24) (h1 : ∀ v ∈ vs, v.cells.size = s) :
    (Instr.buildSlice t len parts).run P w = .ok (.slice (some ⟨w.heap.size, 0, none⟩) len len) (w.alloc (.cells (vs.flatMap fun v => v.cells.toList).toArray e)) := by
  obtain ⟨ie, hie, hz, hz1, _⟩ := info_parts hi
  refine run_buildSlice w t e len parts _ ie z hu hie hz (by rw [hz1]; omega) (by rw [hz1]; exact Nat.ne_of_gt (Nat.mul_pos hn hs)) ?_
  rw [hz1, hp]
  exact Great.fill_whole hs vs _ h1 (by simp [hl])
end
end Go.Proofs.YtgjlchcfdbmmlaaDoor.Ord
namespace Go.Proofs
open Go.Shelf
def Tryd.lays260_ren : Go.Shelf.Ren := ⟨fun | 260 => 90 | n => n, fun | 9 => 9 | 21 => 21 | 3 => 3 | 4 => 4 | 5 => 5 | 119 => 173 | 0 => 0 | 46 => 143 | 139 => 176 | 138 => 175 | n => n, fun | 3 => 0 | 4 => 1 | n => n⟩
theorem Tryd.lays260 : Go.Proofs.Lays.n260 Tryd.prog Tryd.lays260_ren := {
  mixed := by kernel_rfl
  f260 := Tryd.func90.trans (congrArg some (by kernel_rfl))
  t0 := Tryd.underlying0
  a0 := Tryd.isAgg0
  z0 := Tryd.sizeOf0
  v0 := Tryd.zeroValue0
  t3 := Tryd.underlying3
  a3 := Tryd.isAgg3
  z3 := Tryd.sizeOf3
  v3 := Tryd.zeroValue3
  t4 := Tryd.underlying4
  a4 := Tryd.isAgg4
  z4 := Tryd.sizeOf4
  v4 := Tryd.zeroValue4
  t5 := Tryd.underlying5
  a5 := Tryd.isAgg5
  z5 := Tryd.sizeOf5
  v5 := Tryd.zeroValue5
  t9 := Tryd.underlying9
  a9 := Tryd.isAgg9
  z9 := Tryd.sizeOf9
  v9 := Tryd.zeroValue9
  t21 := Tryd.underlying21
  a21 := Tryd.isAgg21
  z21 := Tryd.sizeOf21
  v21 := Tryd.zeroValue21
  t46 := Tryd.underlying143
  a46 := Tryd.isAgg143
  z46 := Tryd.sizeOf143
  v46 := Tryd.zeroValue143
  t119 := Tryd.underlying173
  a119 := Tryd.isAgg173
  z119 := Tryd.sizeOf173
  t138 := Tryd.underlying175
  a138 := Tryd.isAgg175
  z138 := Tryd.sizeOf175
  v138 := Tryd.zeroValue175
  t139 := Tryd.underlying176
  a139 := Tryd.isAgg176
  z139 := Tryd.sizeOf176
  v139 := Tryd.zeroValue176
  g3 := by kernel_rfl
  g4 := by kernel_rfl }
def Tryd.lays197_ren : Go.Shelf.Ren := ⟨fun | 197 => 89 | 260 => 90 | n => n, fun | 9 => 9 | 21 => 21 | 3 => 3 | 4 => 4 | 5 => 5 | 105 => 171 | 119 => 173 | 0 => 0 | 46 => 143 | 139 => 176 | 138 => 175 | n => n, fun | 3 => 0 | 4 => 1 | n => n⟩
theorem Tryd.lays197 : Go.Proofs.Lays.n197 Tryd.prog Tryd.lays197_ren := {
  mixed := by kernel_rfl
  f197 := Tryd.func89.trans (congrArg some (by kernel_rfl))
  f260 := Tryd.func90.trans (congrArg some (by kernel_rfl))
  t0 := Tryd.underlying0
  a0 := Tryd.isAgg0
  z0 := Tryd.sizeOf0
  v0 := Tryd.zeroValue0
  t3 := Tryd.underlying3
  a3 := Tryd.isAgg3
  z3 := Tryd.sizeOf3
  v3 := Tryd.zeroValue3
  t4 := Tryd.underlying4
  a4 := Tryd.isAgg4
  z4 := Tryd.sizeOf4
  v4 := Tryd.zeroValue4
  t5 := Tryd.underlying5
  a5 := Tryd.isAgg5
  z5 := Tryd.sizeOf5
  v5 := Tryd.zeroValue5
  t9 := Tryd.underlying9
  a9 := Tryd.isAgg9
  z9 := Tryd.sizeOf9
  v9 := Tryd.zeroValue9
  t21 := Tryd.underlying21
  a21 := Tryd.isAgg21
  z21 := Tryd.sizeOf21
  v21 := Tryd.zeroValue21
  t46 := Tryd.underlying143
  a46 := Tryd.isAgg143
  z46 := Tryd.sizeOf143
  v46 := Tryd.zeroValue143
  t105 := Tryd.underlying171
  a105 := Tryd.isAgg171
  z105 := Tryd.sizeOf171
  v105 := Tryd.zeroValue171
  t119 := Tryd.underlying173
  a119 := Tryd.isAgg173
  z119 := Tryd.sizeOf173
  t138 := Tryd.underlying175
  a138 := Tryd.isAgg175
  z138 := Tryd.sizeOf175
  v138 := Tryd.zeroValue175
  t139 := Tryd.underlying176
  a139 := Tryd.isAgg176
  z139 := Tryd.sizeOf176
  v139 := Tryd.zeroValue176
  g3 := by kernel_rfl
  g4 := by kernel_rfl }
open Go.RowKit Go.Lib in
/-- **unicode/utf8.DecodeRuneInString AT EVERY STRING.** (LAID: no walk: one application.) -/
theorem Tryd.utf8_DecodeRuneInString (s : ByteArray) (w : World) (hT : Lib.Utf8Tabs 0 1 w) :
    Calls Tryd.prog 89 #[.string s] w fun e w' => e = .returned (.tuple #[.int .i32 (Lib.decodeGo s).1, .int .i64 (Lib.decodeGo s).2]) ∧ Below w.heap.size w w' := Any.utf8_DecodeRuneInString Tryd.lays197 s w hT
end Go.Proofs
namespace Go.Proofs.YtgjlchcfdbmmlaaDoor.Obj
open Go.RowKit Go.Proofs.YtgjlchcfdbmmlaaDoor.Ord

/-- From w to w' nothing that was there has turned but block b. -/
structure ModV (b : Nat) (w w' : World) : Prop where
  os : w'.os = w.os
  tape : w'.tape = w.tape
  output : w'.output = w.output
  size : w.heap.size ≤ w'.heap.size
  block : ∀ k, k < w.heap.size → k ≠ b → w'.heap[k]? = w.heap[k]?
theorem ModV.trans {b : Nat} {w w1 w2 : World} (h : ModV b w w1) (k : ModV b w1 w2) : ModV b w w2 :=
  ⟨k.os.trans h.os, k.tape.trans h.tape, k.output.trans h.output, Nat.le_trans h.size k.size, fun i hi hb => (k.block i (Nat.lt_of_lt_of_le hi h.size) hb).trans (h.block i hi hb)⟩
theorem ModV.of_below {b : Nat} {w w' : World} (h : Below w.heap.size w w') : ModV b w w' := ⟨h.os, h.tape, h.output, h.size, fun k hk _ => h.block k hk⟩
theorem ModV.below {b B : Nat} {w w' : World} (h : ModV b w w') (hB : B ≤ w.heap.size) (hb : B ≤ b) : Below B w w' := ⟨h.os, h.tape, h.output, h.size, fun k hk => h.block k (by omega) (by omega)⟩
theorem ModV.setCell (b : Nat) (w : World) (j : Nat) (v : Value) : ModV b w (w.setCell ⟨b, j, none⟩ v) :=
  ⟨rfl, rfl, rfl, by simp [World.setCell], fun k _ hb => Below.heap_setCell _ _ _ _ hb⟩
/-- How many runes there are from a place on; none: one does not stand. -/
def runesF (s : ByteArray) : Nat → Nat → Option Nat
  | 0, i => if s.size ≤ i then some 0 else none
  | f + 1, i => if s.size ≤ i then some 0 else if widthN s i = 0 then none else (runesF s f (i + widthN s i)).map (· + 1)
def runesN (s : ByteArray) : Option Nat := runesF s s.size 0
theorem widthN_le (s : ByteArray) (i : Nat) : widthN s i ≤ 4 := by
  unfold widthN; split; · omega
  split; · omega
  split; · split <;> omega
  split; · split <;> omega
  split; · split <;> omega
  omega
theorem runesF_end {s : ByteArray} {f i : Nat} (h : s.size ≤ i) : runesF s f i = some 0 := by
  cases f <;> simp [runesF, h]
theorem runesF_bad {s : ByteArray} {f i : Nat} (h : i < s.size) (hf : s.size ≤ i + f) (hw : widthN s i = 0) : runesF s f i = none := by
  cases f with
  | zero => omega
  | succ f => rw [runesF, if_neg (by omega), if_pos hw]
theorem runesF_step {s : ByteArray} {f i : Nat} (h : i < s.size) (hf : s.size ≤ i + f) (hw : 0 < widthN s i) : ∃ f', f = f' + 1 ∧ s.size ≤ (i + widthN s i) + f' ∧ runesF s f i = (runesF s f' (i + widthN s i)).map (· + 1) := by
  cases f with
  | zero => omega
  | succ f => exact ⟨f, rfl, by omega, by rw [runesF, if_neg (by omega), if_neg (by omega)]⟩
theorem alloc_lastV (w : World) (o : Obj) : (w.alloc o).heap[w.heap.size]? = some o := by show (w.heap.push o)[w.heap.size]? = _; exact Array.getElem?_push_size
def badP (v : Int) : List PanicEntry := [{ v := .iface 168 (.agg #[.int .i64 v]), recovered := false }]
def BoxV (B : Nat) (n : Int) (w : World) : Prop := w.heap[B]? = some (.cells #[.int .i64 n] 3 (0, 0))
theorem BoxV.kept {b : Nat} {n : Int} {w w' : World} (h : BoxV b n w) (hb : Below w.heap.size w w') : BoxV b n w' :=
  (hb.block b (Array.getElem?_eq_some_iff.1 h).1).trans h

set_option maxHeartbeats 4000000 in
set_option maxRecDepth 100000 in
theorem count_calls (B : Nat) (n : Nat) (p r : Int) (w : World) (h : BoxV B n w) (hn : n < 1000000) :
    Calls Tryd.prog 84 #[.int .i64 p, .int .i32 r, .pointer (some ⟨B, 0, none⟩)] w fun e w' => e = .returned (.tuple #[]) ∧ BoxV B ((n + 1 : Nat) : Int) w' ∧ ModV B w w' := by
  have c0 : w.cell? ⟨B, 0, none⟩ = some (.int .i64 (n : Int)) := by rw [Lib.cell_of_heap h]; rfl
  have f0 : w.frozen? ⟨B, 0, none⟩ = false := Lib.frozen_of_heap h 0
  have hfin : BoxV B ((n + 1 : Nat) : Int) (w.setCell ⟨B, 0, none⟩ (.int .i64 ((n : Int) + 1))) := by
    unfold BoxV; rw [heap_setCell_same _ _ _ _ _ _ h]; simp
  have H := Lib.hid hfin
  clear h hfin
  go_enter Tryd.func84, Tryd.ntmps84
  go_wp2
  exact ⟨rfl, _, results_none rfl _ _ _, rfl, H.out, ModV.setCell _ _ _ _⟩

/-- What each tells: every rune stands, and the box is counted up; or it panics. -/
def EachPost (s : ByteArray) (B n : Nat) (w0 : World) (e : Ending) (w' : World) : Prop :=
  match runesN s with
  | some k => e = .returned (.tuple #[]) ∧ BoxV B ((n + k : Nat) : Int) w' ∧ ModV B w0 w'
  | none => (∃ p, e = .panicked (badP p)) ∧ ModV B w0 w'
theorem tail_gb (s : ByteArray) (p j : Nat) : (s.extract p s.size).get! j = s.get! (p + j) := Lib.tail_get! s p j
theorem decode_tail (s : ByteArray) (p : Nat) (hp : p < s.size) : Lib.decodeGo (s.extract p s.size) = Utf8.decode s p := by
  have hz : (s.extract p s.size).size = s.size - p := by simp
  unfold Lib.decodeGo
  rw [if_neg (by omega), Lib.decode_at, Lib.decode_at s p, hz, tail_gb, tail_gb, tail_gb, tail_gb]
  simp
theorem width_one {s : ByteArray} {p : Nat} (hp : p < s.size) (h : (Utf8.decode s p).1 = 65533) : ((Utf8.decode s p).2 < 2 ↔ widthN s p = 0) := by
  rcases width_decode s p hp with ⟨h0, h1⟩ | ⟨h0, h1, h2⟩
  · rw [h1]; simp [h0]
  · have := h2 h; rw [h1]; omega
theorem width_any {s : ByteArray} {p : Nat} (hp : p < s.size) (h : widthN s p ≠ 0) : (Utf8.decode s p).2 = widthN s p := by
  rcases width_decode s p hp with ⟨h0, h1⟩ | ⟨h0, h1, h2⟩
  · exact absurd h0 h
  · exact h1
theorem width_err {s : ByteArray} {p : Nat} (hp : p < s.size) (h : (Utf8.decode s p).1 ≠ 65533) : widthN s p ≠ 0 := by
  rcases width_decode s p hp with ⟨h0, h1⟩ | ⟨h0, h1, h2⟩
  · rw [h1] at h; exact absurd rfl h
  · omega
/-- The iterator moved on: nothing else has turned. -/
theorem ModV.iter {B : Nat} {w wr : World} (h : ModV B w wr) {k : Nat} (hk : w.heap.size ≤ k) (s : ByteArray) (p : Nat) : ModV B w (wr.iterAt k s p) :=
  ⟨h.os, h.tape, h.output, by rw [Lib.iterAt_size]; exact h.size, fun i hi hb => (Lib.iterAt_other wr k i s p (by omega)).trans (h.block i hi hb)⟩
theorem iterPos_of {wr : World} {k : Nat} {s : ByteArray} {p : Nat} (h : wr.heap[k]? = some (.stringIter s p)) : wr.iterPos k = p := by
  simp only [World.iterPos, h]
set_option maxHeartbeats 8000000 in
set_option maxRecDepth 100000 in
theorem each_calls (s : ByteArray) (B : Nat) (w w0 : World) (hT : Lib.Utf8Tabs 0 1 w0) (h0 : Below w0.heap.size w0 w) (hB0 : w0.heap.size ≤ B) (h : BoxV B ((0 : Nat) : Int) w) (hs : s.size < 100000) :
    Calls Tryd.prog 88 #[.string s, .func (.func 84) #[] #[.pointer (some ⟨B, 0, none⟩)]] w (EachPost s B 0 w) := by
  have hBw : B < w.heap.size := (Array.getElem?_eq_some_iff.1 h).1
  have hdec : ∀ W, ModV B w W → ∀ p, p < s.size → Calls Tryd.prog 89 #[.string (s.extract p s.size)] W fun e w' => e = .returned (.tuple #[.int .i32 ((Utf8.decode s p).1 : Nat), .int .i64 ((Utf8.decode s p).2 : Nat)]) ∧ Below W.heap.size W w' := fun W hW p hp => by
    have h1 : Below w0.heap.size w0 W := h0.trans (hW.below (Nat.le_trans (Nat.le_of_lt (Nat.lt_of_le_of_lt hB0 hBw)) (Nat.le_refl _)) hB0)
    have := Tryd.utf8_DecodeRuneInString (s.extract p s.size) W (Utf8Tabs_below hT h1)
    rwa [decode_tail s p hp] at this
  have hcount : ∀ W (n : Nat) (p r : Int), BoxV B n W → n < 1000000 → Calls Tryd.prog 84 #[.int .i64 p, .int .i32 r, .pointer (some ⟨B, 0, none⟩)] W fun e w' => e = .returned (.tuple #[]) ∧ BoxV B ((n + 1 : Nat) : Int) w' ∧ ModV B W w' := fun W n p r h h' => count_calls B n p r W h h'
  have HD := Lib.hid hdec
  have HC := Lib.hid hcount
  clear hdec hcount
  go_enter Tryd.func88, Tryd.ntmps88
  go_wp2
  go_loopw [] (fun wr => ∃ (pos fuel n : Nat), wr.heap[w.heap.size]? = some (.stringIter s pos) ∧ BoxV B (n : Int) wr ∧ ModV B w wr ∧ s.size ≤ pos + fuel ∧ (runesF s fuel pos).map (n + ·) = runesN s ∧ n ≤ pos) (fun wr => s.size - wr.iterPos w.heap.size)
  case atStart =>
    have hn : Below w.heap.size w (w.iter s 0) := (Below.refl _ _).alloc (Nat.le_refl _) _
    refine ⟨0, s.size, 0, ?_, h.kept hn, ModV.of_below hn, by omega, by unfold runesN; simp, by omega⟩
    exact World.iter_heap w s 0
  case round =>
    obtain ⟨pos, fuel, n, hit, hbx, hm, hfu, hrn, hnp⟩ := hrel
    have hsz : w.heap.size < wr.heap.size := (Array.getElem?_eq_some_iff.1 hit).1
    by_cases hp : pos < s.size
    · have hnx : ∀ ty, (Instr.next (.pointer (some ⟨w.heap.size, 0, none⟩)) true ty).run Tryd.prog wr = _ := fun ty => Lib.run_next_any_at wr w.heap.size s pos ty hit hp
      have hm2 := hm.iter (k := w.heap.size) (Nat.le_refl _) s (pos + (Utf8.decode s pos).2)
      have hbx2 : BoxV B (n : Int) (wr.iterAt w.heap.size s (pos + (Utf8.decode s pos).2)) := (Lib.iterAt_other wr w.heap.size B s _ (by omega)).trans hbx
      have hit2 := Lib.iterAt_heap wr w.heap.size s pos (pos + (Utf8.decode s pos).2) hit
      obtain ⟨W1, hW1⟩ : ∃ W1, W1 = wr.iterAt w.heap.size s (pos + (Utf8.decode s pos).2) := ⟨_, rfl⟩
      rw [← hW1] at hnx hm2 hbx2 hit2
      have HW1 := Lib.hid hW1
      clear hW1
      have hpi : (0 : Int) ≤ (pos : Int) ∧ (pos : Int) ≤ (s.size : Int) := by omega
      by_cases h32 : (Utf8.decode s pos).1 = 65533
      · have h32' : ((Utf8.decode s pos).1 : Int) = 65533 := by rw [h32]; rfl
        have hlt2 := width_one hp h32
        have HD1 := Lib.hid (HD.out W1 hm2 pos hp)
        go_wp2_with fail
        refine HD1.out.mono ?_
        rintro e W2 ⟨rfl, hb2⟩
        have hm3 := hm2.trans (ModV.of_below hb2)
        have hbx3 := hbx2.kept hb2
        have hit3 : W2.heap[w.heap.size]? = some (.stringIter s (pos + (Utf8.decode s pos).2)) := (hb2.block _ (Array.getElem?_eq_some_iff.1 hit2).1).trans hit2
        by_cases hlt : (Utf8.decode s pos).2 < 2
        · have hlt' : ((Utf8.decode s pos).2 : Int) < 2 := by omega
          have hrn' := runesF_bad hp hfu (hlt2.1 hlt)
          rw [hrn'] at hrn
          go_wp2_with fail
          exact ⟨rfl, by unfold EachPost; rw [← hrn]; exact ⟨⟨_, rfl⟩, hm3⟩⟩
        · have hlt' : ¬ ((Utf8.decode s pos).2 : Int) < 2 := by omega
          have hwd : widthN s pos ≠ 0 := fun h => hlt (hlt2.2 h)
          have hd2 := width_any hp hwd
          obtain ⟨f', hf', hle', hst⟩ := runesF_step hp hfu (Nat.pos_of_ne_zero hwd)
          have HC1 := Lib.hid (HC.out W2 n pos 65533 hbx3 (by omega))
          have HF := Lib.hid (And.intro hd2 (And.intro hle' hst))
          clear hd2 hst hle'
          go_wp2_with fail
          refine HC1.out.mono ?_
          rintro e W3 ⟨rfl, hbx4, hm4⟩
          go_wp2_with fail
          go_roundw
          case rel => exact ⟨pos + (Utf8.decode s pos).2, f', n + 1, (hm4.block _ (Array.getElem?_eq_some_iff.1 hit3).1 (by omega)).trans hit3, hbx4, hm3.trans hm4, by rw [HF.out.1]; exact HF.out.2.1, by rw [HF.out.1, ← hrn, HF.out.2.2, Option.map_map]; congr 1; funext x; simp; omega, by rw [HF.out.1]; omega⟩
          case measure =>
            rw [iterPos_of ((hm4.block _ (Array.getElem?_eq_some_iff.1 hit3).1 (by omega)).trans hit3), iterPos_of hit, HF.out.1]
            omega
      · have h32' : ¬ ((Utf8.decode s pos).1 : Int) = 65533 := by omega
        have hwd := width_err hp h32
        have hd2 := width_any hp hwd
        obtain ⟨f', hf', hle', hst⟩ := runesF_step hp hfu (Nat.pos_of_ne_zero hwd)
        have HC1 := Lib.hid (HC.out W1 n pos (Utf8.decode s pos).1 hbx2 (by omega))
        have HF := Lib.hid (And.intro hd2 (And.intro hle' hst))
        clear hd2 hst hle'
        go_wp2_with fail
        refine HC1.out.mono ?_
        rintro e W3 ⟨rfl, hbx4, hm4⟩
        go_wp2_with fail
        go_roundw
        case rel => exact ⟨pos + (Utf8.decode s pos).2, f', n + 1, (hm4.block _ (Array.getElem?_eq_some_iff.1 hit2).1 (by omega)).trans hit2, hbx4, hm2.trans hm4, by rw [HF.out.1]; exact HF.out.2.1, by rw [HF.out.1, ← hrn, HF.out.2.2, Option.map_map]; congr 1; funext x; simp; omega, by rw [HF.out.1]; omega⟩
        case measure =>
          rw [iterPos_of ((hm4.block _ (Array.getElem?_eq_some_iff.1 hit2).1 (by omega)).trans hit2), iterPos_of hit, HF.out.1]
          omega
    · have hnx : ∀ ty, (Instr.next (.pointer (some ⟨w.heap.size, 0, none⟩)) true ty).run Tryd.prog wr = _ := fun ty => Lib.run_next_end_at wr w.heap.size s pos ty hit hp
      go_wp2_with fail
      refine bodyPost_ret (results_none rfl _ _ _) rfl ?_
      unfold EachPost
      rw [← hrn, runesF_end (by omega)]
      exact ⟨rfl, by simpa using hbx, hm⟩

def OkV (c : Nat) (b : Bool) (w : World) : Prop := w.heap[c]? = some (.cells #[.bool b] 4 (0, 0))
theorem as_bad (v : Value) (W : World) : (Instr.typeAssert (.iface 168 v) 20 168 true).run Tryd.prog W = .ok (.tuple #[v, .bool true]) W := by kernel_rfl
set_option maxHeartbeats 4000000 in
set_option maxRecDepth 100000 in
theorem catch_idle (v0 : Value) (w : World) :
    CallsD Tryd.prog 87 #[v0] .returning w fun e u' w' => e = .returned (.tuple #[]) ∧ u' = .returning ∧ w' = w := by
  refine callsD_of_wpS Tryd.func87 rfl fun c₀ cs hu => ?_
  apply wpS_seq
  apply wpS_region
  simp [wpOpsS, go_sem, recoverD, hu, Tryd.ntmps87, Exit.thenS]
  rw [show (#[v0] ++ ((Array.replicate 9 undef).setIfInBounds 1 Value.nilIface).setIfInBounds 0 Value.nilIface) = #[v0, .nilIface, .nilIface, undef, undef, undef, undef, undef, undef, undef] from rfl]
  refine wpS_of_wp ?_
  go_wp2
  cases c₀
  simp_all [bodyPostS, results, Tryd.results87]
set_option maxHeartbeats 4000000 in
set_option maxRecDepth 100000 in
theorem catch_bad (c : Nat) (p : Int) (older : List PanicEntry) (b : Bool) (w : World) (hc : OkV c b w) :
    CallsD Tryd.prog 87 #[.pointer (some ⟨c, 0, none⟩)] (.panicking ({ v := .iface 168 (.agg #[.int .i64 p]), recovered := false } :: older)) w fun e u' w' =>
      e = .returned (.tuple #[]) ∧ u' = .panicking ({ v := .iface 168 (.agg #[.int .i64 p]), recovered := true } :: older) ∧ OkV c false w' ∧ ModV c w w' := by
  have q1 := as_bad
  refine callsD_of_wpS Tryd.func87 rfl fun c₀ cs hu => ?_
  apply wpS_seq
  apply wpS_region
  simp [wpOpsS, go_sem, recoverD, hu, Tryd.ntmps87, Exit.thenS]
  rw [show ∀ (v0 v : Value), (#[v0] ++ ((Array.replicate 9 undef).setIfInBounds 1 v).setIfInBounds 0 v) = #[v0, v, v, undef, undef, undef, undef, undef, undef, undef] from fun _ _ => rfl]
  refine wpS_of_wp ?_
  have c0 : w.cell? ⟨c, 0, none⟩ = some (.bool b) := by rw [Lib.cell_of_heap hc]; rfl
  have f0 : w.frozen? ⟨c, 0, none⟩ = false := Lib.frozen_of_heap hc 0
  obtain ⟨W1, hW1⟩ : ∃ W1, W1 = w.setCell ⟨c, 0, none⟩ (.bool true) := ⟨_, rfl⟩
  have h1 : OkV c true W1 := by unfold OkV; rw [hW1, heap_setCell_same _ _ _ _ _ _ hc]; simp
  have c1 : W1.cell? ⟨c, 0, none⟩ = some (.bool true) := by rw [Lib.cell_of_heap h1]; rfl
  have f1 : W1.frozen? ⟨c, 0, none⟩ = false := Lib.frozen_of_heap h1 0
  have h2 : OkV c false (W1.setCell ⟨c, 0, none⟩ (.bool false)) := by unfold OkV; rw [heap_setCell_same _ _ _ _ _ _ h1]; simp
  have hm : ModV c w (W1.setCell ⟨c, 0, none⟩ (.bool false)) := by rw [hW1]; exact (ModV.setCell c w 0 _).trans (ModV.setCell c _ 0 _)
  rw [hW1] at c1 f1 h2 hm
  have H2 := Lib.hid h2
  have HM := Lib.hid hm
  clear hc hW1 h1 h2 hm
  go_wp2
  exact ⟨rfl, _, rfl, _, results_none rfl _ _ _, rfl, rfl, H2.out, HM.out⟩

theorem results_through (tmps : Array Value) (w : World) (c : Nat) (b : Bool) (h : tmps.getD 4 undef = .pointer (some ⟨c, 0, none⟩)) (hc : OkV c b w) :
    (results Tryd.f83 tmps).run Tryd.prog w = .ok (.bool b) w := by
  have h' : tmps[4]?.getD undef = .pointer (some ⟨c, 0, none⟩) := by simpa using h
  have k0 : w.cell? ⟨c, 0, none⟩ = some (.bool b) := by rw [Lib.cell_of_heap hc]; rfl
  simp [results, Tryd.results83, h', asAddr, k0, go_sem]
/-- What through tells. -/
def ThroughPost (s : ByteArray) (B : Nat) (w : World) (e : Ending) (w' : World) : Prop :=
  e = .returned (.bool (runesN s).isSome) ∧ ModV B w w' ∧ ∀ k, runesN s = some k → BoxV B (k : Int) w'
set_option maxHeartbeats 8000000 in
set_option maxRecDepth 100000 in
theorem through_calls (s : ByteArray) (B : Nat) (w w0 : World) (hT : Lib.Utf8Tabs 0 1 w0) (h0 : Below w0.heap.size w0 w) (hB0 : w0.heap.size ≤ B) (h : BoxV B ((0 : Nat) : Int) w) (hs : s.size < 100000) :
    Calls Tryd.prog 83 #[.string s, .func (.func 84) #[] #[.pointer (some ⟨B, 0, none⟩)]] w (ThroughPost s B w) := by
  have hmf : ∀ (fn : Fn) (first cap : Array Value) (w : World), (Instr.makeFunc fn first cap).run Tryd.prog w = .ok (.func fn first cap) w := fun _ _ _ _ => rfl
  obtain ⟨W1, hW1⟩ : ∃ W1, W1 = w.alloc (.cells #[.bool false] 4) := ⟨_, rfl⟩
  have hn1 : Below w.heap.size w W1 := by rw [hW1]; exact (Below.refl _ _).alloc (Nat.le_refl _) _
  have ho1 : OkV w.heap.size false W1 := by rw [hW1]; exact alloc_lastV _ _
  have hBw : B < w.heap.size := (Array.getElem?_eq_some_iff.1 h).1
  have hsz1 : w.heap.size < W1.heap.size := (Array.getElem?_eq_some_iff.1 ho1).1
  have HE := Lib.hid (each_calls s B W1 w0 hT (h0.trans (hn1.mono (Nat.le_of_lt (Nat.lt_of_le_of_lt hB0 hBw)))) hB0 (h.kept hn1) hs)
  have HW1 := Lib.hid hW1
  have HN1 := Lib.hid hn1
  have HO1 := Lib.hid ho1
  clear hW1 hn1 ho1 h
  go_enter_defers Tryd.func83, Tryd.ntmps83
  go_wp2_with fail
  rw [← HW1.out]
  refine HE.out.mono ?_
  intro e W2 hp
  unfold EachPost at hp
  cases hr : runesN s with
  | none =>
    rw [hr] at hp
    obtain ⟨⟨p, rfl⟩, hm⟩ := hp
    have ho2 : OkV w.heap.size false W2 := (hm.block _ hsz1 (by omega)).trans HO1.out
    refine leaves_cons (f := 87) (args := #[.pointer (some ⟨w.heap.size, 0, none⟩)]) (by simp) (by simp [go_sem]) ?_
    refine (catch_bad _ p [] false W2 ho2).mono ?_
    rintro e u' w'' ⟨rfl, rfl, ho3, hm3⟩
    refine ⟨_, results_through _ w'' _ _ rfl ho3, by rw [hr]; rfl, ?_, fun k hk => by rw [hr] at hk; cases hk⟩
    exact ⟨(hm3.os.trans hm.os).trans HN1.out.os, (hm3.tape.trans hm.tape).trans HN1.out.tape, (hm3.output.trans hm.output).trans HN1.out.output, Nat.le_trans HN1.out.size (Nat.le_trans hm.size hm3.size), fun k hk hkb => ((hm3.block k (by have := hm.size; omega) (by omega)).trans (hm.block k (by omega) hkb)).trans (HN1.out.block k hk)⟩
  | some k =>
    rw [hr] at hp
    obtain ⟨rfl, hbx, hm⟩ := hp
    have ho2 : OkV w.heap.size false W2 := (hm.block _ hsz1 (by omega)).trans HO1.out
    have c0 : W2.cell? ⟨w.heap.size, 0, none⟩ = some (.bool false) := by rw [Lib.cell_of_heap ho2]; rfl
    have f0 : W2.frozen? ⟨w.heap.size, 0, none⟩ = false := Lib.frozen_of_heap ho2 0
    obtain ⟨W3, hW3⟩ : ∃ W3, W3 = W2.setCell ⟨w.heap.size, 0, none⟩ (.bool true) := ⟨_, rfl⟩
    have ho3 : OkV w.heap.size true W3 := by unfold OkV; rw [hW3, heap_setCell_same _ _ _ _ _ _ ho2]; simp
    have hm3 : ModV w.heap.size W2 W3 := by rw [hW3]; exact ModV.setCell _ _ _ _
    have hbx3 : BoxV B (k : Int) W3 := (hm3.block _ (Array.getElem?_eq_some_iff.1 hbx).1 (by omega)).trans (by rw [show (0 + k) = k by omega] at hbx; exact hbx)
    have hmf : ModV B w W3 := ⟨(hm3.os.trans hm.os).trans HN1.out.os, (hm3.tape.trans hm.tape).trans HN1.out.tape, (hm3.output.trans hm.output).trans HN1.out.output, Nat.le_trans HN1.out.size (Nat.le_trans hm.size hm3.size), fun k hk hkb => ((hm3.block k (by have := hm.size; omega) (by omega)).trans (hm.block k (by omega) hkb)).trans (HN1.out.block k hk)⟩
    have HW3 := Lib.hid hW3
    have HO3 := Lib.hid ho3
    have HM := Lib.hid (And.intro hmf hbx3)
    clear hW3 ho3 hm3 hbx3 hmf hbx hm ho2
    go_wp2_with fail
    rw [← HW3.out]
    refine leaves_cons (f := 87) (args := #[.pointer (some ⟨w.heap.size, 0, none⟩)]) (by simp) (by simp [go_sem]) ?_
    refine (catch_idle _ W3).mono ?_
    rintro e u' w'' ⟨rfl, rfl, rfl⟩
    refine ⟨_, results_through _ _ _ _ rfl HO3.out, by rw [hr]; rfl, HM.out.1, fun j hj => by rw [hr] at hj; cases hj; exact HM.out.2⟩
/-- How many runes; -1: one does not stand. -/
def runesV (s : ByteArray) : Int := match runesN s with | some k => (k : Int) | none => -1
set_option maxHeartbeats 8000000 in
set_option maxRecDepth 100000 in
theorem runes_calls (s : ByteArray) (w : World) (hT : Lib.Utf8Tabs 0 1 w) (hs : s.size < 100000) :
    Calls Tryd.prog 73 #[.string s] w fun e w' => e = .returned (.int .i64 (runesV s)) ∧ Below w.heap.size w w' := by
  have hmf : ∀ (fn : Fn) (first cap : Array Value) (w : World), (Instr.makeFunc fn first cap).run Tryd.prog w = .ok (.func fn first cap) w := fun _ _ _ _ => rfl
  obtain ⟨W1, hW1⟩ : ∃ W1, W1 = w.alloc (.cells #[.int .i64 0] 3) := ⟨_, rfl⟩
  have hn1 : Below w.heap.size w W1 := by rw [hW1]; exact (Below.refl _ _).alloc (Nat.le_refl _) _
  have hb1 : BoxV w.heap.size ((0 : Nat) : Int) W1 := by rw [hW1]; exact alloc_lastV _ _
  have hth := through_calls s w.heap.size W1 w hT hn1 (Nat.le_refl _) hb1 hs
  unfold ThroughPost at hth
  unfold runesV
  generalize runesN s = rn at hth
  have HT := Lib.hid hth
  clear hth
  have HW1 := Lib.hid hW1
  have HN1 := Lib.hid hn1
  clear hW1 hn1 hb1
  go_enter Tryd.func73, Tryd.ntmps73
  go_wp2_with fail
  try rw [← HW1.out]
  refine HT.out.mono ?_
  rintro e W2 ⟨rfl, hm, hbx⟩
  have hfin : Below w.heap.size w W2 := HN1.out.trans (hm.below HN1.out.size (Nat.le_refl _))
  have HF := Lib.hid hfin
  clear hfin
  cases rn with
  | none =>
    clear hbx
    go_wp2_with fail
    go_ret
    exact ⟨rfl, HF.out⟩
  | some k =>
    have hbx2 := hbx k rfl
    have c0 : W2.cell? ⟨w.heap.size, 0, none⟩ = some (.int .i64 (k : Int)) := by rw [Lib.cell_of_heap hbx2]; rfl
    clear hbx hbx2
    go_wp2_with fail
    go_ret
    exact ⟨rfl, HF.out⟩
end Go.Proofs.YtgjlchcfdbmmlaaDoor.Obj
-- cut from a text PRINTED BY print.sh
namespace Go.Proofs.YtgjlchcfdbmmlaaDoor.PObjectTakes
open Go.RowKit Go.Proofs.YtgjlchcfdbmmlaaDoorW.PrintWords Go.Proofs.YtgjlchcfdbmmlaaDoorW.PrintLast Go.Proofs.YtgjlchcfdbmmlaaDoorW.PrintMore
attribute [local go_sem] max2_int min2_int max_two min_two max_three min_three max_four min_four   -- for this text's walks alone



def errW : Option Int → Value
  | none => .nilIface
  | some c => .iface 0 (.int .i64 c)
theorem errW_none : errW none = .nilIface := rfl
theorem errW_some (c : Int) : errW (some c) = .iface 0 (.int .i64 c) := rfl

theorem info42 : (Tryd.prog.info? 42).map (fun i => (i.zero, i.size, i.bytes)) = some (some (.agg #[(.int .i64 0), (.int .i64 0), (.string ⟨#[]⟩), (.slice none 0 0)]), 4, 56) := by kernel_rfl
-- the values' own types
/-! #### struct type 42, nested in itself -/
structure S42 where
  f0 : Int
  f1 : Int
  f2 : ByteArray
  f3 : (List S42)
def z42 : S42 := ⟨(0 : Int), (0 : Int), (⟨#[]⟩ : ByteArray), ([] : List S42)⟩
def F42 (d : Kd S42) : Kd S42 := Kd.iso (Kd.pair (Kd.int .i64) (Kd.pair (Kd.int .i64) (Kd.pair Kd.string (Kd.slice 42 d)))) (fun x : S42 => (x.f0, x.f1, x.f2, x.f3))
theorem mono42 : Kd.Mono F42 := Kd.mono_iso _ (Kd.mono_pair (Kd.mono_const _) (Kd.mono_pair (Kd.mono_const _) (Kd.mono_pair (Kd.mono_const _) (Kd.mono_slice 42 Kd.mono_id))))
theorem sub42 : Kd.Sub F42 [42] := Kd.sub_iso _ (Kd.sub_pair (Kd.sub_const _ (by decide)) (Kd.sub_pair (Kd.sub_const _ (by decide)) (Kd.sub_pair (Kd.sub_const _ (by decide)) (Kd.sub_slice 42 (by decide) Kd.sub_id))))
theorem sz42 : ∀ n, (Kd.upto F42 4 [42] n).sz = 4 := Kd.upto_sz (fun _ => rfl)
def k42 : Kd S42 := Kd.fix F42 4 [42] sz42 (Kd.upto_E sub42)
theorem k42_open {w : World} {x : S42} {cs : List Value} (h : k42.K w x cs) : ∃ A3 c3, cs = [.int .i64 x.f0, .int .i64 x.f1, .string x.f2, .slice A3 x.f3.length c3] ∧ x.f3.length ≤ c3 ∧ k42.C w A3 x.f3.length x.f3 := by
  obtain ⟨n, h⟩ := h
  cases n with
  | zero => exact h.elim
  | succ n =>
    obtain ⟨_, _, rfl, rfl, ⟨_, _, rfl, rfl, ⟨_, _, rfl, rfl, ⟨A3, c3, rfl, l3, g3⟩⟩⟩⟩ := h
    exact ⟨A3, c3, rfl, l3, Kd.fix_C g3⟩
theorem k42_openM {w : World} {base : Nat} {ok : Nat → Prop} {x : S42} {cs : List Value} (h : k42.M w base ok x cs) : ∃ v3, cs = [.int .i64 x.f0, .int .i64 x.f1, .string x.f2, v3] ∧ k42.R 42 w base ok v3 x.f3 := by
  obtain ⟨n, h⟩ := h
  cases n with
  | zero => exact h.elim
  | succ n =>
    obtain ⟨_, _, rfl, rfl, ⟨_, _, rfl, rfl, ⟨_, _, rfl, rfl, ⟨v3, rfl, g3⟩⟩⟩⟩ := h
    exact ⟨v3, rfl, Kd.fix_R g3⟩
theorem k42_mk (w : World) (x : S42) {A3 : Option Addr} {c3 : Nat} (l3 : x.f3.length ≤ c3) (g3 : k42.C w A3 x.f3.length x.f3) : k42.K w x [.int .i64 x.f0, .int .i64 x.f1, .string x.f2, .slice A3 x.f3.length c3] := by
  obtain ⟨n3, q3⟩ := Kd.fix_C_back mono42 g3
  have r3 := Kd.upto_C_le mono42 sz42 (show n3 ≤ n3 by omega) q3
  exact ⟨n3 + 1, ⟨[.int .i64 x.f0], [.int .i64 x.f1, .string x.f2, .slice A3 x.f3.length c3], rfl, rfl, ⟨[.int .i64 x.f1], [.string x.f2, .slice A3 x.f3.length c3], rfl, rfl, ⟨[.string x.f2], [.slice A3 x.f3.length c3], rfl, rfl, ⟨A3, c3, rfl, l3, r3⟩⟩⟩⟩⟩
theorem k42_mkM (w : World) (base : Nat) (ok : Nat → Prop) (x : S42) {v3 : Value} (g3 : k42.R 42 w base ok v3 x.f3) : k42.M w base ok x [.int .i64 x.f0, .int .i64 x.f1, .string x.f2, v3] := by
  obtain ⟨n3, q3⟩ := Kd.fix_R_back mono42 g3
  have r3 := Kd.upto_R_le mono42 sz42 (show n3 ≤ n3 by omega) q3
  exact ⟨n3 + 1, ⟨[.int .i64 x.f0], [.int .i64 x.f1, .string x.f2, v3], rfl, rfl, ⟨[.int .i64 x.f1], [.string x.f2, v3], rfl, rfl, ⟨[.string x.f2], [v3], rfl, rfl, ⟨v3, rfl, r3⟩⟩⟩⟩⟩
def rd_T42 (xs : List S42) (i : Int) : S42 := xs.getD i.toNat z42
theorem at_T42 {w : World} {A : Option Addr} {n : Nat} {xs : List S42} (h : Kd.C k42 w A n xs) (i : Int) (h0 : 0 ≤ i) (h1 : i < n) : ∃ ad A3 c3, A = some ad ∧ w.cell? (ad.add (i.toNat * 4)) = some (.int .i64 (rd_T42 xs i).f0) ∧ w.cell? ⟨(ad.add (i.toNat * 4)).block, (ad.add (i.toNat * 4)).off + 1, none⟩ = some (.int .i64 (rd_T42 xs i).f1) ∧ w.cell? ⟨(ad.add (i.toNat * 4)).block, (ad.add (i.toNat * 4)).off + 2, none⟩ = some (.string (rd_T42 xs i).f2) ∧ w.cell? ⟨(ad.add (i.toNat * 4)).block, (ad.add (i.toNat * 4)).off + 3, none⟩ = some (.slice A3 (rd_T42 xs i).f3.length c3) ∧ (rd_T42 xs i).f3.length ≤ c3 ∧ k42.C w A3 (rd_T42 xs i).f3.length (rd_T42 xs i).f3 := by
  obtain ⟨ad, c, e, _, hK, hc0⟩ := Kd.C_get h z42 i h0 h1
  have hc : ∀ j u, c[j]? = some u → w.cell? (ad.add (i.toNat * 4 + j)) = some u := hc0
  obtain ⟨A3, c3, rfl, l3, g3⟩ := k42_open hK
  exact ⟨ad, A3, c3, e, hc 0 _ rfl, by rw [← add_field _ _ 1 (by omega)]; exact hc 1 _ rfl, by rw [← add_field _ _ 2 (by omega)]; exact hc 2 _ rfl, by rw [← add_field _ _ 3 (by omega)]; exact hc 3 _ rfl, l3, g3⟩

/-! #### struct type 53 -/
structure S53 where
  f0 : Int
  f1 : Int
  f2 : ByteArray
def z53 : S53 := ⟨(0 : Int), (0 : Int), (⟨#[]⟩ : ByteArray)⟩
def k53 : Kd S53 := Kd.iso (Kd.pair (Kd.int .i64) (Kd.pair (Kd.int .i64) Kd.string)) (fun x : S53 => (x.f0, x.f1, x.f2))
theorem k53_open {w : World} {x : S53} {cs : List Value} (h : k53.K w x cs) : cs = [.int .i64 x.f0, .int .i64 x.f1, .string x.f2] := by
  obtain ⟨_, _, rfl, rfl, ⟨_, _, rfl, rfl, rfl⟩⟩ := h
  exact rfl
theorem k53_mkM (w : World) (base : Nat) (ok : Nat → Prop) (x : S53)  : k53.M w base ok x [.int .i64 x.f0, .int .i64 x.f1, .string x.f2] := ⟨[.int .i64 x.f0], [.int .i64 x.f1, .string x.f2], rfl, rfl, ⟨[.int .i64 x.f1], [.string x.f2], rfl, rfl, rfl⟩⟩
/-! #### struct type 55 -/
structure S55 where
  f0 : Int
  f1 : Int
  f2 : S53
def z55 : S55 := ⟨(0 : Int), (0 : Int), z53⟩
def k55 : Kd S55 := Kd.iso (Kd.pair (Kd.int .i64) (Kd.pair (Kd.int .i64) k53)) (fun x : S55 => (x.f0, x.f1, x.f2))
theorem k55_open {w : World} {x : S55} {cs : List Value} (h : k55.K w x cs) : cs = [.int .i64 x.f0, .int .i64 x.f1, .int .i64 x.f2.f0, .int .i64 x.f2.f1, .string x.f2.f2] := by
  obtain ⟨_, _, rfl, rfl, ⟨_, _, rfl, rfl, s2⟩⟩ := h
  obtain rfl := k53_open s2
  exact rfl
theorem k55_mkM (w : World) (base : Nat) (ok : Nat → Prop) (x : S55)  : k55.M w base ok x [.int .i64 x.f0, .int .i64 x.f1, .int .i64 x.f2.f0, .int .i64 x.f2.f1, .string x.f2.f2] := ⟨[.int .i64 x.f0], [.int .i64 x.f1, .int .i64 x.f2.f0, .int .i64 x.f2.f1, .string x.f2.f2], rfl, rfl, ⟨[.int .i64 x.f1], [.int .i64 x.f2.f0, .int .i64 x.f2.f1, .string x.f2.f2], rfl, rfl, (k53_mkM w base ok x.f2 )⟩⟩
def rd_T55 (xs : List S55) (i : Int) : S55 := xs.getD i.toNat z55
theorem at_T55 {w : World} {A : Option Addr} {n : Nat} {xs : List S55} (h : Kd.C k55 w A n xs) (i : Int) (h0 : 0 ≤ i) (h1 : i < n) : ∃ ad , A = some ad ∧ w.cell? (ad.add (i.toNat * 5)) = some (.int .i64 (rd_T55 xs i).f0) ∧ w.cell? ⟨(ad.add (i.toNat * 5)).block, (ad.add (i.toNat * 5)).off + 1, none⟩ = some (.int .i64 (rd_T55 xs i).f1) ∧ w.cell? ⟨(ad.add (i.toNat * 5)).block, (ad.add (i.toNat * 5)).off + 2, none⟩ = some (.int .i64 (rd_T55 xs i).f2.f0) ∧ w.cell? ⟨(ad.add (i.toNat * 5)).block, (ad.add (i.toNat * 5)).off + 3, none⟩ = some (.int .i64 (rd_T55 xs i).f2.f1) ∧ w.cell? ⟨(ad.add (i.toNat * 5)).block, (ad.add (i.toNat * 5)).off + 4, none⟩ = some (.string (rd_T55 xs i).f2.f2) := by
  obtain ⟨ad, c, e, _, hK, hc0⟩ := Kd.C_get h z55 i h0 h1
  have hc : ∀ j u, c[j]? = some u → w.cell? (ad.add (i.toNat * 5 + j)) = some u := hc0
  obtain rfl := k55_open hK
  exact ⟨ad, e, hc 0 _ rfl, by rw [← add_field _ _ 1 (by omega)]; exact hc 1 _ rfl, by rw [← add_field _ _ 2 (by omega)]; exact hc 2 _ rfl, by rw [← add_field _ _ 3 (by omega)]; exact hc 3 _ rfl, by rw [← add_field _ _ 4 (by omega)]; exact hc 4 _ rfl⟩

/-! #### struct type 60 -/
structure S60 where
  f0 : Int
  f1 : ByteArray
def z60 : S60 := ⟨(0 : Int), (⟨#[]⟩ : ByteArray)⟩
def k60 : Kd S60 := Kd.iso (Kd.pair (Kd.int .u8) Kd.string) (fun x : S60 => (x.f0, x.f1))
theorem k60_open {w : World} {x : S60} {cs : List Value} (h : k60.K w x cs) : cs = [.int .u8 x.f0, .string x.f1] := by
  obtain ⟨_, _, rfl, rfl, rfl⟩ := h
  exact rfl
theorem k60_mkM (w : World) (base : Nat) (ok : Nat → Prop) (x : S60)  : k60.M w base ok x [.int .u8 x.f0, .string x.f1] := ⟨[.int .u8 x.f0], [.string x.f1], rfl, rfl, rfl⟩
def rd_T60 (xs : List S60) (i : Int) : S60 := xs.getD i.toNat z60
theorem at_T60 {w : World} {A : Option Addr} {n : Nat} {xs : List S60} (h : Kd.C k60 w A n xs) (i : Int) (h0 : 0 ≤ i) (h1 : i < n) : ∃ ad , A = some ad ∧ w.cell? (ad.add (i.toNat * 2)) = some (.int .u8 (rd_T60 xs i).f0) ∧ w.cell? ⟨(ad.add (i.toNat * 2)).block, (ad.add (i.toNat * 2)).off + 1, none⟩ = some (.string (rd_T60 xs i).f1) := by
  obtain ⟨ad, c, e, _, hK, hc0⟩ := Kd.C_get h z60 i h0 h1
  have hc : ∀ j u, c[j]? = some u → w.cell? (ad.add (i.toNat * 2 + j)) = some u := hc0
  obtain rfl := k60_open hK
  exact ⟨ad, e, hc 0 _ rfl, by rw [← add_field _ _ 1 (by omega)]; exact hc 1 _ rfl⟩

end Go.Proofs.YtgjlchcfdbmmlaaDoor.PObjectTakes
namespace Go.Proofs.YtgjlchcfdbmmlaaDoor.PObjectTakes
open Go.RowKit Go.Proofs.YtgjlchcfdbmmlaaDoor.Ord Go.Proofs.YtgjlchcfdbmmlaaDoor.Obj Go.Proofs.YtgjlchcfdbmmlaaDoorW.PrintWords Go.Proofs.YtgjlchcfdbmmlaaDoorW.PrintLast Go.Proofs.YtgjlchcfdbmmlaaDoorW.PrintMore
attribute [local irreducible] OpGives

/-- Is a value right? -/
def okV (v : S53) : Bool := if v.f0 = 1 then decide (v.f2.size = 0) else if v.f0 = 2 then decide (v.f1 = 0) && (decide (v.f2.size ≤ 40) && (runesN v.f2).isSome) else false
set_option maxHeartbeats 8000000 in
set_option maxRecDepth 100000 in
theorem vcheck_calls (k n : Int) (s : ByteArray) (w : World) (hT : Lib.Utf8Tabs 0 1 w) :
    Calls Tryd.prog 59 #[.agg #[.int .i64 k, .int .i64 n, .string s]] w fun e w' => e = .returned (.int .i64 (if okV ⟨k, n, s⟩ then 0 else 2)) ∧ Below w.heap.size w w' := by
  obtain ⟨W1, hW1⟩ : ∃ W1, W1 = w.alloc (.cells #[.int .i64 k, .int .i64 n, .string s] 53) := ⟨_, rfl⟩
  have hn1 : Below w.heap.size w W1 := by rw [hW1]; exact (Below.refl _ _).alloc (Nat.le_refl _) _
  have hg1 : W1.heap[w.heap.size]? = some (.cells #[.int .i64 k, .int .i64 n, .string s] 53 (0, 0)) := by rw [hW1]; exact alloc_lastV _ _
  have c0 : W1.cell? ⟨w.heap.size, 0, none⟩ = some (.int .i64 k) := by rw [Lib.cell_of_heap hg1]; rfl
  have c1 : W1.cell? ⟨w.heap.size, 1, none⟩ = some (.int .i64 n) := by rw [Lib.cell_of_heap hg1]; rfl
  have c2 : W1.cell? ⟨w.heap.size, 2, none⟩ = some (.string s) := by rw [Lib.cell_of_heap hg1]; rfl
  have HW1 := Lib.hid hW1
  have HN1 := Lib.hid hn1
  have hR := fun (h : s.size ≤ 40) => runes_calls s W1 (Utf8Tabs_below hT hn1) (by omega)
  have HR := Lib.hid hR
  rw [hW1] at c0 c1 c2
  clear hW1 hn1 hg1 hR
  unfold okV
  have etl : s.size ≠ 0 → (s.toList == ([] : List UInt8)) = false := fun h => by
    rw [beq_eq_false_iff_ne]; intro e; exact h (by rw [Lib.size_eq, ← Lib.toList_data, e]; rfl)
  by_cases hk1 : k = 1
  · subst hk1
    have e1 : ((1 : Int) == 1) = true := rfl
    simp only [if_true]
    by_cases hs : s.size = 0
    · obtain rfl : s = ⟨#[]⟩ := by
        rcases s with ⟨⟨l⟩⟩
        have : l.length = 0 := hs
        rw [List.eq_nil_of_length_eq_zero this]
      clear etl HR
      go_enter Tryd.func59, Tryd.ntmps59
      go_wp2_with fail
      rw [← HW1.out]
      go_ret
      exact ⟨rfl, HN1.out⟩
    · have hs' := etl hs
      have ed : decide (s.size = 0) = false := decide_eq_false hs
      clear etl HR
      go_enter Tryd.func59, Tryd.ntmps59
      go_wp2_with fail
      all_goals (rw [← HW1.out]; go_ret; exact ⟨rfl, HN1.out⟩)
  · have e1 : (k == 1) = false := by simpa using hk1
    rw [if_neg hk1]
    by_cases hk2 : k = 2
    · subst hk2
      simp only [if_true]
      have e2 : ((2 : Int) == 2) = true := rfl
      by_cases hn : n = 0
      · subst hn
        by_cases hs : s.size ≤ 40
        · have hs' : (s.size : Int) ≤ 40 := by omega
          have HR2 := Lib.hid (HR.out hs)
          have hrv : (0 ≤ runesV s) = ((runesN s).isSome = true) := by
            unfold runesV
            cases runesN s with
            | none => simp
            | some k => simp
          have hd : decide (s.size ≤ 40) = true := decide_eq_true hs
          clear etl HR
          rw [hd]
          generalize runesV s = rv at hrv HR2
          generalize (runesN s).isSome = ro at hrv
          have HRV := Lib.hid hrv
          clear hrv hd
          go_enter Tryd.func59, Tryd.ntmps59
          go_wp2_with fail
          rw [← HW1.out]
          refine HR2.out.mono ?_
          rintro e W2 ⟨rfl, hb2⟩
          have HF := Lib.hid (HN1.out.trans (hb2.mono HN1.out.size))
          clear hb2
          by_cases h0 : 0 ≤ rv
          · have hro : ro = true := by have := HRV.out; exact this ▸ h0
            subst hro
            go_wp2_with fail
            go_ret
            exact ⟨rfl, HF.out⟩
          · have hro : ro = false := by
              have := HRV.out
              cases ro
              · rfl
              · exact absurd (this.symm ▸ rfl) h0
            subst hro
            go_wp2_with fail
            go_ret
            exact ⟨rfl, HF.out⟩
        · have hs' : ¬ (s.size : Int) ≤ 40 := by omega
          have ed : decide (s.size ≤ 40) = false := decide_eq_false hs
          clear etl HR
          go_enter Tryd.func59, Tryd.ntmps59
          go_wp2_with fail
          all_goals (rw [← HW1.out]; go_ret; exact ⟨rfl, HN1.out⟩)
      · have ed : decide (n = 0) = false := decide_eq_false hn
        have en : (n == 0) = false := by simpa using hn
        clear etl HR
        go_enter Tryd.func59, Tryd.ntmps59
        go_wp2_with fail
        all_goals (rw [← HW1.out]; go_ret; exact ⟨rfl, HN1.out⟩)
    · have e2 : (k == 2) = false := by simpa using hk2
      rw [if_neg hk2]
      clear etl HR
      go_enter Tryd.func59, Tryd.ntmps59
      go_wp2_with fail
      all_goals (rw [← HW1.out]; go_ret; exact ⟨rfl, HN1.out⟩)
end Go.Proofs.YtgjlchcfdbmmlaaDoor.PObjectTakes
-- cut from a text PRINTED BY print.sh
namespace Go.Proofs.YtgjlchcfdbmmlaaDoor.PObjectTakes
open Go.RowKit Go.Proofs.YtgjlchcfdbmmlaaDoorW.PrintWords Go.Proofs.YtgjlchcfdbmmlaaDoorW.PrintLast Go.Proofs.YtgjlchcfdbmmlaaDoorW.PrintMore
attribute [local go_sem] max2_int min2_int max_two min_two max_three min_three max_four min_four   -- for this text's walks alone

-- NOT PRINTED: function 19 (object_formed)

/-! ### cell_check: function 55 -/
-- NOT PRINTED: function 85 (abi_NoEscape)

-- NOT PRINTED: function 75 (strings_Builder_copyCheck)

-- NOT PRINTED: function 74 (strings_Builder_WriteByte)

-- NOT PRINTED: function 63 (cell_writer_head)

-- NOT PRINTED: function 64 (strings_Builder_WriteString)

-- NOT PRINTED: function 38 (cell_writer_put)

-- NOT PRINTED: function 39 (strings_Builder_String)

-- NOT PRINTED: function 20 (cell_Put)

-- NOT PRINTED: function 8 (object_Put)

-- NOT PRINTED: function 13 (object_Check)

/-! ### cell_Num: function 60 -/
def cell_Num.f (a0 : Int) : Option (Int × Int × ByteArray × (List (S42))) := some (1, a0, (⟨#[]⟩ : ByteArray), ([] : List (S42)))
set_option maxHeartbeats 8000000 in
set_option maxRecDepth 100000 in
theorem cell_Num.calls (a0 : Int) (r1 : Int) (r2 : Int) (r3 : ByteArray) (r4 : List (S42)) (w : World) (h : cell_Num.f a0 = some (r1, r2, r3, r4)) :
    Calls Tryd.prog 60 #[.int .i64 a0] w fun e w' => ∃ v3_ : Value, e = .returned (.agg #[.int .i64 r1, .int .i64 r2, .string r3, v3_]) ∧ Kd.R k42 42 w' w.heap.size (fun _ => True) v3_ r4 ∧ Below w.heap.size w w' := by
  have hu42 := Tryd.underlying42
  have HB := Aside0.mk (Below.refl w.heap.size w)
  have H : (some (1, a0, (⟨#[]⟩ : ByteArray), ([] : List (S42)))) = some (r1, r2, r3, r4) := h
  clear h
  simp only [Option.some.injEq, Prod.mk.injEq] at H
  obtain ⟨rfl, rfl, rfl, rfl⟩ := H
  go_enter Tryd.func60, Tryd.ntmps60
  go_wp2_with (first | ((with_reducible refine gate_dst (N := 2) rfl ?_); refine box_event ?hg (N := 2) ?hd (cs := #[.int .i64 0, .int .i64 0, .string (⟨#[]⟩ : ByteArray), .slice none 0 0]) (t := 42) ?hr ?_; (case hd => rfl); (case hg => rfl); (case hr => first | (go_simp; done) | (go_simp; rfl)); intro gb111 hg w2 hbox hb; have n0_ := Aside0.mk (below_step (by repeat (first | (with_reducible first | exact HB.out | apply below_alloc | apply pw_below_drewN | apply below_drew1) | exact HB.out)) hb); have n1_ := Aside0.mk (hbox); have n2_ := Aside0.mk ((by rw [hg]; exact (below_size (by repeat (first | (with_reducible first | exact HB.out | apply below_alloc | apply pw_below_drewN | apply below_drew1) | exact HB.out))) : w.heap.size ≤ gb111)); have n3_ := Aside0.mk ((by rw [hg]; exact (below_size (by repeat (first | (with_reducible first | exact HB.out | apply below_alloc | apply pw_below_drewN | apply below_drew1) | exact HB.out))) : w.heap.size ≤ gb111)); clear HB; have HB := n0_; have BK111 := n1_; have GW111 := n2_; have GE111 := n3_; clear n0_ n1_ n2_ n3_; clear hb hbox hg; have hcz3_0 : w2.cell? ⟨gb111, 0, none⟩ = some (.int .i64 0) := (blk_cell BK111.out 0).trans rfl; have hcz3_1 : w2.cell? ⟨gb111, 1, none⟩ = some (.int .i64 0) := (blk_cell BK111.out 1).trans rfl; have hcz3_2 : w2.cell? ⟨gb111, 2, none⟩ = some (.string (⟨#[]⟩ : ByteArray)) := (blk_cell BK111.out 2).trans rfl; have hcz3_3 : w2.cell? ⟨gb111, 3, none⟩ = some (.slice none 0 0) := (blk_cell BK111.out 3).trans rfl; have hfz3_0 := blk_frozen BK111.out 0; have hfz3_1 := blk_frozen BK111.out 1; have hfz3_2 := blk_frozen BK111.out 2; have hfz3_3 := blk_frozen BK111.out 3))
  refine bodyPost_ret (results_cell_row rfl _ _ gb111 42 #[.int .i64 1, .int .i64 a0, .string (⟨#[]⟩ : ByteArray), .slice none 0 0] (0, 0) _ rfl (by (with_reducible repeat (first | refine blk_drewN ?_ _ | refine blk_drew ?_ | refine blk_alloc ?_ _)); refine blk_put (cs := #[.int .i64 1, .int .i64 a0, .string (⟨#[]⟩ : ByteArray), .slice none 0 0]) ?_ 3 _ rfl; (with_reducible repeat (first | refine blk_drewN ?_ _ | refine blk_drew ?_ | refine blk_alloc ?_ _)); refine blk_put (cs := #[.int .i64 1, .int .i64 a0, .string (⟨#[]⟩ : ByteArray), .slice none 0 0]) ?_ 2 _ rfl; (with_reducible repeat (first | refine blk_drewN ?_ _ | refine blk_drew ?_ | refine blk_alloc ?_ _)); refine blk_put (cs := #[.int .i64 1, .int .i64 0, .string (⟨#[]⟩ : ByteArray), .slice none 0 0]) ?_ 1 _ rfl; (with_reducible repeat (first | refine blk_drewN ?_ _ | refine blk_drew ?_ | refine blk_alloc ?_ _)); refine blk_put (cs := #[.int .i64 0, .int .i64 0, .string (⟨#[]⟩ : ByteArray), .slice none 0 0]) ?_ 0 _ rfl; (with_reducible repeat (first | refine blk_drewN ?_ _ | refine blk_drew ?_ | refine blk_alloc ?_ _)); exact BK111.out) Tryd.underlying42 rfl (by kernel_rfl)) rfl ?_
  exact ⟨_, by first | rfl | (simp [errW_none, errW_some] <;> rfl) | (simp [*, errW_none, errW_some] <;> rfl), by first | exact Kd.R_nil _ _ _ _ _ | exact Kd.N_nil _ _ _ _ _ | exact Kd.V_nil _ _ _ _ _ | exact Kd.Q_nil _ _ _ _ _ | exact Kd.S_nil _ _ _ _ _, by repeat (first | (with_reducible first | exact HB.out | apply below_alloc | apply pw_below_drewN | apply below_drew1 | refine below_set ?_ GE111.out) | exact HB.out)⟩

/-! ### cell_Text: function 61 -/
def cell_Text.f (a0 : ByteArray) : Option (Int × Int × ByteArray × (List (S42))) := some (2, 0, a0, ([] : List (S42)))
set_option maxHeartbeats 8000000 in
set_option maxRecDepth 100000 in
theorem cell_Text.calls (a0 : ByteArray) (r1 : Int) (r2 : Int) (r3 : ByteArray) (r4 : List (S42)) (w : World) (h : cell_Text.f a0 = some (r1, r2, r3, r4)) :
    Calls Tryd.prog 61 #[.string a0] w fun e w' => ∃ v3_ : Value, e = .returned (.agg #[.int .i64 r1, .int .i64 r2, .string r3, v3_]) ∧ Kd.R k42 42 w' w.heap.size (fun _ => True) v3_ r4 ∧ Below w.heap.size w w' := by
  have hu42 := Tryd.underlying42
  have HB := Aside0.mk (Below.refl w.heap.size w)
  have H : (some (2, 0, a0, ([] : List (S42)))) = some (r1, r2, r3, r4) := h
  clear h
  simp only [Option.some.injEq, Prod.mk.injEq] at H
  obtain ⟨rfl, rfl, rfl, rfl⟩ := H
  go_enter Tryd.func61, Tryd.ntmps61
  go_wp2_with (first | ((with_reducible refine gate_dst (N := 2) rfl ?_); refine box_event ?hg (N := 2) ?hd (cs := #[.int .i64 0, .int .i64 0, .string (⟨#[]⟩ : ByteArray), .slice none 0 0]) (t := 42) ?hr ?_; (case hd => rfl); (case hg => rfl); (case hr => first | (go_simp; done) | (go_simp; rfl)); intro gb112 hg w2 hbox hb; have n0_ := Aside0.mk (below_step (by repeat (first | (with_reducible first | exact HB.out | apply below_alloc | apply pw_below_drewN | apply below_drew1) | exact HB.out)) hb); have n1_ := Aside0.mk (hbox); have n2_ := Aside0.mk ((by rw [hg]; exact (below_size (by repeat (first | (with_reducible first | exact HB.out | apply below_alloc | apply pw_below_drewN | apply below_drew1) | exact HB.out))) : w.heap.size ≤ gb112)); have n3_ := Aside0.mk ((by rw [hg]; exact (below_size (by repeat (first | (with_reducible first | exact HB.out | apply below_alloc | apply pw_below_drewN | apply below_drew1) | exact HB.out))) : w.heap.size ≤ gb112)); clear HB; have HB := n0_; have BK112 := n1_; have GW112 := n2_; have GE112 := n3_; clear n0_ n1_ n2_ n3_; clear hb hbox hg; have hcz3_0 : w2.cell? ⟨gb112, 0, none⟩ = some (.int .i64 0) := (blk_cell BK112.out 0).trans rfl; have hcz3_1 : w2.cell? ⟨gb112, 1, none⟩ = some (.int .i64 0) := (blk_cell BK112.out 1).trans rfl; have hcz3_2 : w2.cell? ⟨gb112, 2, none⟩ = some (.string (⟨#[]⟩ : ByteArray)) := (blk_cell BK112.out 2).trans rfl; have hcz3_3 : w2.cell? ⟨gb112, 3, none⟩ = some (.slice none 0 0) := (blk_cell BK112.out 3).trans rfl; have hfz3_0 := blk_frozen BK112.out 0; have hfz3_1 := blk_frozen BK112.out 1; have hfz3_2 := blk_frozen BK112.out 2; have hfz3_3 := blk_frozen BK112.out 3))
  refine bodyPost_ret (results_cell_row rfl _ _ gb112 42 #[.int .i64 2, .int .i64 0, .string a0, .slice none 0 0] (0, 0) _ rfl (by (with_reducible repeat (first | refine blk_drewN ?_ _ | refine blk_drew ?_ | refine blk_alloc ?_ _)); refine blk_put (cs := #[.int .i64 2, .int .i64 0, .string a0, .slice none 0 0]) ?_ 3 _ rfl; (with_reducible repeat (first | refine blk_drewN ?_ _ | refine blk_drew ?_ | refine blk_alloc ?_ _)); refine blk_put (cs := #[.int .i64 2, .int .i64 0, .string (⟨#[]⟩ : ByteArray), .slice none 0 0]) ?_ 2 _ rfl; (with_reducible repeat (first | refine blk_drewN ?_ _ | refine blk_drew ?_ | refine blk_alloc ?_ _)); refine blk_put (cs := #[.int .i64 2, .int .i64 0, .string (⟨#[]⟩ : ByteArray), .slice none 0 0]) ?_ 1 _ rfl; (with_reducible repeat (first | refine blk_drewN ?_ _ | refine blk_drew ?_ | refine blk_alloc ?_ _)); refine blk_put (cs := #[.int .i64 0, .int .i64 0, .string (⟨#[]⟩ : ByteArray), .slice none 0 0]) ?_ 0 _ rfl; (with_reducible repeat (first | refine blk_drewN ?_ _ | refine blk_drew ?_ | refine blk_alloc ?_ _)); exact BK112.out) Tryd.underlying42 rfl (by kernel_rfl)) rfl ?_
  exact ⟨_, by first | rfl | (simp [errW_none, errW_some] <;> rfl) | (simp [*, errW_none, errW_some] <;> rfl), by first | exact Kd.R_nil _ _ _ _ _ | exact Kd.N_nil _ _ _ _ _ | exact Kd.V_nil _ _ _ _ _ | exact Kd.Q_nil _ _ _ _ _ | exact Kd.S_nil _ _ _ _ _, by repeat (first | (with_reducible first | exact HB.out | apply below_alloc | apply pw_below_drewN | apply below_drew1 | refine below_set ?_ GE112.out) | exact HB.out)⟩

-- NOT PRINTED: function 78 (cell_need)

-- NOT PRINTED: function 76 (cell_reader_bytes)

-- NOT PRINTED: function 77 (cell_first)

-- NOT PRINTED: function 66 (cell_reader_cell)

-- NOT PRINTED: function 40 (cell_Next)

-- NOT PRINTED: function 21 (cell_Take)

-- NOT PRINTED: function 90 (utf8_decodeRuneInStringSlow)

-- NOT PRINTED: function 89 (utf8_DecodeRuneInString)

-- NOT PRINTED: function 88 (value_each)

-- NOT PRINTED: function 83 (value_through)

-- NOT PRINTED: function 73 (value_Runes)

-- NOT PRINTED: function 59 (value_Check)

-- NOT PRINTED: function 36 (span_Check)

-- NOT PRINTED: function 71 (object_fields)

-- NOT PRINTED: function 54 (object_row)

-- NOT PRINTED: function 32 (object_taken)

-- NOT PRINTED: function 67 (object_kid)

-- NOT PRINTED: function 41 (object_nodeOf)

-- NOT PRINTED: function 42 (object_commitOf)

-- NOT PRINTED: function 22 (object_objectOf)

-- NOT PRINTED: function 23 (object_plain)

-- NOT PRINTED: function 9 (object_Take)

-- NOT PRINTED: function 43 (digest_begin)

-- NOT PRINTED: function 24 (digest_New)

-- NOT PRINTED: function 44 (digest_Hash_is)

-- NOT PRINTED: function 68 (digest_numbers)

-- NOT PRINTED: function 79 (digest_spread)

-- NOT PRINTED: function 69 (digest_state_turn)

-- NOT PRINTED: function 45 (digest_state_blocks)

-- NOT PRINTED: function 25 (digest_Hash_Put)

/-! ### digest_end: function 46 -/
-- NOT PRINTED: function 47 (digest_state_bytes)

-- NOT PRINTED: function 26 (digest_Hash_Sum)

-- NOT PRINTED: function 12 (digest_Sum)

-- NOT PRINTED: function 10 (object_Id)

end Go.Proofs.YtgjlchcfdbmmlaaDoor.PObjectTakes
namespace Go.Proofs.YtgjlchcfdbmmlaaDoor.PObjectTakes
open Go.RowKit Go.Proofs.YtgjlchcfdbmmlaaDoor.Ord Go.Proofs.YtgjlchcfdbmmlaaDoor.Obj Go.Proofs.YtgjlchcfdbmmlaaDoorW.PrintWords Go.Proofs.YtgjlchcfdbmmlaaDoorW.PrintLast Go.Proofs.YtgjlchcfdbmmlaaDoorW.PrintMore
attribute [local irreducible] OpGives

def isS (a b : Int) : Bool := decide (0 ≤ a) && (decide (a < b) && decide (b ≤ 1099511627776))
def sameV (x y : S53) : Bool := x.f0 == y.f0 && (x.f1 == y.f1 && (x.f2.toList == y.f2.toList))
/-- May a row stand behind another? -/
def nextOk (p : Option S55) (x : S55) : Bool := match p with
  | none => true
  | some q => !(decide (x.f0 < q.f1) || (x.f0 == q.f1 && sameV x.f2 q.f2))
theorem nextOk_some (q x : S55) : nextOk (some q) x = !(decide (x.f0 < q.f1) || (x.f0 == q.f1 && sameV x.f2 q.f2)) := rfl
def rowsFrom : Option S55 → List S55 → Bool
  | _, [] => true
  | p, x :: xs => (isS x.f0 x.f1 && okV x.f2) && (nextOk p x && rowsFrom (some x) xs)
/-- Are rows right? -/
def okRows (l : List S55) : Bool := decide (l.length ≤ 64) && rowsFrom none l
def prevOf (l : List S55) (i : Nat) : Option S55 := if i = 0 then none else l[i - 1]?
theorem rowsFrom_step {l : List S55} {i : Nat} {x : S55} (h : l[i]? = some x) : rowsFrom (prevOf l i) (l.drop i) = ((isS x.f0 x.f1 && okV x.f2) && (nextOk (prevOf l i) x && rowsFrom (prevOf l (i + 1)) (l.drop (i + 1)))) := by
  obtain ⟨hi, hx⟩ := List.getElem?_eq_some_iff.1 h
  rw [List.drop_eq_getElem_cons hi, rowsFrom, hx]
  unfold prevOf
  rw [if_neg (by omega : ¬ i + 1 = 0), show i + 1 - 1 = i from rfl, h]
theorem rowsFrom_end (l : List S55) (p : Option S55) : rowsFrom p (l.drop l.length) = true := by rw [List.drop_length]; cases p <;> rfl
set_option maxRecDepth 100000 in
theorem is_calls (a b : Int) (w : World) : Calls Tryd.prog 58 #[.int .i64 a, .int .i64 b] w fun e w' => e = .returned (.bool (isS a b)) ∧ w' = w := by
  unfold isS
  by_cases h0 : 0 ≤ a
  · by_cases h1 : a < b
    · by_cases h2 : b ≤ 1099511627776
      · rw [decide_eq_true h0, decide_eq_true h1, decide_eq_true h2]
        go_enter Tryd.func58, Tryd.ntmps58
        go_wp2
        go_ret
        exact ⟨rfl, rfl⟩
      · rw [decide_eq_true h0, decide_eq_true h1, decide_eq_false h2]
        go_enter Tryd.func58, Tryd.ntmps58
        go_wp2
        go_ret
        exact ⟨rfl, rfl⟩
    · rw [decide_eq_true h0, decide_eq_false h1]
      go_enter Tryd.func58, Tryd.ntmps58
      go_wp2
      go_ret
      exact ⟨rfl, rfl⟩
  · rw [decide_eq_false h0]
    go_enter Tryd.func58, Tryd.ntmps58
    go_wp2
    go_ret
    exact ⟨rfl, rfl⟩
theorem eqV_run (d : Nat) (w : World) (x0 y0 : Int) (x1 y1 : Int) (x2 y2 : ByteArray) :
    (Op.equalIn (d + 2) 53 (.agg #[.int .i64 x0, .int .i64 x1, .string x2]) (.agg #[.int .i64 y0, .int .i64 y1, .string y2])).run Tryd.prog w = .ok (x0 == y0 && (x1 == y1 && (x2.toList == y2.toList))) w := by
  refine eqA_of Tryd.underlying53 (by kernel_rfl) ?_
  refine eqf_cons (by rfl) (by go_simp; rfl) (by go_simp; rfl) (by go_simp) ?_
  refine eqf_cons (by rfl) (by go_simp; rfl) (by go_simp; rfl) (by go_simp) ?_
  exact eqf_last (by rfl) (by go_simp; rfl) (by go_simp; rfl) (by go_simp)
theorem box5 {W : World} {g : Nat} {a b c d e : Value} (h : W.heap[g]? = some (.cells #[a, b, c, d, e] 55 (0, 0))) :
    W.cell? ⟨g, 0, none⟩ = some a ∧ W.cell? ⟨g, 1, none⟩ = some b ∧ W.cell? ⟨g, 2, none⟩ = some c ∧ W.cell? ⟨g, 3, none⟩ = some d ∧ W.cell? ⟨g, 4, none⟩ = some e := by
  refine ⟨?_, ?_, ?_, ?_, ?_⟩ <;> (rw [Lib.cell_of_heap h]; rfl)
attribute [local go_sem high] eqV_run
theorem row_at {w : World} {A : Option Addr} {l : List S55} {i : Nat} {x : S55} (h : Kd.C k55 w A l.length l) (hx : l[i]? = some x) :
    ∃ ad, A = some ad ∧ w.cell? (ad.add (i * 5)) = some (.int .i64 x.f0) ∧ w.cell? ⟨(ad.add (i * 5)).block, (ad.add (i * 5)).off + 1, none⟩ = some (.int .i64 x.f1) ∧ w.cell? ⟨(ad.add (i * 5)).block, (ad.add (i * 5)).off + 2, none⟩ = some (.int .i64 x.f2.f0) ∧ w.cell? ⟨(ad.add (i * 5)).block, (ad.add (i * 5)).off + 3, none⟩ = some (.int .i64 x.f2.f1) ∧ w.cell? ⟨(ad.add (i * 5)).block, (ad.add (i * 5)).off + 4, none⟩ = some (.string x.f2.f2) ∧ (ad.add (i * 5)).block < w.heap.size := by
  have hi : i < l.length := (List.getElem?_eq_some_iff.1 hx).1
  obtain ⟨ad, e, c0, c1, c2, c3, c4⟩ := at_T55 h (i : Int) (by omega) (by omega)
  have hrd : rd_T55 l (i : Int) = x := by unfold rd_T55; rw [Int.toNat_natCast, List.getD_eq_getElem?_getD, hx]; rfl
  rw [hrd] at c0 c1 c2 c3 c4
  rw [Int.toNat_natCast] at c0 c1 c2 c3 c4
  exact ⟨ad, e, c0, c1, c2, c3, c4, block_lt_of_cell c0⟩
set_option maxHeartbeats 8000000 in
set_option maxRecDepth 100000 in
theorem scheck_calls (l : List S55) (A : Option Addr) (c : Nat) (w : World) (hA : Kd.C k55 w A l.length l) (hc : l.length ≤ c) (hT : Lib.Utf8Tabs 0 1 w) :
    Calls Tryd.prog 36 #[.slice A l.length c] w fun e w' => e = .returned (.int .i64 (if okRows l then 0 else 2)) ∧ Below w.heap.size w w' := by
  have HA := Lib.hid hA
  have HT := Lib.hid hT
  clear hA hT
  unfold okRows
  by_cases hl : l.length ≤ 64
  · have hl' : ¬ (64 : Int) < (l.length : Int) := by omega
    rw [decide_eq_true hl, Bool.true_and]
    obtain ⟨R, hR⟩ : ∃ R, R = rowsFrom none l := ⟨_, rfl⟩
    rw [← hR]
    have hrel0 : R = rowsFrom (prevOf l 0) (l.drop 0) := hR
    obtain ⟨RV, hRV⟩ : ∃ RV : Int, RV = if R then 0 else 2 := ⟨_, rfl⟩
    rw [← hRV]
    have HRV := Lib.hid hRV
    clear hRV
    have HR := Lib.hid hrel0
    clear hR hrel0
    go_enter Tryd.func36, Tryd.ntmps36
    go_wp2_with fail
    go_loopw [11] (fun v wr => ∃ i : Nat, v = .int .i64 (i : Int) ∧ i ≤ l.length ∧ Hid (R = rowsFrom (prevOf l i) (l.drop i)) ∧ Below w.heap.size w wr) (fun v _ => l.length - (intOf v).toNat)
    case atStart => exact ⟨0, rfl, Nat.zero_le _, HR, Below.refl _ _⟩
    case round =>
      obtain ⟨i, rfl, hi, hr, hbe⟩ := hrel
      have HBE := Lib.hid hbe
      clear hbe
      by_cases hil : i < l.length
      · obtain ⟨x, hx⟩ : ∃ x, l[i]? = some x := ⟨_, List.getElem?_eq_getElem hil⟩
        obtain ⟨ad, rfl, c0, c1, c2, c3, c4, hbk⟩ := row_at (Kd.C_below HA.out HBE.out) hx
        have hst := rowsFrom_step hx
        have hr2 := hr.out
        rw [hst] at hr2
        have HR2 := Lib.hid hr2
        have HX := Lib.hid hx
        clear hst hr2 hr hx
        go_wp2_with fail
        obtain ⟨W1, hW1⟩ : ∃ W1, W1 = wr.alloc (.cells #[.int .i64 x.f0, .int .i64 x.f1, .int .i64 x.f2.f0, .int .i64 x.f2.f1, .string x.f2.f2] 55) := ⟨_, rfl⟩
        rw [← hW1]
        have hn1 : Below wr.heap.size wr W1 := by rw [hW1]; exact (Below.refl _ _).alloc (Nat.le_refl _) _
        have hg1 : W1.heap[wr.heap.size]? = some (.cells #[.int .i64 x.f0, .int .i64 x.f1, .int .i64 x.f2.f0, .int .i64 x.f2.f1, .string x.f2.f2] 55 (0, 0)) := by rw [hW1]; exact alloc_lastV _ _
        have hb1 : Below w.heap.size w W1 := HBE.out.trans (hn1.mono HBE.out.size)
        have HB1 := Lib.hid hb1
        have HG1 := Lib.hid hg1
        have hv := vcheck_calls x.f2.f0 x.f2.f1 x.f2.f2 W1 (Utf8Tabs_below HT.out hb1)
        obtain ⟨d0, d1, d2, d3, d4⟩ := box5 hg1
        have HV := Lib.hid hv
        clear hW1 hn1 hg1 hb1 hv c0 c1 c2 c3 c4 hbk
        refine (is_calls x.f0 x.f1 W1).mono ?_
        rintro e W2 ⟨rfl, rfl⟩
        cases hIs : isS x.f0 x.f1 with
        | false =>
          have hR2 := HR2.out
          rw [hIs, Bool.false_and, Bool.false_and] at hR2
          have HR3 := Lib.hid hR2
          clear hR2
          go_wp2_with fail
          go_ret
          exact ⟨by rw [HRV.out, HR3.out]; rfl, HB1.out⟩
        | true =>
          have hR2 := HR2.out
          rw [hIs, Bool.true_and] at hR2
          have HR3 := Lib.hid hR2
          clear hR2 hIs
          go_wp2_with fail
          refine HV.out.mono ?_
          rintro e W3 ⟨rfl, hb3⟩
          have hB3 : Below w.heap.size w W3 := HB1.out.trans (hb3.mono HB1.out.size)
          have hg3 := (hb3.block _ (Array.getElem?_eq_some_iff.1 HG1.out).1).trans HG1.out
          have HB3 := Lib.hid hB3
          have HG3 := Lib.hid hg3
          clear d0 d1 d2 d3 d4 hb3
          obtain ⟨d0, d1, d2, d3, d4⟩ := box5 hg3
          clear hg3 hB3
          cases hOk : okV ⟨x.f2.f0, x.f2.f1, x.f2.f2⟩ with
          | false =>
            have hR3 := HR3.out
            rw [show okV x.f2 = false from hOk, Bool.false_and] at hR3
            have HR4 := Lib.hid hR3
            clear hR3
            go_wp2_with fail
            go_ret
            exact ⟨by rw [HRV.out, HR4.out]; rfl, HB3.out⟩
          | true =>
            have hR3 := HR3.out
            rw [show okV x.f2 = true from hOk, Bool.true_and] at hR3
            have HR4 := Lib.hid hR3
            clear hR3 hOk
            rcases Nat.eq_zero_or_pos i with hi0 | hi0
            · subst hi0
              go_wp2_with fail
              go_roundw
              case rel => exact ⟨1, rfl, hil, Lib.hid HR4.out, HB3.out⟩
              case measure => simp [intOf]; omega
            · obtain ⟨k, rfl⟩ : ∃ k, i = k + 1 := ⟨i - 1, by omega⟩
              obtain ⟨q, hq⟩ : ∃ q, l[k]? = some q := ⟨_, List.getElem?_eq_getElem (by omega)⟩
              obtain ⟨ad', e', b0, b1, b2, b3, b4, hbk'⟩ := row_at (Kd.C_below HA.out HB3.out) hq
              cases e'
              have hpv : prevOf l (k + 1) = some q := by unfold prevOf; rw [if_neg (by omega), show k + 1 - 1 = k from rfl, hq]
              have hR4 := HR4.out
              rw [hpv] at hR4
              have HR5 := Lib.hid hR4
              clear hR4 hq hpv
              obtain ⟨W4, hW4⟩ : ∃ W4, W4 = W3.alloc (.cells #[.int .i64 q.f0, .int .i64 q.f1, .int .i64 q.f2.f0, .int .i64 q.f2.f1, .string q.f2.f2] 55) := ⟨_, rfl⟩
              have hn4 : Below W3.heap.size W3 W4 := by rw [hW4]; exact (Below.refl _ _).alloc (Nat.le_refl _) _
              have hg4 : W4.heap[W3.heap.size]? = some (.cells #[.int .i64 q.f0, .int .i64 q.f1, .int .i64 q.f2.f0, .int .i64 q.f2.f1, .string q.f2.f2] 55 (0, 0)) := by rw [hW4]; exact alloc_lastV _ _
              have hg5 := (hn4.block _ (Array.getElem?_eq_some_iff.1 HG3.out).1).trans HG3.out
              obtain ⟨e0, e1, e2, e3, e4⟩ := box5 hg4
              obtain ⟨f0, f1, f2, f3, f4⟩ := box5 hg5
              have HB4 := Lib.hid (HB3.out.trans (hn4.mono HB3.out.size))
              rw [hW4] at e0 e1 e2 e3 e4 f0 f1 f2 f3 f4
              have HW4 := Lib.hid hW4
              clear hW4 hn4 hg4 hg5
              by_cases hlt : x.f0 < q.f1
              · have hR5 := HR5.out
                rw [show nextOk (some q) x = false from by rw [nextOk_some, decide_eq_true hlt]; rfl] at hR5
                have HR6 := Lib.hid hR5
                clear hR5
                go_wp2_with fail
                rw [← HW4.out]
                go_ret
                exact ⟨by rw [HRV.out, HR6.out]; rfl, HB4.out⟩
              · by_cases heq : x.f0 = q.f1
                · obtain ⟨sv, hsv⟩ : ∃ sv, sv = (x.f2.f0 == q.f2.f0 && (x.f2.f1 == q.f2.f1 && (x.f2.f2.toList == q.f2.f2.toList))) := ⟨_, rfl⟩
                  have hR5 := HR5.out
                  rw [show nextOk (some q) x = !sv from by rw [nextOk_some, decide_eq_false hlt, heq, hsv]; simp [sameV]] at hR5
                  have HR6 := Lib.hid hR5
                  have heqb : (x.f0 == q.f1) = true := by simpa using heq
                  clear hR5 heq
                  cases sv with
                  | true =>
                    have hsv' := hsv.symm
                    clear hsv
                    go_wp2_with fail
                    rw [← HW4.out]
                    go_ret
                    exact ⟨by rw [HRV.out, HR6.out]; rfl, HB4.out⟩
                  | false =>
                    have hsv' := hsv.symm
                    clear hsv
                    have hR6 := HR6.out
                    rw [Bool.not_false, Bool.true_and] at hR6
                    have HR7 := Lib.hid hR6
                    clear hR6
                    go_wp2_with fail
                    rw [← HW4.out]
                    go_roundw
                    case rel => exact ⟨k + 1 + 1, by go_num, hil, Lib.hid HR7.out, HB4.out⟩
                    case measure => simp [intOf]; omega
                · have hR5 := HR5.out
                  have heqb : (x.f0 == q.f1) = false := by simpa using heq
                  rw [show nextOk (some q) x = true from by rw [nextOk_some, decide_eq_false hlt, heqb]; rfl, Bool.true_and] at hR5
                  have HR6 := Lib.hid hR5
                  clear hR5
                  go_wp2_with fail
                  rw [← HW4.out]
                  go_roundw
                  case rel => exact ⟨k + 1 + 1, by go_num, hil, Lib.hid HR6.out, HB4.out⟩
                  case measure => simp [intOf]; omega
      · have hie : i = l.length := by omega
        have hR2 := hr.out
        rw [hie, rowsFrom_end] at hR2
        have HR3 := Lib.hid hR2
        clear hR2 hr hie
        go_wp2_with fail
        go_ret
        exact ⟨by rw [HRV.out, HR3.out]; rfl, HBE.out⟩
  · have hl' : (64 : Int) < (l.length : Int) := by omega
    rw [decide_eq_false hl]
    go_enter Tryd.func36, Tryd.ntmps36
    go_wp2_with fail
    go_ret
    exact ⟨rfl, Below.refl _ _⟩
end Go.Proofs.YtgjlchcfdbmmlaaDoor.PObjectTakes
namespace Go.Proofs.YtgjlchcfdbmmlaaDoor.PObjectTakes
open Go.RowKit Go.Proofs.YtgjlchcfdbmmlaaDoor.Ord Go.Proofs.YtgjlchcfdbmmlaaDoor.Obj Go.Proofs.YtgjlchcfdbmmlaaDoorW.PrintWords Go.Proofs.YtgjlchcfdbmmlaaDoorW.PrintLast Go.Proofs.YtgjlchcfdbmmlaaDoorW.PrintMore
attribute [local irreducible] OpGives

/-- An object's parts. -/
structure Ob where
  kind : Int
  label : ByteArray
  rows : List S55
  kids : List S60
  parents : List ByteArray
  stamp : Int
  note : ByteArray
  root : ByteArray
/-- An object's cells. -/
def obV (o : Ob) (Ar : Option Addr) (cr : Nat) (Ak : Option Addr) (ck : Nat) (Ap : Option Addr) (cp : Nat) : Array Value :=
  #[.int .i64 o.kind, .string o.label, .slice Ar o.rows.length cr, .slice Ak o.kids.length ck, .slice Ap o.parents.length cp, .int .i64 o.stamp, .string o.note, .string o.root]
/-- An object's lists lie in memory. -/
structure ObAt (w : World) (o : Ob) (Ar : Option Addr) (cr : Nat) (Ak : Option Addr) (ck : Nat) (Ap : Option Addr) (cp : Nat) : Prop where
  r : Kd.C k55 w Ar o.rows.length o.rows
  lr : o.rows.length ≤ cr
  k : Kd.C k60 w Ak o.kids.length o.kids
  lk : o.kids.length ≤ ck
  p : Kd.C Kd.string w Ap o.parents.length o.parents
  lp : o.parents.length ≤ cp
theorem ObAt.below {w w' : World} {o : Ob} {Ar : Option Addr} {cr : Nat} {Ak : Option Addr} {ck : Nat} {Ap : Option Addr} {cp : Nat} (h : ObAt w o Ar cr Ak ck Ap cp) (hb : Below w.heap.size w w') : ObAt w' o Ar cr Ak ck Ap cp :=
  ⟨Kd.C_below h.r hb, h.lr, Kd.C_below h.k hb, h.lk, Kd.C_below h.p hb, h.lp⟩
def kidNext (p : Option S60) (x : S60) : Bool := match p with | none => true | some q => decide (q.f0 < x.f0)
def kidsFrom : Option S60 → List S60 → Bool
  | _, [] => true
  | p, x :: xs => decide (x.f1.size = 32) && (kidNext p x && kidsFrom (some x) xs)
def prevKid (l : List S60) (i : Nat) : Option S60 := if i = 0 then none else l[i - 1]?
theorem kidsFrom_step {l : List S60} {i : Nat} {x : S60} (h : l[i]? = some x) : kidsFrom (prevKid l i) (l.drop i) = (decide (x.f1.size = 32) && (kidNext (prevKid l i) x && kidsFrom (prevKid l (i + 1)) (l.drop (i + 1)))) := by
  obtain ⟨hi, hx⟩ := List.getElem?_eq_some_iff.1 h
  rw [List.drop_eq_getElem_cons hi, kidsFrom, hx]
  unfold prevKid
  rw [if_neg (by omega : ¬ i + 1 = 0), show i + 1 - 1 = i from rfl, h]
theorem kidsFrom_end (l : List S60) (p : Option S60) : kidsFrom p (l.drop l.length) = true := by rw [List.drop_length]; cases p <;> rfl
/-- Is a node right? -/
def okNode (o : Ob) : Bool :=
  decide (o.parents.length = 0) && (decide (o.stamp = 0) && (decide (o.note.size = 0) && (decide (o.root.size = 0) && (decide (o.label.size ≤ 24) && (okRows o.rows && kidsFrom none o.kids)))))
theorem box8 {W : World} {g : Nat} {t : TypeId} {a b c d e f h i : Value} (hg : W.heap[g]? = some (.cells #[a, b, c, d, e, f, h, i] t (0, 0))) :
    (W.cell? ⟨g, 0, none⟩ = some a ∧ W.cell? ⟨g, 1, none⟩ = some b ∧ W.cell? ⟨g, 2, none⟩ = some c ∧ W.cell? ⟨g, 3, none⟩ = some d) ∧ W.cell? ⟨g, 4, none⟩ = some e ∧ W.cell? ⟨g, 5, none⟩ = some f ∧ W.cell? ⟨g, 6, none⟩ = some h ∧ W.cell? ⟨g, 7, none⟩ = some i := by
  refine ⟨⟨?_, ?_, ?_, ?_⟩, ?_, ?_, ?_, ?_⟩ <;> (rw [Lib.cell_of_heap hg]; rfl)
theorem box4 {W : World} {g : Nat} {t : TypeId} {a b c d : Value} (hg : W.heap[g]? = some (.cells #[a, b, c, d] t (0, 0))) : (W.cell? ⟨g, 0, none⟩ = some a ∧ W.cell? ⟨g, 1, none⟩ = some b ∧ W.cell? ⟨g, 2, none⟩ = some c ∧ W.cell? ⟨g, 3, none⟩ = some d) ∧ W.frozen? ⟨g, 0, none⟩ = false ∧ W.frozen? ⟨g, 1, none⟩ = false ∧ W.frozen? ⟨g, 2, none⟩ = false ∧ W.frozen? ⟨g, 3, none⟩ = false := by
  refine ⟨⟨?_, ?_, ?_, ?_⟩, Lib.frozen_of_heap hg 0, Lib.frozen_of_heap hg 1, Lib.frozen_of_heap hg 2, Lib.frozen_of_heap hg 3⟩ <;> (rw [Lib.cell_of_heap hg]; rfl)
theorem box2 {W : World} {g : Nat} {t : TypeId} {a b : Value} (hg : W.heap[g]? = some (.cells #[a, b] t (0, 0))) : W.cell? ⟨g, 0, none⟩ = some a ∧ W.cell? ⟨g, 1, none⟩ = some b := by
  refine ⟨?_, ?_⟩ <;> (rw [Lib.cell_of_heap hg]; rfl)
theorem empty_str {s : ByteArray} (h : s.size = 0) : s = ⟨#[]⟩ := by
  rcases s with ⟨⟨l⟩⟩
  have : l.length = 0 := h
  rw [List.eq_nil_of_length_eq_zero this]
theorem full_str {s : ByteArray} (h : s.size ≠ 0) : (s.toList == ([] : List UInt8)) = false := by
  rw [beq_eq_false_iff_ne]; intro e; exact h (by rw [Lib.size_eq, ← Lib.toList_data, e]; rfl)
theorem kid_at {w : World} {A : Option Addr} {l : List S60} {i : Nat} {x : S60} (h : Kd.C k60 w A l.length l) (hx : l[i]? = some x) :
    ∃ ad, A = some ad ∧ w.cell? (ad.add (i * 2)) = some (.int .u8 x.f0) ∧ w.cell? ⟨(ad.add (i * 2)).block, (ad.add (i * 2)).off + 1, none⟩ = some (.string x.f1) ∧ (ad.add (i * 2)).block < w.heap.size := by
  have hi : i < l.length := (List.getElem?_eq_some_iff.1 hx).1
  obtain ⟨ad, e, c0, c1⟩ := at_T60 h (i : Int) (by omega) (by omega)
  have hrd : rd_T60 l (i : Int) = x := by unfold rd_T60; rw [Int.toNat_natCast, List.getD_eq_getElem?_getD, hx]; rfl
  rw [hrd] at c0 c1
  rw [Int.toNat_natCast] at c0 c1
  exact ⟨ad, e, c0, c1, block_lt_of_cell c0⟩
set_option maxHeartbeats 8000000 in
set_option maxRecDepth 100000 in
theorem nright_calls (o : Ob) (Ar : Option Addr) (cr : Nat) (Ak : Option Addr) (ck : Nat) (Ap : Option Addr) (cp : Nat) (w : World) (hO : ObAt w o Ar cr Ak ck Ap cp) (hT : Lib.Utf8Tabs 0 1 w) :
    Calls Tryd.prog 108 #[.agg (obV o Ar cr Ak ck Ap cp)] w fun e w' => e = .returned (.bool (okNode o)) ∧ Below w.heap.size w w' := by
  obtain ⟨RV, hRV⟩ : ∃ RV, RV = okNode o := ⟨_, rfl⟩
  rw [← hRV]
  obtain ⟨knd, lab, rws, kds, prs, stp, nte, rot⟩ := o
  unfold okNode at hRV
  unfold obV
  simp only at hRV hO ⊢
  have hOr := hO.r
  have hOlr := hO.lr
  have hOk := hO.k
  clear hO
  simp only at hOr hOlr hOk
  generalize prs.length = pl at hRV ⊢
  obtain ⟨W1, hW1⟩ : ∃ W1, W1 = w.alloc (.cells #[.int .i64 knd, .string lab, .slice Ar rws.length cr, .slice Ak kds.length ck, .slice Ap pl cp, .int .i64 stp, .string nte, .string rot] 86) := ⟨_, rfl⟩
  have hn1 : Below w.heap.size w W1 := by rw [hW1]; exact (Below.refl _ _).alloc (Nat.le_refl _) _
  have hg1 : W1.heap[w.heap.size]? = some (.cells #[.int .i64 knd, .string lab, .slice Ar rws.length cr, .slice Ak kds.length ck, .slice Ap pl cp, .int .i64 stp, .string nte, .string rot] 86 (0, 0)) := by rw [hW1]; exact alloc_lastV _ _
  obtain ⟨⟨b0, b1, b2, b3⟩, b4, b5, b6, b7⟩ := box8 hg1
  have hS := scheck_calls rws Ar cr W1 (Kd.C_below hOr hn1) hOlr (Utf8Tabs_below hT hn1)
  have HS := Lib.hid hS
  have HK := Lib.hid (Kd.C_below hOk hn1)
  have HN1 := Lib.hid hn1
  have HG1 := Lib.hid hg1
  have HRV := Lib.hid hRV
  rw [hW1] at b0 b1 b2 b3 b4 b5 b6 b7
  have HW1 := Lib.hid hW1
  clear hW1 hn1 hg1 hOr hOlr hOk hT hRV hS
  by_cases h1 : pl = 0
  · subst h1
    by_cases h2 : stp = 0
    · subst h2
      by_cases h3 : nte.size = 0
      · obtain rfl := empty_str h3
        by_cases h4 : rot.size = 0
        · obtain rfl := empty_str h4
          by_cases h5 : lab.size ≤ 24
          · have h5' : ¬ (24 : Int) < (lab.size : Int) := by omega
            have hRV2 := HRV.out
            rw [decide_eq_true h3, decide_eq_true h5] at hRV2
            simp only [decide_true, Bool.true_and] at hRV2
            have HRV2 := Lib.hid hRV2
            clear hRV2 HRV
            go_enter Tryd.func108, Tryd.ntmps108
            go_wp2_with fail
            rw [← HW1.out]
            clear b0 b1 b2 b3 b4 b5 b6 b7
            refine HS.out.mono ?_
            rintro e W2 ⟨rfl, hb2⟩
            have hg2 := (hb2.block _ (Array.getElem?_eq_some_iff.1 HG1.out).1).trans HG1.out
            have hB2 := HN1.out.trans (hb2.mono HN1.out.size)
            have hK2 := Kd.C_below HK.out hb2
            obtain ⟨⟨b0, b1, b2, b3⟩, b4, b5, b6, b7⟩ := box8 hg2
            have HB2 := Lib.hid hB2
            have HG2 := Lib.hid hg2
            have HK2 := Lib.hid hK2
            clear hb2 hg2 hB2 hK2
            cases hrw : okRows rws with
            | false =>
              have hRV3 := HRV2.out
              rw [hrw, Bool.false_and] at hRV3
              have HRV3 := Lib.hid hRV3
              clear hRV3 hrw
              go_wp2_with fail
              go_ret
              exact ⟨by rw [HRV3.out]; rfl, HB2.out⟩
            | true =>
              have hRV3 := HRV2.out
              rw [hrw, Bool.true_and] at hRV3
              have HRV3 := Lib.hid (show RV = kidsFrom (prevKid kds 0) (kds.drop 0) from hRV3)
              clear hRV3 hrw
              go_wp2_with fail
              clear b0 b1 b2 b3 b4 b5 b6 b7
              go_loopw [41] (fun v wr => ∃ i : Nat, v = .int .i64 (i : Int) ∧ i ≤ kds.length ∧ Hid (RV = kidsFrom (prevKid kds i) (kds.drop i)) ∧ Below W2.heap.size W2 wr) (fun v _ => kds.length - (intOf v).toNat)
              case atStart => exact ⟨0, rfl, Nat.zero_le _, HRV3, Below.refl _ _⟩
              case round =>
                obtain ⟨i, rfl, hi, hr, hbe⟩ := hrel
                have hgr := (hbe.block _ (Array.getElem?_eq_some_iff.1 HG2.out).1).trans HG2.out
                have hkr := Kd.C_below HK2.out hbe
                have HBE := Lib.hid (HB2.out.trans (hbe.mono HB2.out.size))
                have HBE2 := Lib.hid hbe
                by_cases hil : i < kds.length
                · obtain ⟨x, hx⟩ : ∃ x, kds[i]? = some x := ⟨_, List.getElem?_eq_getElem hil⟩
                  obtain ⟨ad, rfl, c0, c1, hbk⟩ := kid_at hkr hx
                  have hst := kidsFrom_step hx
                  have hr2 := hr.out
                  rw [hst] at hr2
                  have HR2 := Lib.hid hr2
                  obtain ⟨W3, hW3⟩ : ∃ W3, W3 = wr.alloc (.cells #[.int .u8 x.f0, .string x.f1] 60) := ⟨_, rfl⟩
                  have hn3 : Below wr.heap.size wr W3 := by rw [hW3]; exact (Below.refl _ _).alloc (Nat.le_refl _) _
                  have hg3 : W3.heap[wr.heap.size]? = some (.cells #[.int .u8 x.f0, .string x.f1] 60 (0, 0)) := by rw [hW3]; exact alloc_lastV _ _
                  have hgr3 := (hn3.block _ (Array.getElem?_eq_some_iff.1 hgr).1).trans hgr
                  have HB3 := Lib.hid (HBE.out.trans (hn3.mono HBE.out.size))
                  have HB32 := Lib.hid (HBE2.out.trans (hn3.mono HBE2.out.size))
                  have HK3 := Lib.hid (Kd.C_below hkr hn3)
                  obtain ⟨e0, e1⟩ := box2 hg3
                  have b3 : W3.cell? ⟨w.heap.size, 3, none⟩ = some (.slice (some ad) kds.length ck) := (box8 hgr3).1.2.2.2
                  have HW3 := Lib.hid hW3
                  clear hst hr2 hr hx hW3 hn3 hg3 hgr3 hgr hkr hbe
                  go_wp2_with fail
                  rw [← HW3.out]
                  clear c0 c1 hbk
                  by_cases h32 : x.f1.size = 32
                  · have h32' : ((x.f1.size : Int) == 32) = true := by rw [h32]; rfl
                    have hR2 := HR2.out
                    rw [decide_eq_true h32, Bool.true_and] at hR2
                    have HR3 := Lib.hid hR2
                    clear hR2
                    rcases Nat.eq_zero_or_pos i with hi0 | hi0
                    · subst hi0
                      have hR3 := HR3.out
                      rw [show kidNext (prevKid kds 0) x = true from rfl, Bool.true_and] at hR3
                      have HR4 := Lib.hid hR3
                      clear hR3
                      go_quiet (fail)
                      go_wp2_with fail
                      go_roundw
                      case rel => exact ⟨1, rfl, hil, Lib.hid HR4.out, pw_below_drewN HB32.out _⟩
                      case measure => simp [intOf]; omega
                    · obtain ⟨k, rfl⟩ : ∃ k, i = k + 1 := ⟨i - 1, by omega⟩
                      obtain ⟨q, hq⟩ : ∃ q, kds[k]? = some q := ⟨_, List.getElem?_eq_getElem (by omega)⟩
                      obtain ⟨ad', e', c0, c1, hbk'⟩ := kid_at HK3.out hq
                      cases e'
                      have hpv : prevKid kds (k + 1) = some q := by unfold prevKid; rw [if_neg (by omega), show k + 1 - 1 = k from rfl, hq]
                      have hR4 := HR3.out
                      rw [hpv, show kidNext (some q) x = decide (q.f0 < x.f0) from rfl] at hR4
                      have HR5 := Lib.hid hR4
                      clear hR4 hq hpv
                      have hgt : decide ((0 : Int) < (k : Int) + 1) = true := decide_eq_true (by omega)
                      have hlk : (k : Int) < (kds.length : Int) := by omega
                      have hmx := HK3.out.2.1
                      have hwk : IntKind.i64.wrap (k : Int) = (k : Int) := by rw [IntKind.wrap_i64]; omega
                      by_cases hlt : q.f0 < x.f0
                      · have hlt' : ¬ x.f0 ≤ q.f0 := by omega
                        have hR5 := HR5.out
                        rw [decide_eq_true hlt, Bool.true_and] at hR5
                        have HR6 := Lib.hid hR5
                        clear hR5
                        go_quiet (fail)
                        go_wp2_with fail
                        go_roundw
                        case rel => exact ⟨k + 1 + 1, by go_num, hil, Lib.hid HR6.out, pw_below_drewN HB32.out _⟩
                        case measure => simp [intOf]; omega
                      · have hlt' : x.f0 ≤ q.f0 := by omega
                        have hR5 := HR5.out
                        rw [decide_eq_false hlt, Bool.false_and] at hR5
                        have HR6 := Lib.hid hR5
                        clear hR5
                        go_quiet (fail)
                        go_wp2_with fail
                        go_ret
                        exact ⟨by rw [HR6.out]; rfl, pw_below_drewN HB3.out _⟩
                  · have h32n : ¬ (x.f1.size : Int) = 32 := by omega
                    have h32' : ((x.f1.size : Int) != 32) = true := by simpa using h32n
                    have hR2 := HR2.out
                    rw [decide_eq_false h32, Bool.false_and] at hR2
                    have HR3 := Lib.hid hR2
                    clear hR2
                    go_quiet (fail)
                    go_wp2_with fail
                    go_ret
                    exact ⟨by rw [HR3.out]; rfl, pw_below_drewN HB3.out _⟩
                · have hie : i = kds.length := by omega
                  have hR2 := hr.out
                  rw [hie, kidsFrom_end] at hR2
                  have HR3 := Lib.hid hR2
                  clear hR2 hr hie hbe hgr hkr
                  go_wp2_with fail
                  go_ret
                  exact ⟨by rw [HR3.out]; rfl, HBE.out⟩
          · have h5' : (24 : Int) < (lab.size : Int) := by omega
            go_enter Tryd.func108, Tryd.ntmps108
            go_wp2_with fail
            rw [← HW1.out]
            go_ret
            exact ⟨by rw [HRV.out, decide_eq_false h5]; simp, HN1.out⟩
        · have h4' := full_str h4
          go_enter Tryd.func108, Tryd.ntmps108
          go_wp2_with fail
          rw [← HW1.out]
          go_ret
          exact ⟨by rw [HRV.out, decide_eq_false h4]; simp, HN1.out⟩
      · have h3' := full_str h3
        go_enter Tryd.func108, Tryd.ntmps108
        go_wp2_with fail
        rw [← HW1.out]
        go_ret
        exact ⟨by rw [HRV.out, decide_eq_false h3]; simp, HN1.out⟩
    · have h2' : (stp == 0) = false := by simpa using h2
      go_enter Tryd.func108, Tryd.ntmps108
      go_wp2_with fail
      rw [← HW1.out]
      go_ret
      exact ⟨by rw [HRV.out, decide_eq_false h2]; simp, HN1.out⟩
  · have h1' : (0 : Int) < (pl : Int) := by omega
    go_enter Tryd.func108, Tryd.ntmps108
    go_wp2_with fail
    rw [← HW1.out]
    go_ret
    exact ⟨by rw [HRV.out, decide_eq_false h1]; rfl, HN1.out⟩
end Go.Proofs.YtgjlchcfdbmmlaaDoor.PObjectTakes
namespace Go.Proofs.YtgjlchcfdbmmlaaDoor.PObjectTakes
open Go.RowKit Go.Proofs.YtgjlchcfdbmmlaaDoor.Ord Go.Proofs.YtgjlchcfdbmmlaaDoor.Obj Go.Proofs.YtgjlchcfdbmmlaaDoorW.PrintWords Go.Proofs.YtgjlchcfdbmmlaaDoorW.PrintLast Go.Proofs.YtgjlchcfdbmmlaaDoorW.PrintMore
attribute [local irreducible] OpGives

theorem str_at {w : World} {A : Option Addr} {l : List ByteArray} {i : Nat} {x : ByteArray} (h : Kd.C Kd.string w A l.length l) (hx : l[i]? = some x) :
    ∃ ad, A = some ad ∧ w.cell? (ad.add i) = some (.string x) ∧ (ad.add i).block < w.heap.size := by
  have hi : i < l.length := (List.getElem?_eq_some_iff.1 hx).1
  obtain ⟨ad, c, e, _, hK, hc0⟩ := Kd.C_get h ByteArray.empty (i : Int) (by omega) (by omega)
  have hrd : l.getD (i : Int).toNat ByteArray.empty = x := by rw [Int.toNat_natCast, List.getD_eq_getElem?_getD, hx]; rfl
  rw [hrd] at hK
  have hk : c = [.string x] := hK
  subst hk
  have h0 := hc0 0 (.string x) rfl
  rw [Int.toNat_natCast] at h0
  have h1 : w.cell? (ad.add i) = some (.string x) := by
    rw [show Kd.string.sz = 1 from rfl, Nat.mul_one, Nat.add_zero] at h0
    exact h0
  exact ⟨ad, e, h1, block_lt_of_cell h1⟩
def wideB (s : ByteArray) : Bool := !(decide (s.size = 32))
set_option maxRecDepth 100000 in
theorem narrow_calls (s : ByteArray) (w : World) : Calls Tryd.prog 111 #[.string s] w fun e w' => e = .returned (.bool (wideB s)) ∧ w' = w := by
  unfold wideB
  by_cases h : s.size = 32
  · have h' : ((s.size : Int) != 32) = false := by rw [h]; rfl
    rw [decide_eq_true h]
    go_enter Tryd.func111, Tryd.ntmps111
    go_wp2
    go_ret
    exact ⟨rfl, rfl⟩
  · have h2 : ¬ (s.size : Int) = 32 := by omega
    have h' : ((s.size : Int) != 32) = true := by simpa using h2
    rw [decide_eq_false h]
    go_enter Tryd.func111, Tryd.ntmps111
    go_wp2
    go_ret
    exact ⟨rfl, rfl⟩
/-- Where the first string that is not wide stands; -1: none. -/
def narrowAt (l : List ByteArray) (i : Nat) : Nat → Int
  | 0 => -1
  | f + 1 => match l[i]? with | none => -1 | some s => if wideB s then (i : Int) else narrowAt l (i + 1) f
theorem narrow_ge (l : List ByteArray) : ∀ (f i : Nat), l.length = i + f → (0 ≤ narrowAt l i f ↔ (l.drop i).any wideB = true)
  | 0, i, h => by
    rw [List.drop_of_length_le (by omega)]; simp [narrowAt]
  | f + 1, i, h => by
    have hi : i < l.length := by omega
    rw [narrowAt, List.getElem?_eq_getElem hi, List.drop_eq_getElem_cons hi, List.any_cons]
    by_cases hw : wideB l[i] = true
    · simp [hw]
    · have := narrow_ge l f (i + 1) (by omega)
      simp [hw, this]
set_option maxHeartbeats 4000000 in
set_option maxRecDepth 100000 in
theorem index_calls (l : List ByteArray) (A : Option Addr) (c : Nat) (w : World) (hA : Kd.C Kd.string w A l.length l) :
    Calls Tryd.prog 113 #[.slice A l.length c, .func (.func 111) #[] #[]] w fun e w' => e = .returned (.int .i64 (narrowAt l 0 l.length)) ∧ w' = w := by
  obtain ⟨RV, hRV⟩ : ∃ RV, RV = narrowAt l 0 l.length := ⟨_, rfl⟩
  rw [← hRV]
  have HRV := Lib.hid hRV
  have HA := Lib.hid hA
  have hmx := hA.2.1
  clear hA hRV
  go_enter Tryd.func113, Tryd.ntmps113
  go_wp2_with fail
  go_loopw [8] (fun v wr => ∃ i : Nat, v = .int .i64 (i : Int) ∧ i ≤ l.length ∧ Hid (RV = narrowAt l i (l.length - i)) ∧ wr = w) (fun v _ => l.length - (intOf v).toNat)
  case atStart => exact ⟨0, rfl, Nat.zero_le _, HRV, rfl⟩
  case round =>
    obtain ⟨i, rfl, hi, hr, rfl⟩ := hrel
    by_cases hil : i < l.length
    · obtain ⟨x, hx⟩ : ∃ x, l[i]? = some x := ⟨_, List.getElem?_eq_getElem hil⟩
      obtain ⟨ad, rfl, c0, hbk⟩ := str_at HA.out hx
      have hr2 := hr.out
      rw [show l.length - i = (l.length - (i + 1)) + 1 by omega, narrowAt, hx] at hr2
      simp only at hr2
      have HR2 := Lib.hid hr2
      clear hr2 hr hx
      cases hw : wideB x with
      | true =>
        have hR2 := HR2.out
        rw [hw, if_pos rfl] at hR2
        have HR3 := Lib.hid hR2
        have HN := Lib.hid (narrow_calls x wr)
        rw [hw] at HN
        clear hR2 hw HR2
        go_wp2_with fail
        refine HN.out.mono ?_
        rintro e _ ⟨rfl, rfl⟩
        go_wp2_with fail
        go_ret
        exact ⟨by rw [HR3.out]; rfl, rfl⟩
      | false =>
        have hR2 := HR2.out
        rw [hw, if_neg (by decide)] at hR2
        have HR3 := Lib.hid hR2
        have HN := Lib.hid (narrow_calls x wr)
        rw [hw] at HN
        clear hR2 hw HR2
        go_wp2_with fail
        refine HN.out.mono ?_
        rintro e _ ⟨rfl, rfl⟩
        go_wp2_with fail
        go_roundw
        case rel => exact ⟨i + 1, by go_num, hil, HR3, trivial⟩
        case measure => simp [intOf]; omega
    · have hie : l.length - i = 0 := by omega
      have hR2 := hr.out
      rw [hie] at hR2
      have HR3 := Lib.hid hR2
      clear hR2 hr hie
      go_wp2_with fail
      go_ret
      exact ⟨by rw [HR3.out]; rfl, rfl⟩
set_option maxHeartbeats 4000000 in
set_option maxRecDepth 100000 in
theorem contains_calls (l : List ByteArray) (A : Option Addr) (c : Nat) (w : World) (hA : Kd.C Kd.string w A l.length l) :
    Calls Tryd.prog 112 #[.slice A l.length c, .func (.func 111) #[] #[]] w fun e w' => e = .returned (.bool (l.any wideB)) ∧ w' = w := by
  have hge := narrow_ge l l.length 0 (by omega)
  rw [List.drop_zero] at hge
  have HI := Lib.hid (index_calls l A c w hA)
  generalize narrowAt l 0 l.length = n at hge HI
  have hv : decide (0 ≤ n) = l.any wideB := by rw [Bool.eq_iff_iff]; simpa using hge
  rw [← hv]
  clear hge hv
  go_enter Tryd.func112, Tryd.ntmps112
  go_wp2_with fail
  refine HI.out.mono ?_
  rintro e _ ⟨rfl, rfl⟩
  go_wp2_with fail
  go_ret
  exact ⟨rfl, rfl⟩
/-- Is a commit right? -/
def okCommit (o : Ob) : Bool :=
  decide (o.rows.length = 0) && (decide (o.kids.length = 0) && (decide (o.label.size = 0) && (decide (0 ≤ o.stamp) && (decide (o.stamp ≤ 1099511627776) && (decide (o.note.size ≤ 40) && (decide (o.root.size = 32) &&
    (decide (o.parents.length ≤ 2) && (!(o.parents.any wideB) && (decide (o.parents.length < 2) || !((o.parents.getD 0 ByteArray.empty).toList == (o.parents.getD 1 ByteArray.empty).toList))))))))))
set_option maxHeartbeats 16000000 in
set_option maxRecDepth 100000 in
theorem cright_calls (o : Ob) (Ar : Option Addr) (cr : Nat) (Ak : Option Addr) (ck : Nat) (Ap : Option Addr) (cp : Nat) (w : World) (hO : ObAt w o Ar cr Ak ck Ap cp) :
    Calls Tryd.prog 110 #[.agg (obV o Ar cr Ak ck Ap cp)] w fun e w' => e = .returned (.bool (okCommit o)) ∧ Below w.heap.size w w' := by
  obtain ⟨RV, hRV⟩ : ∃ RV, RV = okCommit o := ⟨_, rfl⟩
  rw [← hRV]
  obtain ⟨knd, lab, rws, kds, prs, stp, nte, rot⟩ := o
  unfold okCommit at hRV
  unfold obV
  simp only at hRV hO ⊢
  have hOp := hO.p
  clear hO
  simp only at hOp
  generalize rws.length = rl at hRV ⊢
  generalize kds.length = kl at hRV ⊢
  obtain ⟨W1, hW1⟩ : ∃ W1, W1 = w.alloc (.cells #[.int .i64 knd, .string lab, .slice Ar rl cr, .slice Ak kl ck, .slice Ap prs.length cp, .int .i64 stp, .string nte, .string rot] 87) := ⟨_, rfl⟩
  have hn1 : Below w.heap.size w W1 := by rw [hW1]; exact (Below.refl _ _).alloc (Nat.le_refl _) _
  have hg1 : W1.heap[w.heap.size]? = some (.cells #[.int .i64 knd, .string lab, .slice Ar rl cr, .slice Ak kl ck, .slice Ap prs.length cp, .int .i64 stp, .string nte, .string rot] 87 (0, 0)) := by rw [hW1]; exact alloc_lastV _ _
  obtain ⟨⟨b0, b1, b2, b3⟩, b4, b5, b6, b7⟩ := box8 hg1
  have HC := Lib.hid (contains_calls prs Ap cp W1 (Kd.C_below hOp hn1))
  have HP := Lib.hid (Kd.C_below hOp hn1)
  have HN1 := Lib.hid hn1
  have HG1 := Lib.hid hg1
  have HRV := Lib.hid hRV
  rw [hW1] at b0 b1 b2 b3 b4 b5 b6 b7
  have HW1 := Lib.hid hW1
  clear hW1 hn1 hg1 hOp hRV
  by_cases h1 : rl = 0
  · subst h1
    by_cases h2 : kl = 0
    · subst h2
      by_cases h3 : lab.size = 0
      · obtain rfl := empty_str h3
        by_cases h4 : 0 ≤ stp
        · have h4' : ¬ stp < 0 := by omega
          by_cases h5 : stp ≤ 1099511627776
          · have h5' : ¬ (1099511627776 : Int) < stp := by omega
            by_cases h6 : nte.size ≤ 40
            · have h6' : ¬ (40 : Int) < (nte.size : Int) := by omega
              by_cases h7 : rot.size = 32
              · have h7' : ((rot.size : Int) != 32) = false := by rw [h7]; rfl
                have H7 := Lib.hid h7
                clear h7
                by_cases h8 : prs.length ≤ 2
                · have h8' : ¬ (2 : Int) < (prs.length : Int) := by omega
                  have hRV2 := HRV.out
                  rw [decide_eq_true h4, decide_eq_true h5, decide_eq_true h6, decide_eq_true H7.out, decide_eq_true h8] at hRV2
                  simp only [decide_true, Bool.true_and, show decide ((ByteArray.mk #[]).size = 0) = true from rfl] at hRV2
                  have HRV2 := Lib.hid hRV2
                  clear hRV2 HRV
                  go_enter Tryd.func110, Tryd.ntmps110
                  go_wp2_with fail
                  rw [← HW1.out]
                  clear b0 b1 b2 b3 b5 b6 b7
                  refine HC.out.mono ?_
                  rintro e _ ⟨rfl, rfl⟩
                  obtain ⟨⟨b0, b1, b2, b3⟩, b4, b5, b6, b7⟩ := box8 HG1.out
                  cases han : prs.any wideB with
                  | true =>
                    have hRV3 := HRV2.out
                    rw [han, Bool.not_true, Bool.false_and] at hRV3
                    have HRV3 := Lib.hid hRV3
                    clear hRV3 han
                    go_wp2_with fail
                    go_ret
                    exact ⟨by rw [HRV3.out]; rfl, HN1.out⟩
                  | false =>
                    have hRV3 := HRV2.out
                    rw [han, Bool.not_false, Bool.true_and] at hRV3
                    have HRV3 := Lib.hid hRV3
                    clear hRV3 han
                    go_wp2_with fail
                    by_cases hl2 : prs.length < 2
                    · have hl2' : (prs.length : Int) < 2 := by omega
                      have hRV4 := HRV3.out
                      rw [decide_eq_true hl2, Bool.true_or] at hRV4
                      have HRV4 := Lib.hid hRV4
                      clear hRV4
                      go_quiet (fail)
                      go_wp2_with fail
                      go_ret
                      exact ⟨by rw [HRV4.out]; rfl, pw_below_drewN HN1.out _⟩
                    · have hl2' : ¬ (prs.length : Int) < 2 := by omega
                      have hRV4 := HRV3.out
                      obtain ⟨x, hx⟩ : ∃ x, prs[0]? = some x := ⟨_, List.getElem?_eq_getElem (by omega)⟩
                      obtain ⟨y, hy⟩ : ∃ y, prs[1]? = some y := ⟨_, List.getElem?_eq_getElem (by omega)⟩
                      obtain ⟨ad, rfl, c0, hb0⟩ := str_at HP.out hx
                      obtain ⟨ad', e', c1, hb1⟩ := str_at HP.out hy
                      cases e'
                      rw [decide_eq_false hl2, Bool.false_or, List.getD_eq_getElem?_getD, List.getD_eq_getElem?_getD, hx, hy] at hRV4
                      simp only [Option.getD_some] at hRV4
                      have HRV4 := Lib.hid hRV4
                      have hg0 : 0 < prs.length := by omega
                      have hg1 : 1 < prs.length := by omega
                      have hg1' : (1 : Int) < (prs.length : Int) := by omega
                      rw [show ad.add 0 = ad from by simp [Addr.add]] at c0
                      have ea : (⟨ad.block, ad.off + 1, none⟩ : Addr) = ad.add 1 := by
                        have := add_field ad 0 1 (by omega)
                        rw [show ad.add 0 = ad from by simp [Addr.add]] at this
                        exact this
                      rw [← ea] at c1
                      clear hRV4 hx hy hb0 hb1 ea
                      go_quiet (fail)
                      cases hxy : (x.toList == y.toList) with
                      | true =>
                        have hRV5 := HRV4.out
                        rw [hxy, Bool.not_true] at hRV5
                        have HRV5 := Lib.hid hRV5
                        clear hRV5
                        go_wp2_with fail
                        go_ret
                        exact ⟨by rw [HRV5.out]; rfl, pw_below_drewN HN1.out _⟩
                      | false =>
                        have hRV5 := HRV4.out
                        rw [hxy, Bool.not_false] at hRV5
                        have HRV5 := Lib.hid hRV5
                        clear hRV5
                        go_wp2_with fail
                        go_ret
                        exact ⟨by rw [HRV5.out]; rfl, pw_below_drewN HN1.out _⟩
                · have h8' : (2 : Int) < (prs.length : Int) := by omega
                  go_enter Tryd.func110, Tryd.ntmps110
                  go_wp2_with fail
                  rw [← HW1.out]
                  go_ret
                  exact ⟨by rw [HRV.out, decide_eq_false h8]; simp, HN1.out⟩
              · have h7n : ¬ (rot.size : Int) = 32 := by omega
                have h7' : ((rot.size : Int) != 32) = true := by simpa using h7n
                have H7 := Lib.hid h7
                clear h7
                go_enter Tryd.func110, Tryd.ntmps110
                go_wp2_with fail
                rw [← HW1.out]
                go_ret
                exact ⟨by rw [HRV.out, decide_eq_false H7.out]; simp, HN1.out⟩
            · have h6' : (40 : Int) < (nte.size : Int) := by omega
              go_enter Tryd.func110, Tryd.ntmps110
              go_wp2_with fail
              rw [← HW1.out]
              go_ret
              exact ⟨by rw [HRV.out, decide_eq_false h6]; simp, HN1.out⟩
          · have h5' : (1099511627776 : Int) < stp := by omega
            go_enter Tryd.func110, Tryd.ntmps110
            go_wp2_with fail
            rw [← HW1.out]
            go_ret
            exact ⟨by rw [HRV.out, decide_eq_false (show ¬ stp ≤ 1099511627776 by omega)]; simp, HN1.out⟩
        · have h4' : stp < 0 := by omega
          go_enter Tryd.func110, Tryd.ntmps110
          go_wp2_with fail
          rw [← HW1.out]
          go_ret
          exact ⟨by rw [HRV.out, decide_eq_false (show ¬ 0 ≤ stp by omega)]; simp, HN1.out⟩
      · have h3' := full_str h3
        go_enter Tryd.func110, Tryd.ntmps110
        go_wp2_with fail
        rw [← HW1.out]
        go_ret
        exact ⟨by rw [HRV.out, decide_eq_false h3]; simp, HN1.out⟩
    · have h2' : (0 : Int) < (kl : Int) := by omega
      go_enter Tryd.func110, Tryd.ntmps110
      go_wp2_with fail
      rw [← HW1.out]
      go_ret
      exact ⟨by rw [HRV.out, decide_eq_false h2]; simp, HN1.out⟩
  · have h1' : (0 : Int) < (rl : Int) := by omega
    go_enter Tryd.func110, Tryd.ntmps110
    go_wp2_with fail
    rw [← HW1.out]
    go_ret
    exact ⟨by rw [HRV.out, decide_eq_false h1]; simp, HN1.out⟩
end Go.Proofs.YtgjlchcfdbmmlaaDoor.PObjectTakes
-- cut from a text PRINTED BY print.sh
namespace Go.Proofs.YtgjlchcfdbmmlaaDoor.PObjectTakes
open Go.RowKit Go.Proofs.YtgjlchcfdbmmlaaDoorW.PrintWords Go.Proofs.YtgjlchcfdbmmlaaDoorW.PrintLast Go.Proofs.YtgjlchcfdbmmlaaDoorW.PrintMore
attribute [local go_sem] max2_int min2_int max_two min_two max_three min_three max_four min_four   -- for this text's walks alone

/-! ### fastiref01_Width: function 82 -/
mutual
def fastiref01_Width.j0 : Nat → ByteArray → Int → Bool → Option (Int)
  | 0, _, _, _ => none
  | k + 1, x0, x1, x17 => if x17 = true then (some 0) else (if 0 ≤ x1 then (if x1 < (x0.size : Int) then (if (wrap64 (bt x0 x1)) < 128 then (some 1) else (if (wrap64 (bt x0 x1)) ≥ 192 then (fastiref01_Width.j1 k x0 x1 (wrap64 (bt x0 x1)) (decide ((wrap64 (bt x0 x1)) < 224))) else (fastiref01_Width.j1 k x0 x1 (wrap64 (bt x0 x1)) false))) else (none)) else (none))
def fastiref01_Width.j3 : Nat → ByteArray → Int → Int → Int → Int → Option (Int)
  | 0, _, _, _, _, _ => none
  | k + 1, x0, x1, x6, x7, x8 => fastiref01_Width.l0 k x0 x1 x6 x7 x8 1
def fastiref01_Width.l0 : Nat → ByteArray → Int → Int → Int → Int → Int → Option (Int)
  | 0, _, _, _, _, _, _ => none
  | k + 1, x0, x1, x6, x7, x8, x9 => if x9 < x6 then (if (wrap64 (x1 + x9)) ≥ (x0.size : Int) then (some 0) else (if 0 ≤ (wrap64 (x1 + x9)) then (if (wrap64 (x1 + x9)) < (x0.size : Int) then (if (wrap64 (Int.tdiv (wrap64 (bt x0 (wrap64 (x1 + x9)))) 64)) = 2 then (fastiref01_Width.l0 k x0 x1 x6 (wrap64 ((wrap64 (64 * x7)) + (Int.tmod (wrap64 (bt x0 (wrap64 (x1 + x9)))) 64))) x8 (wrap64 (x9 + 1))) else (some 0)) else (none)) else (none))) else (if x7 < x8 then (some 0) else (if x7 ≥ 55296 then (if x7 < 57344 then (some 0) else (if x7 > 1114111 then (some 0) else (some x6))) else (if x7 > 1114111 then (some 0) else (some x6))))
def fastiref01_Width.j1 : Nat → ByteArray → Int → Int → Bool → Option (Int)
  | 0, _, _, _, _ => none
  | k + 1, x0, x1, x5, x26 => if x26 = true then (fastiref01_Width.j3 k x0 x1 2 (wrap64 (x5 - 192)) 128) else (if x5 ≥ 224 then (fastiref01_Width.j2 k x0 x1 x5 (decide (x5 < 240))) else (fastiref01_Width.j2 k x0 x1 x5 false))
def fastiref01_Width.j2 : Nat → ByteArray → Int → Int → Bool → Option (Int)
  | 0, _, _, _, _ => none
  | k + 1, x0, x1, x5, x35 => if x35 = true then (fastiref01_Width.j3 k x0 x1 3 (wrap64 (x5 - 224)) 2048) else (if x5 ≥ 240 then (if x5 < 248 then (fastiref01_Width.j3 k x0 x1 4 (wrap64 (x5 - 240)) 65536) else (some 0)) else (some 0))
end
def fastiref01_Width.f (k : Nat) (a0 : ByteArray) (a1 : Int) : Option (Int) := if a1 < 0 then (fastiref01_Width.j0 k a0 a1 true) else (fastiref01_Width.j0 k a0 a1 (decide (a1 ≥ (a0.size : Int))))
set_option maxHeartbeats 8000000 in
set_option maxRecDepth 100000 in
theorem fastiref01_Width.calls (k : Nat) (a0 : ByteArray) (a1 : Int) (r : Int) (w : World) (h : fastiref01_Width.f k a0 a1 = some r) :
    Calls Tryd.prog 82 #[.string a0, .int .i64 a1] w fun e w' => e = .returned (.int .i64 r) ∧ Drawn0 w w' := by
  have H : (if a1 < 0 then (fastiref01_Width.j0 k a0 a1 true) else (fastiref01_Width.j0 k a0 a1 (decide (a1 ≥ (a0.size : Int))))) = some r := h
  clear h
  have HC3 := Aside0.mk H
  clear H
  go_enter Tryd.func82, Tryd.ntmps82
  go_upto_region 1 with (fail)
  go_cut [17] (fun v17 wc => ∃ (kq : Nat) (x17_2 : Bool), v17 = .bool x17_2 ∧ Aside0 (fastiref01_Width.j0 kq a0 a1 x17_2 = some r) ∧ Aside0 (kq ≤ k) ∧ Drawn0 w wc)
  case first =>
    have H := HC3.out
    clear HC3
    by_cases c4 : a1 < 0
    · rw [if_pos c4] at H
      have c4b0 : decide (a1 < 0) = true := decide_eq_true c4
      clear c4
      (first | rw [c4b0] | (simp only [i64_w, i32_w]; rw [c4b0]) | skip)
      have H' := Aside0.mk H
      clear H
      go_wp2
      go_meet
      case rel => exact ⟨_, (true), (by first | rfl | (simp; done) | (simp [*]; done)), H', ⟨by first | omega | exact Nat.le_refl _⟩, by repeat (first | exact Drawn0.refl _ | apply Drawn0.step)⟩
    · rw [if_neg c4] at H
      have c4b0 : decide (a1 < 0) = false := decide_eq_false c4
      clear c4
      (first | rw [c4b0] | (simp only [i64_w, i32_w]; rw [c4b0]) | skip)
      have H' := Aside0.mk H
      clear H
      go_wp2
      go_meet
      case rel => exact ⟨_, (decide (a1 ≥ (a0.size : Int))), (by first | rfl | (simp; done) | (simp [*]; done)), H', ⟨by first | omega | exact Nat.le_refl _⟩, by repeat (first | exact Drawn0.refl _ | apply Drawn0.step)⟩
  case rest =>
    clear HC3
    try clear p2
    try clear c4
    try clear c4b0
    obtain ⟨kq, x17_2, rfl, HA, HJ2, ⟨mc2, rfl⟩⟩ := hcut
    cases kq with
    | zero => exact absurd HA.out (by simp [fastiref01_Width.j0])
    | succ kj2 =>
      have H := HA.out
      clear HA
      simp only [fastiref01_Width.j0] at H
      by_cases c5 : x17_2 = true
      · subst c5
        have H1 : (some 0) = some r := by rw [if_pos rfl] at H; exact H
        clear H
        have H := H1
        clear H1
        obtain rfl := Option.some.inj H
        go_wp2
        go_ret
        exact ⟨by first | rfl | (simp; done) | (simp [*]; done), by repeat (first | exact Drawn0.refl _ | apply Drawn0.step)⟩
      · replace c5 := Bool.eq_false_iff.mpr c5
        subst c5
        have H1 : (if 0 ≤ a1 then (if a1 < (a0.size : Int) then (if (wrap64 (bt a0 a1)) < 128 then (some 1) else (if (wrap64 (bt a0 a1)) ≥ 192 then (fastiref01_Width.j1 kj2 a0 a1 (wrap64 (bt a0 a1)) (decide ((wrap64 (bt a0 a1)) < 224))) else (fastiref01_Width.j1 kj2 a0 a1 (wrap64 (bt a0 a1)) false))) else (none)) else (none)) = some r := by rw [if_neg (show ¬ (false = true) by decide)] at H; exact H
        clear H
        have H := H1
        clear H1
        by_cases c6 : 0 ≤ a1
        · rw [if_pos c6] at H
          have c6b0 : decide (0 ≤ a1) = true := decide_eq_true c6
          clear c6
          by_cases c7 : a1 < (a0.size : Int)
          · rw [if_pos c7] at H
            have c7b0 : decide (a1 < (a0.size : Int)) = true := decide_eq_true c7
            clear c7
            have HC9 := Aside0.mk H
            clear H
            have p8 : 0 ≤ (a1 : Int) := of_decide_eq_true (by first | (with_reducible assumption) | assumption)
            have q8 : a1 < (a0.size : Int) := of_decide_eq_true (by first | (with_reducible assumption) | assumption)
            have hx8 := bt_at a0 a1
            replace p8 := eq_true p8
            replace q8 := eq_true q8
            go_upto_block 0 with (fail)
            go_cut [6, 7, 8] (fun v6 v7 v8 wc => ∃ (kq : Nat) (x6_8 : Int) (x7_8 : Int) (x8_8 : Int), v6 = .int .i64 x6_8 ∧ v7 = .int .i64 x7_8 ∧ v8 = .int .i64 x8_8 ∧ Aside0 (fastiref01_Width.j3 kq a0 a1 x6_8 x7_8 x8_8 = some r) ∧ Aside0 (kq ≤ kj2) ∧ Drawn0 w wc)
            case first =>
              have H := HC9.out
              clear HC9
              by_cases c10 : (wrap64 (bt a0 a1)) < 128
              · rw [if_pos c10] at H
                have c10b0 : decide ((wrap64 (bt a0 a1)) < 128) = true := decide_eq_true c10
                clear c10
                (first | rw [c10b0] | (simp only [i64_w, i32_w]; rw [c10b0]) | skip)
                obtain rfl := Option.some.inj H
                go_wp2
                go_ret
                exact ⟨by first | rfl | (simp; done) | (simp [*]; done), by repeat (first | exact Drawn0.refl _ | apply Drawn0.step)⟩
              · rw [if_neg c10] at H
                have c10b0 : decide ((wrap64 (bt a0 a1)) < 128) = false := decide_eq_false c10
                clear c10
                (first | rw [c10b0] | (simp only [i64_w, i32_w]; rw [c10b0]) | skip)
                have HC11 := Aside0.mk H
                clear H
                go_upto_region 8 with (fail)
                go_cut [26] (fun v26 wc => ∃ (kq : Nat) (x26_10 : Bool), v26 = .bool x26_10 ∧ Aside0 (fastiref01_Width.j1 kq a0 a1 (wrap64 (bt a0 a1)) x26_10 = some r) ∧ Aside0 (kq ≤ kj2) ∧ Drawn0 w wc)
                case first =>
                  have H := HC11.out
                  clear HC11
                  by_cases c12 : (wrap64 (bt a0 a1)) ≥ 192
                  · rw [if_pos c12] at H
                    have c12b0 : decide (192 ≤ (wrap64 (bt a0 a1))) = true := decide_eq_true c12
                    clear c12
                    (first | rw [c12b0] | (simp only [i64_w, i32_w]; rw [c12b0]) | skip)
                    have H' := Aside0.mk H
                    clear H
                    go_wp2
                    go_meet
                    case rel => exact ⟨_, (decide ((wrap64 (bt a0 a1)) < 224)), (by first | rfl | (simp; done) | (simp [*]; done)), H', ⟨by have := HJ2.out; first | omega | exact Nat.le_refl _⟩, by repeat (first | exact Drawn0.refl _ | apply Drawn0.step)⟩
                  · rw [if_neg c12] at H
                    have c12b0 : decide (192 ≤ (wrap64 (bt a0 a1))) = false := decide_eq_false c12
                    clear c12
                    (first | rw [c12b0] | (simp only [i64_w, i32_w]; rw [c12b0]) | skip)
                    have H' := Aside0.mk H
                    clear H
                    go_wp2
                    go_meet
                    case rel => exact ⟨_, (false), (by first | rfl | (simp; done) | (simp [*]; done)), H', ⟨by have := HJ2.out; first | omega | exact Nat.le_refl _⟩, by repeat (first | exact Drawn0.refl _ | apply Drawn0.step)⟩
                case rest =>
                  clear HC11
                  try clear c1
                  try clear c2
                  try clear p2
                  try clear c4
                  try clear c4b0
                  try clear c5
                  try clear c6
                  try clear c6b0
                  try clear p6
                  try clear c7
                  try clear c7b0
                  try clear c8
                  try clear p8
                  try clear q8
                  try clear hx8
                  try clear c10
                  try clear c10b0
                  try clear c12
                  try clear c12b0
                  try clear p2
                  try clear p8
                  try clear q8
                  obtain ⟨kq, x26_10, rfl, HA, HJ10, ⟨mc10, rfl⟩⟩ := hcut
                  cases kq with
                  | zero => exact absurd HA.out (by simp [fastiref01_Width.j1])
                  | succ kj10 =>
                    have H := HA.out
                    clear HA
                    simp only [fastiref01_Width.j1] at H
                    by_cases c13 : x26_10 = true
                    · subst c13
                      have H1 : (fastiref01_Width.j3 kj10 a0 a1 2 (wrap64 ((wrap64 (bt a0 a1)) - 192)) 128) = some r := by rw [if_pos rfl] at H; exact H
                      clear H
                      have H := H1
                      clear H1
                      have H' := Aside0.mk H
                      clear H
                      go_wp2
                      go_meet
                      case rel => exact ⟨_, (2), (wrap64 ((wrap64 (bt a0 a1)) - 192)), (128), (by first | rfl | (simp; done) | (simp [*]; done)), (by first | rfl | (simp; done) | (simp [*]; done)), (by first | rfl | (simp; done) | (simp [*]; done)), H', ⟨by have := HJ2.out; have := HJ10.out; first | omega | exact Nat.le_refl _⟩, by repeat (first | exact Drawn0.refl _ | apply Drawn0.step)⟩
                    · replace c13 := Bool.eq_false_iff.mpr c13
                      subst c13
                      have H1 : (if (wrap64 (bt a0 a1)) ≥ 224 then (fastiref01_Width.j2 kj10 a0 a1 (wrap64 (bt a0 a1)) (decide ((wrap64 (bt a0 a1)) < 240))) else (fastiref01_Width.j2 kj10 a0 a1 (wrap64 (bt a0 a1)) false)) = some r := by rw [if_neg (show ¬ (false = true) by decide)] at H; exact H
                      clear H
                      have H := H1
                      clear H1
                      have HC14 := Aside0.mk H
                      clear H
                      go_upto_region 10 with (fail)
                      go_cut [35] (fun v35 wc => ∃ (kq : Nat) (x35_13 : Bool), v35 = .bool x35_13 ∧ Aside0 (fastiref01_Width.j2 kq a0 a1 (wrap64 (bt a0 a1)) x35_13 = some r) ∧ Aside0 (kq ≤ kj10) ∧ Drawn0 w wc)
                      case first =>
                        have H := HC14.out
                        clear HC14
                        by_cases c15 : (wrap64 (bt a0 a1)) ≥ 224
                        · rw [if_pos c15] at H
                          have c15b0 : decide (224 ≤ (wrap64 (bt a0 a1))) = true := decide_eq_true c15
                          clear c15
                          (first | rw [c15b0] | (simp only [i64_w, i32_w]; rw [c15b0]) | skip)
                          have H' := Aside0.mk H
                          clear H
                          go_wp2
                          go_meet
                          case rel => exact ⟨_, (decide ((wrap64 (bt a0 a1)) < 240)), (by first | rfl | (simp; done) | (simp [*]; done)), H', ⟨by have := HJ2.out; have := HJ10.out; first | omega | exact Nat.le_refl _⟩, by repeat (first | exact Drawn0.refl _ | apply Drawn0.step)⟩
                        · rw [if_neg c15] at H
                          have c15b0 : decide (224 ≤ (wrap64 (bt a0 a1))) = false := decide_eq_false c15
                          clear c15
                          (first | rw [c15b0] | (simp only [i64_w, i32_w]; rw [c15b0]) | skip)
                          have H' := Aside0.mk H
                          clear H
                          go_wp2
                          go_meet
                          case rel => exact ⟨_, (false), (by first | rfl | (simp; done) | (simp [*]; done)), H', ⟨by have := HJ2.out; have := HJ10.out; first | omega | exact Nat.le_refl _⟩, by repeat (first | exact Drawn0.refl _ | apply Drawn0.step)⟩
                      case rest =>
                        clear HC14
                        try clear c1
                        try clear c2
                        try clear p2
                        try clear c4
                        try clear c4b0
                        try clear c5
                        try clear c6
                        try clear c6b0
                        try clear p6
                        try clear c7
                        try clear c7b0
                        try clear c8
                        try clear p8
                        try clear q8
                        try clear hx8
                        try clear c10
                        try clear c10b0
                        try clear c12
                        try clear c12b0
                        try clear c13
                        try clear c15
                        try clear c15b0
                        try clear p2
                        try clear p6
                        try clear p8
                        try clear q8
                        obtain ⟨kq, x35_13, rfl, HA, HJ13, ⟨mc13, rfl⟩⟩ := hcut
                        cases kq with
                        | zero => exact absurd HA.out (by simp [fastiref01_Width.j2])
                        | succ kj13 =>
                          have H := HA.out
                          clear HA
                          simp only [fastiref01_Width.j2] at H
                          by_cases c16 : x35_13 = true
                          · subst c16
                            have H1 : (fastiref01_Width.j3 kj13 a0 a1 3 (wrap64 ((wrap64 (bt a0 a1)) - 224)) 2048) = some r := by rw [if_pos rfl] at H; exact H
                            clear H
                            have H := H1
                            clear H1
                            have H' := Aside0.mk H
                            clear H
                            go_wp2
                            go_meet
                            case rel => exact ⟨_, (3), (wrap64 ((wrap64 (bt a0 a1)) - 224)), (2048), (by first | rfl | (simp; done) | (simp [*]; done)), (by first | rfl | (simp; done) | (simp [*]; done)), (by first | rfl | (simp; done) | (simp [*]; done)), H', ⟨by have := HJ2.out; have := HJ10.out; have := HJ13.out; first | omega | exact Nat.le_refl _⟩, by repeat (first | exact Drawn0.refl _ | apply Drawn0.step)⟩
                          · replace c16 := Bool.eq_false_iff.mpr c16
                            subst c16
                            have H1 : (if (wrap64 (bt a0 a1)) ≥ 240 then (if (wrap64 (bt a0 a1)) < 248 then (fastiref01_Width.j3 kj13 a0 a1 4 (wrap64 ((wrap64 (bt a0 a1)) - 240)) 65536) else (some 0)) else (some 0)) = some r := by rw [if_neg (show ¬ (false = true) by decide)] at H; exact H
                            clear H
                            have H := H1
                            clear H1
                            by_cases c17 : (wrap64 (bt a0 a1)) ≥ 240
                            · rw [if_pos c17] at H
                              have c17b0 : decide (240 ≤ (wrap64 (bt a0 a1))) = true := decide_eq_true c17
                              clear c17
                              by_cases c18 : (wrap64 (bt a0 a1)) < 248
                              · rw [if_pos c18] at H
                                have c18b0 : decide ((wrap64 (bt a0 a1)) < 248) = true := decide_eq_true c18
                                clear c18
                                have H' := Aside0.mk H
                                clear H
                                go_wp2
                                go_meet
                                case rel => exact ⟨_, (4), (wrap64 ((wrap64 (bt a0 a1)) - 240)), (65536), (by first | rfl | (simp; done) | (simp [*]; done)), (by first | rfl | (simp; done) | (simp [*]; done)), (by first | rfl | (simp; done) | (simp [*]; done)), H', ⟨by have := HJ2.out; have := HJ10.out; have := HJ13.out; first | omega | exact Nat.le_refl _⟩, by repeat (first | exact Drawn0.refl _ | apply Drawn0.step)⟩
                              · rw [if_neg c18] at H
                                have c18b0 : decide ((wrap64 (bt a0 a1)) < 248) = false := decide_eq_false c18
                                clear c18
                                obtain rfl := Option.some.inj H
                                go_wp2
                                go_ret
                                exact ⟨by first | rfl | (simp; done) | (simp [*]; done), by repeat (first | exact Drawn0.refl _ | apply Drawn0.step)⟩
                            · rw [if_neg c17] at H
                              have c17b0 : decide (240 ≤ (wrap64 (bt a0 a1))) = false := decide_eq_false c17
                              clear c17
                              obtain rfl := Option.some.inj H
                              go_wp2
                              go_ret
                              exact ⟨by first | rfl | (simp; done) | (simp [*]; done), by repeat (first | exact Drawn0.refl _ | apply Drawn0.step)⟩
            case rest =>
              clear HC9
              try clear c1
              try clear c2
              try clear p2
              try clear c4
              try clear c4b0
              try clear c5
              try clear c6
              try clear c6b0
              try clear p6
              try clear c7
              try clear c7b0
              try clear c8
              try clear p8
              try clear q8
              try clear hx8
              try clear c10
              try clear c10b0
              try clear c12
              try clear c12b0
              try clear c13
              try clear c15
              try clear c15b0
              try clear c16
              try clear c17
              try clear c17b0
              try clear c18
              try clear c18b0
              try clear p2
              try clear p6
              try clear p8
              try clear q8
              obtain ⟨kq, x6_8, x7_8, x8_8, rfl, rfl, rfl, HA, HJ8, ⟨mc8, rfl⟩⟩ := hcut
              cases kq with
              | zero => exact absurd HA.out (by simp [fastiref01_Width.j3])
              | succ kj8 =>
                have H := HA.out
                clear HA
                simp only [fastiref01_Width.j3] at H
                have H' := Aside0.mk H
                clear H
                go_wp2
                go_loopg [7, 9] kj8 (fun kq v7 v9 w' => ∃ (x7_3 : Int) (x9_3 : Int), v7 = .int .i64 x7_3 ∧ v9 = .int .i64 x9_3 ∧ Aside0 (fastiref01_Width.l0 kq a0 a1 x6_8 x7_3 x8_8 x9_3 = some r) ∧ Aside0 (kq ≤ kj8) ∧ Drawn0 w w')
                case atStart => exact ⟨(x7_8), (1), (by first | rfl | (simp; done) | (simp [*]; done)), (by first | rfl | (simp; done) | (simp [*]; done)), H', ⟨Nat.le_refl _⟩, by repeat (first | exact Drawn0.refl _ | apply Drawn0.step)⟩
                case round =>
                  clear H'
                  try clear c1
                  try clear c2
                  try clear p2
                  try clear c4
                  try clear c4b0
                  try clear c5
                  try clear c6
                  try clear c6b0
                  try clear p6
                  try clear c7
                  try clear c7b0
                  try clear c8
                  try clear p8
                  try clear q8
                  try clear hx8
                  try clear c10
                  try clear c10b0
                  try clear c12
                  try clear c12b0
                  try clear c13
                  try clear c15
                  try clear c15b0
                  try clear c16
                  try clear c17
                  try clear c17b0
                  try clear c18
                  try clear c18b0
                  try clear p2
                  try clear p6
                  try clear p8
                  try clear q8
                  obtain ⟨x7_3, x9_3, rfl, rfl, HA, HK3, ⟨m3, rfl⟩⟩ := hrel
                  cases gk with
                  | zero => exact absurd HA.out (by simp [fastiref01_Width.l0])
                  | succ k3 =>
                    have H := HA.out
                    clear HA
                    simp only [fastiref01_Width.l0] at H
                    by_cases c19 : x9_3 < x6_8
                    · rw [if_pos c19] at H
                      have c19b0 : decide (x9_3 < x6_8) = true := decide_eq_true c19
                      clear c19
                      by_cases c20 : (wrap64 (a1 + x9_3)) ≥ (a0.size : Int)
                      · rw [if_pos c20] at H
                        have c20b0 : decide ((a0.size : Int) ≤ (wrap64 (a1 + x9_3))) = true := decide_eq_true c20
                        clear c20
                        obtain rfl := Option.some.inj H
                        go_wp2
                        go_ret
                        exact ⟨by first | rfl | (simp; done) | (simp [*]; done), by repeat (first | exact Drawn0.refl _ | apply Drawn0.step)⟩
                      · rw [if_neg c20] at H
                        have c20b0 : decide ((a0.size : Int) ≤ (wrap64 (a1 + x9_3))) = false := decide_eq_false c20
                        clear c20
                        obtain ⟨ji21, hji21⟩ : ∃ j_ : Int, (wrap64 (a1 + x9_3)) = j_ := ⟨_, rfl⟩
                        replace H : (if 0 ≤ (ji21) then (if (ji21) < (a0.size : Int) then (if (wrap64 (Int.tdiv (wrap64 (bt a0 (ji21))) 64)) = 2 then (fastiref01_Width.l0 k3 a0 a1 x6_8 (wrap64 ((wrap64 (64 * x7_3)) + (Int.tmod (wrap64 (bt a0 (ji21))) 64))) x8_8 (wrap64 (x9_3 + 1))) else (some 0)) else (none)) else (none)) = some r := by first | (rw [hji21] at H; exact H) | (simp only [hji21] at H ⊢; exact H)
                        (try rw [hji21] at c20b0)
                        have hji21w : (IntKind.i64.wrap (a1 + x9_3)) = ji21 := (i64_w _).trans hji21
                        by_cases c22 : 0 ≤ (ji21)
                        · rw [if_pos c22] at H
                          have c22b0 : decide (0 ≤ (ji21)) = true := decide_eq_true c22
                          clear c22
                          by_cases c23 : (ji21) < (a0.size : Int)
                          · rw [if_pos c23] at H
                            have c23b0 : decide ((ji21) < (a0.size : Int)) = true := decide_eq_true c23
                            clear c23
                            by_cases c25 : (wrap64 (Int.tdiv (wrap64 (bt a0 (ji21))) 64)) = 2
                            · rw [if_pos c25] at H
                              have c25b0 : ((wrap64 (Int.tdiv (wrap64 (bt a0 (ji21))) 64)) == 2) = true := beq_iff_eq.mpr c25
                              have c25b1 : ((wrap64 (Int.tdiv (wrap64 (bt a0 (ji21))) 64)) != 2) = false := bne_eq_false_iff_eq.mpr c25
                              clear c25
                              have H' := Aside0.mk H
                              clear H
                              have p24 : 0 ≤ ((ji21) : Int) := of_decide_eq_true (by first | (with_reducible assumption) | assumption)
                              have q24 : (ji21) < (a0.size : Int) := of_decide_eq_true (by first | (with_reducible assumption) | assumption)
                              have hx24 := bt_at a0 (ji21)
                              replace p24 := eq_true p24
                              replace q24 := eq_true q24
                              have p26 : 0 ≤ ((ji21) : Int) := of_decide_eq_true (by first | (with_reducible assumption) | assumption)
                              have q26 : (ji21) < (a0.size : Int) := of_decide_eq_true (by first | (with_reducible assumption) | assumption)
                              have hx26 := bt_at a0 (ji21)
                              replace p26 := eq_true p26
                              replace q26 := eq_true q26
                              go_wp2
                              go_roundg k3
                              case measure => have := HJ2.out; have := HJ8.out; have := HK3.out; omega
                              case rel => exact ⟨(wrap64 ((wrap64 (64 * x7_3)) + (Int.tmod (wrap64 (bt a0 (ji21))) 64))), (wrap64 (x9_3 + 1)), (by first | rfl | (simp; done) | (simp only [← hji21] <;> (first | rfl | simp)) | (simp [*]; done)), (by first | rfl | (simp; done) | (simp [*]; done)), H', ⟨by have := HJ2.out; have := HJ8.out; have := HK3.out; omega⟩, by repeat (first | exact Drawn0.refl _ | apply Drawn0.step)⟩
                            · rw [if_neg c25] at H
                              have c25b0 : ((wrap64 (Int.tdiv (wrap64 (bt a0 (ji21))) 64)) == 2) = false := beq_eq_false_iff_ne.mpr c25
                              have c25b1 : ((wrap64 (Int.tdiv (wrap64 (bt a0 (ji21))) 64)) != 2) = true := bne_iff_ne.mpr c25
                              obtain rfl := Option.some.inj H
                              have p24 : 0 ≤ ((ji21) : Int) := of_decide_eq_true (by first | (with_reducible assumption) | assumption)
                              have q24 : (ji21) < (a0.size : Int) := of_decide_eq_true (by first | (with_reducible assumption) | assumption)
                              have hx24 := bt_at a0 (ji21)
                              replace p24 := eq_true p24
                              replace q24 := eq_true q24
                              go_wp2
                              go_ret
                              exact ⟨by first | rfl | (simp; done) | (simp only [← hji21] <;> (first | rfl | simp)) | (simp [*]; done), by repeat (first | exact Drawn0.refl _ | apply Drawn0.step)⟩
                          · rw [if_neg c23] at H
                            exact absurd H (by simp)
                        · rw [if_neg c22] at H
                          exact absurd H (by simp)
                    · rw [if_neg c19] at H
                      have c19b0 : decide (x9_3 < x6_8) = false := decide_eq_false c19
                      clear c19
                      by_cases c27 : x7_3 < x8_8
                      · rw [if_pos c27] at H
                        have c27b0 : decide (x7_3 < x8_8) = true := decide_eq_true c27
                        clear c27
                        obtain rfl := Option.some.inj H
                        go_wp2
                        go_ret
                        exact ⟨by first | rfl | (simp; done) | (simp [*]; done), by repeat (first | exact Drawn0.refl _ | apply Drawn0.step)⟩
                      · rw [if_neg c27] at H
                        have c27b0 : decide (x7_3 < x8_8) = false := decide_eq_false c27
                        clear c27
                        by_cases c28 : x7_3 ≥ 55296
                        · rw [if_pos c28] at H
                          have c28b0 : decide (55296 ≤ x7_3) = true := decide_eq_true c28
                          clear c28
                          by_cases c29 : x7_3 < 57344
                          · rw [if_pos c29] at H
                            have c29b0 : decide (x7_3 < 57344) = true := decide_eq_true c29
                            clear c29
                            obtain rfl := Option.some.inj H
                            go_wp2
                            go_ret
                            exact ⟨by first | rfl | (simp; done) | (simp [*]; done), by repeat (first | exact Drawn0.refl _ | apply Drawn0.step)⟩
                          · rw [if_neg c29] at H
                            have c29b0 : decide (x7_3 < 57344) = false := decide_eq_false c29
                            clear c29
                            by_cases c30 : x7_3 > 1114111
                            · rw [if_pos c30] at H
                              have c30b0 : decide (1114111 < x7_3) = true := decide_eq_true c30
                              clear c30
                              obtain rfl := Option.some.inj H
                              go_wp2
                              go_ret
                              exact ⟨by first | rfl | (simp; done) | (simp [*]; done), by repeat (first | exact Drawn0.refl _ | apply Drawn0.step)⟩
                            · rw [if_neg c30] at H
                              have c30b0 : decide (1114111 < x7_3) = false := decide_eq_false c30
                              clear c30
                              obtain rfl := Option.some.inj H
                              go_wp2
                              go_ret
                              exact ⟨by first | rfl | (simp; done) | (simp [*]; done), by repeat (first | exact Drawn0.refl _ | apply Drawn0.step)⟩
                        · rw [if_neg c28] at H
                          have c28b0 : decide (55296 ≤ x7_3) = false := decide_eq_false c28
                          clear c28
                          by_cases c31 : x7_3 > 1114111
                          · rw [if_pos c31] at H
                            have c31b0 : decide (1114111 < x7_3) = true := decide_eq_true c31
                            clear c31
                            obtain rfl := Option.some.inj H
                            go_wp2
                            go_ret
                            exact ⟨by first | rfl | (simp; done) | (simp [*]; done), by repeat (first | exact Drawn0.refl _ | apply Drawn0.step)⟩
                          · rw [if_neg c31] at H
                            have c31b0 : decide (1114111 < x7_3) = false := decide_eq_false c31
                            clear c31
                            obtain rfl := Option.some.inj H
                            go_wp2
                            go_ret
                            exact ⟨by first | rfl | (simp; done) | (simp [*]; done), by repeat (first | exact Drawn0.refl _ | apply Drawn0.step)⟩
          · rw [if_neg c7] at H
            exact absurd H (by simp)
        · rw [if_neg c6] at H
          exact absurd H (by simp)

/-! ### fastiref01_Runes: function 72 -/
def fastiref01_Runes.l0 : Nat → ByteArray → Int → Int → Option (Int)
  | 0, _, _, _ => none
  | k + 1, x0, x3, x4 => if x4 < (x0.size : Int) then ((fastiref01_Width.f k x0 x4).bind fun t181 => (if t181 = 0 then (some (-1)) else (fastiref01_Runes.l0 k x0 (wrap64 (x3 + 1)) (wrap64 (x4 + t181))))) else (some x3)
def fastiref01_Runes.f (k : Nat) (a0 : ByteArray) : Option (Int) := fastiref01_Runes.l0 k a0 0 0
set_option maxHeartbeats 8000000 in
set_option maxRecDepth 100000 in
theorem fastiref01_Runes.calls (k : Nat) (a0 : ByteArray) (r : Int) (w : World) (h : fastiref01_Runes.f k a0 = some r) :
    Calls Tryd.prog 72 #[.string a0] w fun e w' => e = .returned (.int .i64 r) ∧ Drawn0 w w' := by
  have H : (fastiref01_Runes.l0 k a0 0 0) = some r := h
  clear h
  have H' := Aside0.mk H
  clear H
  go_enter Tryd.func72, Tryd.ntmps72
  go_wp2
  go_loopg [3, 4] k (fun kq v3 v4 w' => ∃ (x3_1 : Int) (x4_1 : Int), v3 = .int .i64 x3_1 ∧ v4 = .int .i64 x4_1 ∧ Aside0 (fastiref01_Runes.l0 kq a0 x3_1 x4_1 = some r) ∧ Aside0 (kq ≤ k) ∧ Drawn0 w w')
  case atStart => exact ⟨(0), (0), (by first | rfl | (simp; done) | (simp [*]; done)), (by first | rfl | (simp; done) | (simp [*]; done)), H', ⟨Nat.le_refl _⟩, by repeat (first | exact Drawn0.refl _ | apply Drawn0.step)⟩
  case round =>
    clear H'
    obtain ⟨x3_1, x4_1, rfl, rfl, HA, HK1, ⟨m1, rfl⟩⟩ := hrel
    cases gk with
    | zero => exact absurd HA.out (by simp [fastiref01_Runes.l0])
    | succ k1 =>
      have H := HA.out
      clear HA
      simp only [fastiref01_Runes.l0] at H
      by_cases c2 : x4_1 < (a0.size : Int)
      · rw [if_pos c2] at H
        have c2b0 : decide (x4_1 < (a0.size : Int)) = true := decide_eq_true c2
        clear c2
        replace H := Option.bind_eq_some_iff.mp H
        obtain ⟨t181, A30, H⟩ := H
        replace H : (if t181 = 0 then (some (-1)) else (fastiref01_Runes.l0 k1 a0 (wrap64 (x3_1 + 1)) (wrap64 (x4_1 + t181)))) = some r := H
        have A3 := Aside0.mk A30
        clear A30
        by_cases c4 : t181 = 0
        · rw [if_pos c4] at H
          have c4b0 : (t181 == 0) = true := beq_iff_eq.mpr c4
          have c4b1 : (t181 != 0) = false := bne_eq_false_iff_eq.mpr c4
          clear c4
          obtain rfl := Option.some.inj H
          go_wp2_with (first | ((with_reducible refine gate_callee (f := 82) rfl ?_); refine goesL_ (some 12) rfl rfl Tryd.func82 (by kernel_rfl) rfl #[.string a0, .int .i64 x4_1] rfl (by (try simp only [List.map_toArray, List.map_cons, List.map_nil]); first | done | rfl | (simp only [List.length_drop, List.length_take]; rfl)) ?_; (with_reducible refine (fastiref01_Width.calls k1 a0 x4_1 t181 _ A3.out).mono ?_); rintro e w' ⟨rfl, ⟨nd, rfl⟩⟩; refine ⟨_, rfl, ?_⟩))
          go_ret
          exact ⟨by first | rfl | (simp; done) | (simp [*]; done), by repeat (first | exact Drawn0.refl _ | apply Drawn0.step)⟩
        · rw [if_neg c4] at H
          have c4b0 : (t181 == 0) = false := beq_eq_false_iff_ne.mpr c4
          have c4b1 : (t181 != 0) = true := bne_iff_ne.mpr c4
          have H' := Aside0.mk H
          clear H
          go_wp2_with (first | ((with_reducible refine gate_callee (f := 82) rfl ?_); refine goesL_ (some 12) rfl rfl Tryd.func82 (by kernel_rfl) rfl #[.string a0, .int .i64 x4_1] rfl (by (try simp only [List.map_toArray, List.map_cons, List.map_nil]); first | done | rfl | (simp only [List.length_drop, List.length_take]; rfl)) ?_; (with_reducible refine (fastiref01_Width.calls k1 a0 x4_1 t181 _ A3.out).mono ?_); rintro e w' ⟨rfl, ⟨nd, rfl⟩⟩; refine ⟨_, rfl, ?_⟩))
          go_roundg k1
          case measure => have := HK1.out; omega
          case rel => exact ⟨(wrap64 (x3_1 + 1)), (wrap64 (x4_1 + t181)), (by first | rfl | (simp; done) | (simp [*]; done)), (by first | rfl | (simp; done) | (simp [*]; done)), H', ⟨by have := HK1.out; omega⟩, by repeat (first | exact Drawn0.refl _ | apply Drawn0.step)⟩
      · rw [if_neg c2] at H
        have c2b0 : decide (x4_1 < (a0.size : Int)) = false := decide_eq_false c2
        clear c2
        obtain rfl := Option.some.inj H
        go_wp2
        go_ret
        exact ⟨by first | rfl | (simp; done) | (simp [*]; done), by repeat (first | exact Drawn0.refl _ | apply Drawn0.step)⟩

end Go.Proofs.YtgjlchcfdbmmlaaDoor.PObjectTakes
namespace Go.Proofs.YtgjlchcfdbmmlaaDoor.PObjectTakes
open Go.RowKit Go.Proofs.YtgjlchcfdbmmlaaDoor.Ord Go.Proofs.YtgjlchcfdbmmlaaDoor.Obj Go.Proofs.YtgjlchcfdbmmlaaDoorW.PrintWords Go.Proofs.YtgjlchcfdbmmlaaDoorW.PrintLast Go.Proofs.YtgjlchcfdbmmlaaDoorW.PrintMore

theorem w64 {x : Int} (h0 : 0 ≤ x) (h1 : x ≤ 9223372036854775807) : wrap64 x = x := by unfold wrap64; omega
theorem td64 (g : Nat) : Int.tdiv (g : Int) 64 = ((g / 64 : Nat) : Int) := rfl
theorem tm64 (g : Nat) : Int.tmod (g : Int) 64 = ((g % 64 : Nat) : Int) := rfl
theorem bt_gb {s : ByteArray} {i : Nat} {z : Int} (hz : z = (i : Int)) (h : i < s.size) : wrap64 (bt s z) = (gb s i : Int) := by
  subst hz
  have hb := gb_lt s i
  have : bt s (i : Int) = (gb s i : Int) := by
    unfold bt gb
    rw [Int.toNat_natCast, dif_pos h]
    congr 2
    simp only [ByteArray.get!, ByteArray.getElem_eq_getElem_data]
    rw [getElem!_pos s.data i h]
  rw [this]
  unfold wrap64
  omega
theorem wl_end {s : ByteArray} {i n c least m : Nat} (h : ¬ m < n) : Ev (fun k => fastiref01_Width.l0 k s (i : Int) (n : Int) (c : Int) (least : Int) (m : Int)) (if okC c least then (n : Int) else 0) := by
  refine Ev.step (f := fun _ => some (if okC c least then (n : Int) else 0)) (fun k => ?_) (Ev.now _)
  rw [fastiref01_Width.l0, if_neg (by omega)]
  unfold okC
  by_cases h1 : c < least
  · rw [if_pos (by omega), decide_eq_true h1]; rfl
  · rw [if_neg (by omega), decide_eq_false h1]
    by_cases h2 : 55296 ≤ c
    · rw [if_pos (by omega), decide_eq_true h2]
      by_cases h3 : c < 57344
      · rw [if_pos (by omega), decide_eq_true h3]; rfl
      · rw [if_neg (by omega), decide_eq_false h3]
        by_cases h4 : 1114111 < c
        · rw [if_pos (by omega), decide_eq_true h4]; rfl
        · rw [if_neg (by omega), decide_eq_false h4]; rfl
    · rw [if_neg (by omega), decide_eq_false h2]
      by_cases h4 : 1114111 < c
      · rw [if_pos (by omega), decide_eq_true h4]; rfl
      · rw [if_neg (by omega), decide_eq_false h4]; rfl
theorem wl_no {s : ByteArray} {i n c least m : Nat} (h : m < n) (hi : i + m ≤ 1000000) (hc : contB s (i + m) = false) : Ev (fun k => fastiref01_Width.l0 k s (i : Int) (n : Int) (c : Int) (least : Int) (m : Int)) 0 := by
  refine Ev.step (f := fun _ => some 0) (fun k => ?_) (Ev.now _)
  have w : wrap64 ((i : Int) + (m : Int)) = ((i + m : Nat) : Int) := by unfold wrap64; omega
  rw [fastiref01_Width.l0, if_pos (by omega), w]
  by_cases hs : s.size ≤ i + m
  · rw [if_pos (by omega)]
  · have hg := bt_gb (s := s) (i := i + m) rfl (by omega)
    have hb := gb_lt s (i + m)
    rw [if_neg (by omega), if_pos (by omega), if_pos (by omega), hg, if_neg]
    intro e
    unfold contB at hc
    rw [decide_eq_true (by omega), Bool.true_and, beq_eq_false_iff_ne] at hc
    rw [td64, w64 (by omega) (by omega)] at e
    exact hc (by omega)
theorem wl_yes {s : ByteArray} {i n c least m : Nat} {r : Int} (h : m < n) (hi : i + m ≤ 1000000) (hcb : c ≤ 1000000000) (hc : contB s (i + m) = true) (k : Ev (fun k => fastiref01_Width.l0 k s (i : Int) (n : Int) ((64 * c + gb s (i + m) % 64 : Nat) : Int) (least : Int) ((m + 1 : Nat) : Int)) r) :
    Ev (fun k => fastiref01_Width.l0 k s (i : Int) (n : Int) (c : Int) (least : Int) (m : Int)) r := by
  unfold contB at hc
  rw [Bool.and_eq_true, decide_eq_true_eq, beq_iff_eq] at hc
  refine Ev.step (f := fun k => fastiref01_Width.l0 k s (i : Int) (n : Int) ((64 * c + gb s (i + m) % 64 : Nat) : Int) (least : Int) ((m + 1 : Nat) : Int)) (fun k => ?_) k
  have w : wrap64 ((i : Int) + (m : Int)) = ((i + m : Nat) : Int) := by unfold wrap64; omega
  have hg := bt_gb (s := s) (i := i + m) rfl hc.1
  have hb := gb_lt s (i + m)
  rw [fastiref01_Width.l0, if_pos (by omega), w, if_neg (by omega), if_pos (by omega), if_pos (by omega), hg, if_pos]
  · have w1 : wrap64 ((m : Int) + 1) = ((m + 1 : Nat) : Int) := by unfold wrap64; omega
    have w2 : wrap64 (wrap64 (64 * (c : Int)) + Int.tmod ((gb s (i + m) : Nat) : Int) 64) = ((64 * c + gb s (i + m) % 64 : Nat) : Int) := by
      rw [tm64, w64 (x := 64 * (c : Int)) (by omega) (by omega), w64 (by omega) (by omega)]
      omega
    rw [w1, w2]
  · rw [td64, w64 (by omega) (by omega)]
    omega
theorem width_ev (s : ByteArray) (i : Nat) (hs : s.size ≤ 100000) : Ev (fun k => fastiref01_Width.f k s (i : Int)) (widthN s i : Int) := by
  unfold widthN
  refine Ev.congr (f := fun k => fastiref01_Width.j0 k s (i : Int) (decide ((i : Int) ≥ (s.size : Int)))) (fun k => by unfold fastiref01_Width.f; rw [if_neg (by omega)]) ?_
  by_cases h0 : s.size ≤ i
  · rw [if_pos h0, decide_eq_true (by omega)]
    exact Ev.step (f := fun _ => some 0) (fun k => by rw [fastiref01_Width.j0, if_pos rfl]) (Ev.now _)
  · rw [if_neg h0, decide_eq_false (by omega)]
    have hg := bt_gb (s := s) (i := i) rfl (by omega)
    have hb := gb_lt s i
    have e1 : ∀ k, fastiref01_Width.j0 (k + 1) s (i : Int) false = if ((gb s i : Nat) : Int) < 128 then some 1 else if ((gb s i : Nat) : Int) ≥ 192 then fastiref01_Width.j1 k s (i : Int) (gb s i : Int) (decide (((gb s i : Nat) : Int) < 224)) else fastiref01_Width.j1 k s (i : Int) (gb s i : Int) false := fun k => by
      rw [fastiref01_Width.j0, if_neg (by decide), if_pos (by omega), if_pos (by omega), hg]
    by_cases a1 : gb s i < 128
    · rw [if_pos a1]
      exact Ev.step (f := fun _ => some 1) (fun k => by rw [e1, if_pos (by omega)]) (Ev.now _)
    rw [if_neg a1]
    by_cases a2 : 192 ≤ gb s i ∧ gb s i < 224
    · rw [if_pos a2]
      have w : wrap64 ((gb s i : Int) - 192) = ((gb s i - 192 : Nat) : Int) := by unfold wrap64; omega
      refine Ev.step (f := fun k => fastiref01_Width.j1 k s (i : Int) (gb s i : Int) true) (fun k => by rw [e1, if_neg (by omega), if_pos (by omega), decide_eq_true (by omega)]) ?_
      refine Ev.step (f := fun k => fastiref01_Width.j3 k s (i : Int) 2 ((gb s i - 192 : Nat) : Int) 128) (fun k => by rw [fastiref01_Width.j1, if_pos rfl, w]) ?_
      refine Ev.step (f := fun k => fastiref01_Width.l0 k s (i : Int) ((2 : Nat) : Int) ((gb s i - 192 : Nat) : Int) ((128 : Nat) : Int) ((1 : Nat) : Int)) (fun k => by rw [fastiref01_Width.j3]; rfl) ?_
      cases k1 : contB s (i + 1) with
      | false => exact wl_no (by decide) (by omega) k1
      | true =>
        refine wl_yes (by decide) (by omega) (by omega) k1 ?_
        have := wl_end (s := s) (i := i) (n := 2) (c := 64 * (gb s i - 192) + gb s (i + 1) % 64) (least := 128) (m := 2) (by decide)
        rw [show (gb s i - 192) * 64 + gb s (i + 1) % 64 = 64 * (gb s i - 192) + gb s (i + 1) % 64 by omega, Bool.true_and]
        refine Ev.congr (fun _ => rfl) ?_
        cases hk : okC (64 * (gb s i - 192) + gb s (i + 1) % 64) 128 <;> (rw [hk] at this; exact this)
    rw [if_neg a2]
    by_cases a3 : 224 ≤ gb s i ∧ gb s i < 240
    · rw [if_pos a3]
      have w : wrap64 ((gb s i : Int) - 224) = ((gb s i - 224 : Nat) : Int) := by unfold wrap64; omega
      refine Ev.step (f := fun k => fastiref01_Width.j1 k s (i : Int) (gb s i : Int) false) (fun k => by rw [e1, if_neg (by omega), if_pos (by omega), decide_eq_false (by omega)]) ?_
      refine Ev.step (f := fun k => fastiref01_Width.j2 k s (i : Int) (gb s i : Int) true) (fun k => by rw [fastiref01_Width.j1, if_neg (by decide), if_pos (by omega), decide_eq_true (by omega)]) ?_
      refine Ev.step (f := fun k => fastiref01_Width.j3 k s (i : Int) 3 ((gb s i - 224 : Nat) : Int) 2048) (fun k => by rw [fastiref01_Width.j2, if_pos rfl, w]) ?_
      refine Ev.step (f := fun k => fastiref01_Width.l0 k s (i : Int) ((3 : Nat) : Int) ((gb s i - 224 : Nat) : Int) ((2048 : Nat) : Int) ((1 : Nat) : Int)) (fun k => by rw [fastiref01_Width.j3]; rfl) ?_
      cases k1 : contB s (i + 1) with
      | false => exact wl_no (by decide) (by omega) k1
      | true =>
        refine wl_yes (by decide) (by omega) (by omega) k1 ?_
        cases k2 : contB s (i + 2) with
        | false => exact wl_no (by decide) (by omega) k2
        | true =>
          refine wl_yes (by decide) (by omega) (by omega) k2 ?_
          have := wl_end (s := s) (i := i) (n := 3) (c := 64 * (64 * (gb s i - 224) + gb s (i + 1) % 64) + gb s (i + 2) % 64) (least := 2048) (m := 3) (by decide)
          rw [show (gb s i - 224) * 4096 + gb s (i + 1) % 64 * 64 + gb s (i + 2) % 64 = 64 * (64 * (gb s i - 224) + gb s (i + 1) % 64) + gb s (i + 2) % 64 by omega, Bool.true_and, Bool.true_and]
          refine Ev.congr (fun _ => rfl) ?_
          cases hk : okC (64 * (64 * (gb s i - 224) + gb s (i + 1) % 64) + gb s (i + 2) % 64) 2048 <;> (rw [hk] at this; exact this)
    rw [if_neg a3]
    by_cases a4 : 240 ≤ gb s i ∧ gb s i < 248
    · rw [if_pos a4]
      have w : wrap64 ((gb s i : Int) - 240) = ((gb s i - 240 : Nat) : Int) := by unfold wrap64; omega
      refine Ev.step (f := fun k => fastiref01_Width.j1 k s (i : Int) (gb s i : Int) false) (fun k => by rw [e1, if_neg (by omega), if_pos (by omega), decide_eq_false (by omega)]) ?_
      refine Ev.step (f := fun k => fastiref01_Width.j2 k s (i : Int) (gb s i : Int) false) (fun k => by rw [fastiref01_Width.j1, if_neg (by decide), if_pos (by omega), decide_eq_false (by omega)]) ?_
      refine Ev.step (f := fun k => fastiref01_Width.j3 k s (i : Int) 4 ((gb s i - 240 : Nat) : Int) 65536) (fun k => by rw [fastiref01_Width.j2, if_neg (by decide), if_pos (by omega), if_pos (by omega), w]) ?_
      refine Ev.step (f := fun k => fastiref01_Width.l0 k s (i : Int) ((4 : Nat) : Int) ((gb s i - 240 : Nat) : Int) ((65536 : Nat) : Int) ((1 : Nat) : Int)) (fun k => by rw [fastiref01_Width.j3]; rfl) ?_
      cases k1 : contB s (i + 1) with
      | false => exact wl_no (by decide) (by omega) k1
      | true =>
        refine wl_yes (by decide) (by omega) (by omega) k1 ?_
        cases k2 : contB s (i + 2) with
        | false => exact wl_no (by decide) (by omega) k2
        | true =>
          refine wl_yes (by decide) (by omega) (by omega) k2 ?_
          cases k3 : contB s (i + 3) with
          | false => exact wl_no (by decide) (by omega) k3
          | true =>
            refine wl_yes (by decide) (by omega) (by omega) k3 ?_
            have := wl_end (s := s) (i := i) (n := 4) (c := 64 * (64 * (64 * (gb s i - 240) + gb s (i + 1) % 64) + gb s (i + 2) % 64) + gb s (i + 3) % 64) (least := 65536) (m := 4) (by decide)
            rw [show (gb s i - 240) * 262144 + gb s (i + 1) % 64 * 4096 + gb s (i + 2) % 64 * 64 + gb s (i + 3) % 64 = 64 * (64 * (64 * (gb s i - 240) + gb s (i + 1) % 64) + gb s (i + 2) % 64) + gb s (i + 3) % 64 by omega, Bool.true_and, Bool.true_and, Bool.true_and]
            refine Ev.congr (fun _ => rfl) ?_
            cases hk : okC (64 * (64 * (64 * (gb s i - 240) + gb s (i + 1) % 64) + gb s (i + 2) % 64) + gb s (i + 3) % 64) 65536 <;> (rw [hk] at this; exact this)
    rw [if_neg a4]
    by_cases a5 : 192 ≤ gb s i
    · refine Ev.step (f := fun k => fastiref01_Width.j1 k s (i : Int) (gb s i : Int) false) (fun k => by rw [e1, if_neg (by omega), if_pos (by omega), decide_eq_false (by omega)]) ?_
      refine Ev.step (f := fun k => fastiref01_Width.j2 k s (i : Int) (gb s i : Int) false) (fun k => by rw [fastiref01_Width.j1, if_neg (by decide), if_pos (by omega), decide_eq_false (by omega)]) ?_
      exact Ev.step (f := fun _ => some 0) (fun k => by rw [fastiref01_Width.j2, if_neg (by decide), if_pos (by omega), if_neg (by omega)]) (Ev.now _)
    · refine Ev.step (f := fun k => fastiref01_Width.j1 k s (i : Int) (gb s i : Int) false) (fun k => by rw [e1, if_neg (by omega), if_neg (by omega)]) ?_
      refine Ev.step (f := fun k => fastiref01_Width.j2 k s (i : Int) (gb s i : Int) false) (fun k => by rw [fastiref01_Width.j1, if_neg (by decide), if_neg (by omega)]) ?_
      exact Ev.step (f := fun _ => some 0) (fun k => by rw [fastiref01_Width.j2, if_neg (by decide), if_neg (by omega)]) (Ev.now _)
end Go.Proofs.YtgjlchcfdbmmlaaDoor.PObjectTakes
namespace Go.Proofs.YtgjlchcfdbmmlaaDoor.PObjectTakes
open Go.RowKit Go.Proofs.YtgjlchcfdbmmlaaDoor.Ord Go.Proofs.YtgjlchcfdbmmlaaDoor.Obj Go.Proofs.YtgjlchcfdbmmlaaDoorW.PrintWords Go.Proofs.YtgjlchcfdbmmlaaDoorW.PrintLast Go.Proofs.YtgjlchcfdbmmlaaDoorW.PrintMore
attribute [local irreducible] OpGives

theorem eqR_run (d : Nat) (w : World) (x0 y0 x1 y1 x2 y2 x3 y3 : Int) (x4 y4 : ByteArray) :
    (Op.equalIn (d + 3) 55 (.agg #[.int .i64 x0, .int .i64 x1, .int .i64 x2, .int .i64 x3, .string x4]) (.agg #[.int .i64 y0, .int .i64 y1, .int .i64 y2, .int .i64 y3, .string y4])).run Tryd.prog w = .ok (x0 == y0 && (x1 == y1 && ((x2 == y2 && (x3 == y3 && (x4.toList == y4.toList)))))) w := by
  refine eqA_of Tryd.underlying55 (by kernel_rfl) ?_
  refine eqf_cons (by rfl) (by go_simp; rfl) (by go_simp; rfl) (by go_simp) ?_
  refine eqf_cons (by rfl) (by go_simp; rfl) (by go_simp; rfl) (by go_simp) ?_
  exact eqf_last (by rfl) (by go_simp) (by go_simp) (eqV_run (d + 0) w _ _ _ _ _ _)
theorem eqK_run (d : Nat) (w : World) (x0 y0 : Int) (x1 y1 : ByteArray) :
    (Op.equalIn (d + 2) 60 (.agg #[.int .u8 x0, .string x1]) (.agg #[.int .u8 y0, .string y1])).run Tryd.prog w = .ok (x0 == y0 && (x1.toList == y1.toList)) w := by
  refine eqA_of Tryd.underlying60 (by kernel_rfl) ?_
  refine eqf_cons (by rfl) (by go_simp; rfl) (by go_simp; rfl) (by go_simp) ?_
  exact eqf_last (by rfl) (by go_simp; rfl) (by go_simp; rfl) (by go_simp)
attribute [local go_sem high] eqR_run eqK_run
set_option maxHeartbeats 8000000 in
set_option maxRecDepth 100000 in
theorem same02_self (l : List S55) (A : Option Addr) (c : Nat) (A' : Option Addr) (c' : Nat) (w : World) (h : Kd.C k55 w A l.length l) (h' : Kd.C k55 w A' l.length l) :
    Calls Tryd.prog 17 #[.slice A l.length c, .slice A' l.length c'] w fun e w' => e = .returned (.bool true) ∧ Below w.heap.size w w' := by
  have HA := Lib.hid h
  have HA' := Lib.hid h'
  have hmx := h.2.1
  clear h h'
  go_enter Tryd.func17, Tryd.ntmps17
  go_wp2_with fail
  go_loopw [5] (fun v wr => ∃ i : Nat, v = .int .i64 (i : Int) ∧ i ≤ l.length ∧ Below w.heap.size w wr) (fun v _ => l.length - (intOf v).toNat)
  case atStart => exact ⟨0, rfl, Nat.zero_le _, Below.refl _ _⟩
  case round =>
    obtain ⟨i, rfl, hi, hbe⟩ := hrel
    have HBE := Lib.hid hbe
    by_cases hil : i < l.length
    · obtain ⟨x, hx⟩ : ∃ x, l[i]? = some x := ⟨_, List.getElem?_eq_getElem hil⟩
      obtain ⟨ad, rfl, c0, c1, c2, c3, c4, hbk⟩ := row_at (Kd.C_below HA.out hbe) hx
      obtain ⟨ad', rfl, d0, d1, d2, d3, d4, hbk'⟩ := row_at (Kd.C_below HA'.out hbe) hx
      clear hx hbe
      go_wp2_with fail
      go_quiet (fail)
      go_wp2_with fail
      go_roundw
      case rel => exact ⟨i + 1, by go_num, hil, pw_below_drewN HBE.out _⟩
      case measure => simp [intOf]; omega
    · clear hbe
      go_wp2_with fail
      go_ret
      exact ⟨rfl, HBE.out⟩
set_option maxHeartbeats 8000000 in
set_option maxRecDepth 100000 in
theorem same07_calls (o : Ob) (Ar : Option Addr) (cr : Nat) (Ak : Option Addr) (ck : Nat) (Ap : Option Addr) (cp : Nat) (Ar' : Option Addr) (cr' : Nat) (Ak' : Option Addr) (ck' : Nat) (Ap' : Option Addr) (cp' : Nat) (w : World) (h : ObAt w o Ar cr Ak ck Ap cp) (h' : ObAt w o Ar' cr' Ak' ck' Ap' cp') :
    Calls Tryd.prog 11 #[.agg (obV o Ar cr Ak ck Ap cp), .agg (obV o Ar' cr' Ak' ck' Ap' cp')] w fun e w' => e = .returned (.bool true) ∧ Below w.heap.size w w' := by
  obtain ⟨W1, hW1⟩ : ∃ W1, W1 = w.alloc (.cells (obV o Ar cr Ak ck Ap cp) 27) := ⟨_, rfl⟩
  obtain ⟨W2, hW2⟩ : ∃ W2, W2 = W1.alloc (.cells (obV o Ar' cr' Ak' ck' Ap' cp') 27) := ⟨_, rfl⟩
  have hn1 : Below w.heap.size w W1 := by rw [hW1]; exact (Below.refl _ _).alloc (Nat.le_refl _) _
  have hn2 : Below W1.heap.size W1 W2 := by rw [hW2]; exact (Below.refl _ _).alloc (Nat.le_refl _) _
  have hg1 : W1.heap[w.heap.size]? = some (.cells (obV o Ar cr Ak ck Ap cp) 27 (0, 0)) := by rw [hW1]; exact alloc_lastV _ _
  have hg2 : W2.heap[W1.heap.size]? = some (.cells (obV o Ar' cr' Ak' ck' Ap' cp') 27 (0, 0)) := by rw [hW2]; exact alloc_lastV _ _
  have hb2 : Below w.heap.size w W2 := hn1.trans (hn2.mono hn1.size)
  have hg12 := (hn2.block _ (Array.getElem?_eq_some_iff.1 hg1).1).trans hg1
  have HO := Lib.hid (h.below hb2)
  have HO' := Lib.hid (h'.below hb2)
  have HB := Lib.hid hb2
  have HG := Lib.hid (And.intro hg12 hg2)
  have hs1 : W1.heap.size = w.heap.size + 1 := by rw [hW1]; simp
  have hmk := h.k.2.1
  have hmp := h.p.2.1
  have HR := Lib.hid (same02_self o.rows Ar cr Ar' cr' W2 (h.below hb2).r (h'.below hb2).r)
  clear h h' hn1 hn2 hb2
  unfold obV at hW1 hW2 hg12 hg2 HG ⊢
  obtain ⟨⟨b0, b1, b2, b3⟩, b4, b5, b6, b7⟩ := box8 hg12
  obtain ⟨⟨d0, d1, d2, d3⟩, d4, d5, d6, d7⟩ := box8 hg2
  clear hg1 hg2 hg12
  rw [hs1] at d0 d1 d2 d3 d4 d5 d6 d7
  rw [hW2, hW1] at b0 b1 b2 b3 b4 b5 b6 b7 d0 d1 d2 d3 d4 d5 d6 d7
  have HW := Lib.hid (show W2 = _ by rw [hW2, hW1])
  have HS1 := Lib.hid hs1
  clear hW1 hW2 hs1
  go_enter Tryd.func11, Tryd.ntmps11
  go_wp2_with fail
  rw [← HW.out]
  clear b0 b1 b2 b3 b4 b5 b6 b7 d0 d1 d2 d3 d4 d5 d6 d7
  refine HR.out.mono ?_
  rintro e W3 ⟨rfl, hb3⟩
  have HB3 := Lib.hid (HB.out.trans (hb3.mono HB.out.size))
  have HO3 := Lib.hid (HO.out.below hb3)
  have HO3' := Lib.hid (HO'.out.below hb3)
  have HG3 := Lib.hid (And.intro ((hb3.block _ (Array.getElem?_eq_some_iff.1 HG.out.1).1).trans HG.out.1) ((hb3.block _ (Array.getElem?_eq_some_iff.1 HG.out.2).1).trans HG.out.2))
  obtain ⟨⟨b0, b1, b2, b3⟩, b4, b5, b6, b7⟩ := box8 HG3.out.1
  obtain ⟨⟨d0, d1, d2, d3⟩, d4, d5, d6, d7⟩ := box8 HG3.out.2
  rw [HS1.out] at d0 d1 d2 d3 d4 d5 d6 d7
  clear hb3
  go_wp2_with fail
  clear b0 b1 b2 b3 b4 b5 b6 b7 d0 d1 d2 d3 d4 d5 d6 d7
  go_loopw [5] (fun v wr => ∃ i : Nat, v = .int .i64 (i : Int) ∧ i ≤ o.kids.length ∧ Below W3.heap.size W3 wr) (fun v _ => o.kids.length - (intOf v).toNat)
  case atStart => exact ⟨0, rfl, Nat.zero_le _, Below.refl _ _⟩
  case round =>
    obtain ⟨i, rfl, hi, hbe⟩ := hrel
    have HBE := Lib.hid hbe
    have b3 := (box8 ((hbe.block _ (Array.getElem?_eq_some_iff.1 HG3.out.1).1).trans HG3.out.1)).1.2.2.2
    have b4 := (box8 ((hbe.block _ (Array.getElem?_eq_some_iff.1 HG3.out.1).1).trans HG3.out.1)).2.1
    have d3 := (box8 ((hbe.block _ (Array.getElem?_eq_some_iff.1 HG3.out.2).1).trans HG3.out.2)).1.2.2.2
    have d4 := (box8 ((hbe.block _ (Array.getElem?_eq_some_iff.1 HG3.out.2).1).trans HG3.out.2)).2.1
    rw [HS1.out] at d3 d4
    clear hbe
    by_cases hil : i < o.kids.length
    · obtain ⟨x, hx⟩ : ∃ x, o.kids[i]? = some x := ⟨_, List.getElem?_eq_getElem hil⟩
      obtain ⟨ad, rfl, c0, c1, hbk⟩ := kid_at (HO3.out.below HBE.out).k hx
      obtain ⟨ad', rfl, e0, e1, hbk'⟩ := kid_at (HO3'.out.below HBE.out).k hx
      clear hx
      go_wp2_with fail
      go_quiet (fail)
      go_wp2_with fail
      go_roundw
      case rel => exact ⟨i + 1, by go_num, hil, pw_below_drewN HBE.out _⟩
      case measure => simp [intOf]; omega
    · go_wp2_with fail
      clear b3 b4 d3 d4
      go_loopw [6] (fun v wz => ∃ i : Nat, v = .int .i64 (i : Int) ∧ i ≤ o.parents.length ∧ Below W3.heap.size W3 wz) (fun v _ => o.parents.length - (intOf v).toNat)
      case atStart => exact ⟨0, rfl, Nat.zero_le _, HBE.out⟩
      case round =>
        obtain ⟨j, rfl, hj, hbe⟩ := hrel
        have HBE := Lib.hid hbe
        have b4 := (box8 ((hbe.block _ (Array.getElem?_eq_some_iff.1 HG3.out.1).1).trans HG3.out.1)).2.1
        have d4 := (box8 ((hbe.block _ (Array.getElem?_eq_some_iff.1 HG3.out.2).1).trans HG3.out.2)).2.1
        rw [HS1.out] at d4
        clear hbe
        by_cases hil : j < o.parents.length
        · obtain ⟨x, hx⟩ : ∃ x, o.parents[j]? = some x := ⟨_, List.getElem?_eq_getElem hil⟩
          obtain ⟨ad, rfl, c0, hbk⟩ := str_at (HO3.out.below HBE.out).p hx
          obtain ⟨ad', rfl, e0, hbk'⟩ := str_at (HO3'.out.below HBE.out).p hx
          clear hx
          go_wp2_with fail
          go_quiet (fail)
          go_wp2_with fail
          go_roundw
          case rel => exact ⟨j + 1, by go_num, hil, pw_below_drewN HBE.out _⟩
          case measure => simp [intOf]; omega
        · go_wp2_with fail
          go_ret
          exact ⟨rfl, HB3.out.trans (HBE.out.mono HB3.out.size)⟩
end Go.Proofs.YtgjlchcfdbmmlaaDoor.PObjectTakes
namespace Go.Proofs.YtgjlchcfdbmmlaaDoor.PObjectTakes
open Go.RowKit Go.Proofs.YtgjlchcfdbmmlaaDoor.Ord Go.Proofs.YtgjlchcfdbmmlaaDoor.Obj Go.Proofs.YtgjlchcfdbmmlaaDoorW.PrintWords Go.Proofs.YtgjlchcfdbmmlaaDoorW.PrintLast Go.Proofs.YtgjlchcfdbmmlaaDoorW.PrintMore
attribute [local irreducible] OpGives
attribute [local go_sem] rdl_const rdl_func rdl_global rdl_nil rdl_cons
attribute [local go_sem high] eqV_run

def runesI : Option Nat → Nat → Int
  | none, _ => -1
  | some k, n => ((n + k : Nat) : Int)
theorem runes_l (s : ByteArray) (hs : s.size ≤ 100000) : ∀ (f i n : Nat), s.size ≤ i + f → n ≤ i → i ≤ 200000 → Ev (fun k => fastiref01_Runes.l0 k s (n : Int) (i : Int)) (runesI (runesF s f i) n)
  | f, i, n, h, hn, hi => by
    by_cases hl : s.size ≤ i
    · rw [runesF_end hl]
      exact Ev.step (f := fun _ => some ((n : Nat) : Int)) (fun k => by rw [fastiref01_Runes.l0, if_neg (by omega)]) (Ev.now _)
    · refine Ev.step (f := fun k => (fastiref01_Width.f k s (i : Int)).bind fun t => if t = 0 then some (-1) else fastiref01_Runes.l0 k s (wrap64 ((n : Int) + 1)) (wrap64 ((i : Int) + t))) (fun k => by rw [fastiref01_Runes.l0, if_pos (by omega)]) ?_
      refine Ev.bind (f := fun k t => if t = 0 then some (-1) else fastiref01_Runes.l0 k s (wrap64 ((n : Int) + 1)) (wrap64 ((i : Int) + t))) (width_ev s i hs) ?_
      by_cases hw : widthN s i = 0
      · rw [runesF_bad (by omega) h hw]
        exact Ev.congr (f := fun _ => some (-1)) (fun k => by rw [if_pos (by omega)]) (Ev.now _)
      · obtain ⟨f', rfl, h', e⟩ := runesF_step (by omega) h (by omega : 0 < widthN s i)
        have hle := widthN_le s i
        rw [e]
        have ih := runes_l s hs f' (i + widthN s i) (n + 1) h' (by omega) (by omega)
        have er : runesI ((runesF s f' (i + widthN s i)).map (· + 1)) n = runesI (runesF s f' (i + widthN s i)) (n + 1) := by
          cases runesF s f' (i + widthN s i) with
          | none => rfl
          | some k => simp only [Option.map_some, runesI]; omega
        rw [er]
        refine Ev.congr (fun k => ?_) ih
        rw [if_neg (by omega), w64 (by omega) (by omega), w64 (by omega) (by omega)]
        rfl
termination_by f => f
theorem runes_ev (s : ByteArray) (hs : s.size ≤ 100000) : Ev (fun k => fastiref01_Runes.f k s) (runesI (runesN s) 0) := runes_l s hs s.size 0 0 (by omega) (by omega) (by omega)
theorem drunes_calls (s : ByteArray) (hs : s.size ≤ 100000) (w : World) : Calls Tryd.prog 72 #[.string s] w fun e w' => e = .returned (.int .i64 (runesI (runesN s) 0)) ∧ Below w.heap.size w w' := by
  obtain ⟨k, hk⟩ := (runes_ev s hs).rounds
  exact (fastiref01_Runes.calls k s _ w hk).mono fun e w' ⟨he, n, hn⟩ => ⟨he, by rw [hn]; exact pw_below_drewN (Below.refl _ _) n⟩
set_option maxHeartbeats 8000000 in
set_option maxRecDepth 100000 in
theorem dright1_calls (k n : Int) (s : ByteArray) (w : World) :
    Calls Tryd.prog 57 #[.agg #[.int .i64 k, .int .i64 n, .string s]] w fun e w' => e = .returned (.bool (okV ⟨k, n, s⟩)) ∧ Below w.heap.size w w' := by
  obtain ⟨W1, hW1⟩ : ∃ W1, W1 = w.alloc (.cells #[.int .i64 k, .int .i64 n, .string s] 53) := ⟨_, rfl⟩
  have hn1 : Below w.heap.size w W1 := by rw [hW1]; exact (Below.refl _ _).alloc (Nat.le_refl _) _
  have hg1 : W1.heap[w.heap.size]? = some (.cells #[.int .i64 k, .int .i64 n, .string s] 53 (0, 0)) := by rw [hW1]; exact alloc_lastV _ _
  have c0 : W1.cell? ⟨w.heap.size, 0, none⟩ = some (.int .i64 k) := by rw [Lib.cell_of_heap hg1]; rfl
  have c1 : W1.cell? ⟨w.heap.size, 1, none⟩ = some (.int .i64 n) := by rw [Lib.cell_of_heap hg1]; rfl
  have c2 : W1.cell? ⟨w.heap.size, 2, none⟩ = some (.string s) := by rw [Lib.cell_of_heap hg1]; rfl
  have HN1 := Lib.hid hn1
  obtain ⟨RV, hRV⟩ : ∃ RV, RV = okV ⟨k, n, s⟩ := ⟨_, rfl⟩
  rw [← hRV]
  unfold okV at hRV
  simp only at hRV
  have HRV := Lib.hid hRV
  have HR := Lib.hid (fun (h : s.size ≤ 40) => drunes_calls s (by omega) W1)
  rw [hW1] at c0 c1 c2
  have HW1 := Lib.hid hW1
  clear hW1 hn1 hg1 hRV
  by_cases h1 : k = 1
  · subst h1
    have HRV := Lib.hid (HRV.out.trans (if_pos rfl))
    by_cases hs : s.size = 0
    · obtain rfl := empty_str hs
      go_enter Tryd.func57, Tryd.ntmps57
      go_wp2_with fail
      go_ret
      exact ⟨by rw [HRV.out]; rfl, (Below.refl _ _).alloc (Nat.le_refl _) _⟩
    · have hs' := full_str hs
      have HF := Lib.hid (show RV = false by rw [HRV.out, decide_eq_false hs])
      go_enter Tryd.func57, Tryd.ntmps57
      go_wp2_with fail
      go_ret
      exact ⟨by rw [HF.out]; rfl, (Below.refl _ _).alloc (Nat.le_refl _) _⟩
  have HRV := Lib.hid (HRV.out.trans (if_neg h1))
  have e1 : (k == 1) = false := by simpa using h1
  by_cases h2 : k = 2
  case neg =>
    have HF := Lib.hid (show RV = false by rw [HRV.out, if_neg h2])
    have e2 : (k == 2) = false := by simpa using h2
    go_enter Tryd.func57, Tryd.ntmps57
    go_wp2_with fail
    go_ret
    exact ⟨by rw [HF.out]; rfl, (Below.refl _ _).alloc (Nat.le_refl _) _⟩
  subst h2
  have HRV := Lib.hid (HRV.out.trans (if_pos rfl))
  by_cases h3 : n = 0
  case neg =>
    have HF := Lib.hid (show RV = false by rw [HRV.out, decide_eq_false h3]; rfl)
    have e3 : (n == 0) = false := by simpa using h3
    go_enter Tryd.func57, Tryd.ntmps57
    go_wp2_with fail
    go_ret
    exact ⟨by rw [HF.out]; rfl, (Below.refl _ _).alloc (Nat.le_refl _) _⟩
  subst h3
  by_cases h4 : s.size ≤ 40
  case neg =>
    have HF := Lib.hid (show RV = false by rw [HRV.out, decide_eq_false h4]; rfl)
    have e4 : decide ((s.size : Int) ≤ 40) = false := decide_eq_false (by omega)
    go_enter Tryd.func57, Tryd.ntmps57
    go_wp2_with fail
    go_ret
    exact ⟨by rw [HF.out]; rfl, (Below.refl _ _).alloc (Nat.le_refl _) _⟩
  have HC := Lib.hid (HR.out h4)
  have hrv : RV = decide (0 ≤ runesI (runesN s) 0) := by
    rw [HRV.out, decide_eq_true h4, decide_eq_true rfl, Bool.true_and, Bool.true_and]
    cases runesN s with
    | none => rfl
    | some k => simp [runesI]
  generalize runesI (runesN s) 0 = q at HC hrv
  have HQ := Lib.hid hrv
  have e4 : (s.size : Int) ≤ 40 := by omega
  clear hrv HR HRV h4
  go_enter Tryd.func57, Tryd.ntmps57
  go_wp2_with fail
  rw [← HW1.out]
  refine HC.out.mono ?_
  rintro e W2 ⟨rfl, hb2⟩
  have HF := Lib.hid (HN1.out.trans (hb2.mono HN1.out.size))
  clear hb2
  go_wp2_with fail
  go_ret
  exact ⟨by rw [HQ.out]; rfl, HF.out⟩
set_option maxRecDepth 100000 in
theorem dspan_calls (a b : Int) (w : World) : Calls Tryd.prog 56 #[.int .i64 a, .int .i64 b] w fun e w' => e = .returned (.bool (isS a b)) ∧ w' = w := by
  unfold isS
  go_enter Tryd.func56, Tryd.ntmps56
  go_wp2
  all_goals
    go_ret
    exact ⟨by first | (simp [*]; done) | (simp [*]; intros; omega), rfl⟩
set_option maxHeartbeats 8000000 in
set_option maxRecDepth 100000 in
theorem rright_calls (l : List S55) (A : Option Addr) (c : Nat) (w : World) (hA : Kd.C k55 w A l.length l) (hc : l.length ≤ c) :
    Calls Tryd.prog 34 #[.slice A l.length c] w fun e w' => e = .returned (.bool (okRows l)) ∧ Below w.heap.size w w' := by
  have HA := Lib.hid hA
  clear hA hc
  obtain ⟨R, hR⟩ : ∃ R, R = okRows l := ⟨_, rfl⟩
  rw [← hR]
  unfold okRows at hR
  by_cases hl : l.length ≤ 64
  case neg =>
    have hl' : (64 : Int) < (l.length : Int) := by omega
    have HF := Lib.hid (show R = false by rw [hR, decide_eq_false hl]; rfl)
    clear hR hl
    go_enter Tryd.func34, Tryd.ntmps34
    go_wp2_with fail
    go_ret
    exact ⟨by rw [HF.out]; rfl, Below.refl _ _⟩
  have hl' : ¬ (64 : Int) < (l.length : Int) := by omega
  rw [decide_eq_true hl, Bool.true_and] at hR
  have HR := Lib.hid (show R = rowsFrom (prevOf l 0) (l.drop 0) from hR)
  clear hR
  go_enter Tryd.func34, Tryd.ntmps34
  go_wp2_with fail
  go_loopw [3] (fun v wr => ∃ i : Nat, v = .int .i64 (i : Int) ∧ i ≤ l.length ∧ Hid (R = rowsFrom (prevOf l i) (l.drop i)) ∧ Below w.heap.size w wr) (fun v _ => l.length - (intOf v).toNat)
  case atStart => exact ⟨0, rfl, Nat.zero_le _, HR, Below.refl _ _⟩
  case round =>
    obtain ⟨i, rfl, hi, hr, hbe⟩ := hrel
    have HBE := Lib.hid hbe
    clear HR
    by_cases hil : i < l.length
    case neg =>
      have hie : i = l.length := by omega
      have hR2 := hr.out
      rw [hie, rowsFrom_end] at hR2
      have HR3 := Lib.hid hR2
      clear hR2 hr hie hbe
      go_wp2_with fail
      go_ret
      exact ⟨by rw [HR3.out]; rfl, HBE.out⟩
    obtain ⟨x, hx⟩ : ∃ x, l[i]? = some x := ⟨_, List.getElem?_eq_getElem hil⟩
    have HCL := Lib.hid (fun W (hW : Below wr.heap.size wr W) => row_at (Kd.C_below HA.out (hbe.trans (hW.mono hbe.size))) hx)
    obtain ⟨ad, rfl, c0, c1, c2, c3, c4, hbk⟩ := row_at (Kd.C_below HA.out hbe) hx
    have hr2 := hr.out
    rw [rowsFrom_step hx] at hr2
    have HR2 := Lib.hid hr2
    have HX := Lib.hid hx
    have HBK := Lib.hid hbk
    clear hr2 hr hx hbe hbk
    cases hIs : isS x.f0 x.f1 with
    | false =>
      have HF := Lib.hid (show R = false by rw [HR2.out, hIs]; rfl)
      go_wp2_with fail
      refine wp_region_quiet_lit (by kernel_rfl) (by kernel_rfl) ?_
      repeat (quiet_step (fail))
      refine wpQuiet_step (fun K hK => ?_)
      go_simp
      apply Exists.intro
      refine ⟨fun _ => Calls.quiet_of_same (dspan_calls _ _ _), hK _ ?_⟩
      clear hK K
      repeat (quiet_step (fail))
      refine wpQuiet_nil ?_
      intro _ hw'
      obtain ⟨nq, hw''⟩ := hw'
      subst hw''
      go_wp2_with fail
      go_ret
      exact ⟨by rw [HF.out]; rfl, pw_below_drewN HBE.out _⟩
    | true =>
      have hR3 := HR2.out
      rw [hIs, Bool.true_and] at hR3
      have HR3 := Lib.hid hR3
      have HIS := Lib.hid hIs
      clear hR3 hIs c0 c1 c2 c3 c4
      go_wp2_with fail
      obtain ⟨ok, hok⟩ : ∃ ok, okV x.f2 = ok := ⟨_, rfl⟩
      have HOK := Lib.hid hok
      clear hok
      have hix : (i : Int) < (l.length : Int) := by omega
      refine' wp_region_factsW (sz := 78) (S := (fun _ W => Below wr.heap.size wr W)) (fun _ W W' => Below W.heap.size W W') [eqM _, eqM _, eqM _, eqM _, eqM (.int .i64 x.f0), eqM _, eqM _, eqM _, eqM _, eqM (.int .i64 x.f1), eqM (.bool true), eqM _, eqM _, eqM _, eqM _, eqM _, eqM _, eqM (.agg #[.int .i64 x.f2.f0, .int .i64 x.f2.f1, .string x.f2.f2]), eqM (.bool ok), eqM _, eqM _] (by kernel_rfl) (by kernel_rfl) rfl (guardsM_of [(12, false)] (n := 21) rfl (by kernel_rfl) ⟨fun _ _ h => h, trivial⟩) ?hst ?h0 (Ord.stepsW_cons ?s0 (Ord.stepsW_cons ?s1 (Ord.stepsW_cons ?s2 (Ord.stepsW_cons ?s3 (Ord.stepsW_cons ?s4 (Ord.stepsW_cons ?s5 (Ord.stepsW_cons ?s6 (Ord.stepsW_cons ?s7 (Ord.stepsW_cons ?s8 (Ord.stepsW_cons ?s9 (Ord.stepsW_cons ?s10 (Ord.stepsW_cons ?s11 (Ord.stepsW_cons ?s12 (Ord.stepsW_cons ?s13 (Ord.stepsW_cons ?s14 (Ord.stepsW_cons ?s15 (Ord.stepsW_cons ?s16 (Ord.stepsW_cons ?s17 (Ord.stepsW_cons ?s18 (Ord.stepsW_cons ?s19 (Ord.stepsW_cons ?s20 (Ord.stepsW_nil)))))))))))))))))))))) ?fin
      case s0 =>
        intro g W L hL hSW hd
        try simp only [Nat.zero_add, Nat.reduceAdd] at hd ⊢
        with_reducible refine OpGives.pre_reads [] 78 ?_ ?_ ?_
        · rfl
        · kernel_rfl
        simp only [List.map_cons, List.map_nil]
        refine OpGives.val (w' := W) ?_ ⟨Below.refl _ _, rfl, hSW⟩
        go_simp
        try with_reducible rfl
      case s1 =>
        intro g W L hL hSW hd
        try simp only [Nat.zero_add, Nat.reduceAdd] at hd ⊢
        with_reducible refine OpGives.pre_reads [] 78 ?_ ?_ ?_
        · rfl
        · kernel_rfl
        simp only [List.map_cons, List.map_nil]
        refine OpGives.val (w' := W) ?_ ⟨Below.refl _ _, rfl, hSW⟩
        go_simp
        try with_reducible rfl
      case s2 =>
        intro g W L hL hSW hd
        try simp only [Nat.zero_add, Nat.reduceAdd] at hd ⊢
        have h0 : g 0 = _ := hd 0 (by decide) (by kernel_rfl)
        have h1 : g 1 = _ := hd 1 (by decide) (by kernel_rfl)
        with_reducible refine OpGives.pre_reads [(13, 0), (14, 1)] 78 ?_ ?_ ?_
        · rfl
        · kernel_rfl
        simp only [List.map_cons, List.map_nil]
        refine OpGives.val (w' := W) ?_ ⟨Below.refl _ _, rfl, hSW⟩
        go_simp
        try with_reducible rfl
      case s3 =>
        intro g W L hL hSW hd
        try simp only [Nat.zero_add, Nat.reduceAdd] at hd ⊢
        have h2 : g 2 = _ := hd 2 (by decide) (by kernel_rfl)
        with_reducible refine OpGives.pre_reads [(15, 2)] 78 ?_ ?_ ?_
        · rfl
        · kernel_rfl
        simp only [List.map_cons, List.map_nil]
        refine OpGives.val (w' := W) ?_ ⟨Below.refl _ _, rfl, hSW⟩
        go_simp
        try with_reducible rfl
      case s4 =>
        intro g W L hL hSW hd
        try simp only [Nat.zero_add, Nat.reduceAdd] at hd ⊢
        have h3 : g 3 = _ := hd 3 (by decide) (by kernel_rfl)
        with_reducible refine OpGives.pre_reads [(16, 3)] 78 ?_ ?_ ?_
        · rfl
        · kernel_rfl
        simp only [List.map_cons, List.map_nil]
        obtain ⟨ad', e, z0, z1, z2, z3, z4, zb⟩ := HCL.out W hSW; cases e; refine OpGives.val (v := .int .i64 x.f0) (w' := W) ?_ ⟨Below.refl _ _, rfl, hSW⟩; go_simp
      case s5 =>
        intro g W L hL hSW hd
        try simp only [Nat.zero_add, Nat.reduceAdd] at hd ⊢
        with_reducible refine OpGives.pre_reads [] 78 ?_ ?_ ?_
        · rfl
        · kernel_rfl
        simp only [List.map_cons, List.map_nil]
        refine OpGives.val (w' := W) ?_ ⟨Below.refl _ _, rfl, hSW⟩
        go_simp
        try with_reducible rfl
      case s6 =>
        intro g W L hL hSW hd
        try simp only [Nat.zero_add, Nat.reduceAdd] at hd ⊢
        with_reducible refine OpGives.pre_reads [] 78 ?_ ?_ ?_
        · rfl
        · kernel_rfl
        simp only [List.map_cons, List.map_nil]
        refine OpGives.val (w' := W) ?_ ⟨Below.refl _ _, rfl, hSW⟩
        go_simp
        try with_reducible rfl
      case s7 =>
        intro g W L hL hSW hd
        try simp only [Nat.zero_add, Nat.reduceAdd] at hd ⊢
        have h5 : g 5 = _ := hd 5 (by decide) (by kernel_rfl)
        have h6 : g 6 = _ := hd 6 (by decide) (by kernel_rfl)
        with_reducible refine OpGives.pre_reads [(18, 5), (19, 6)] 78 ?_ ?_ ?_
        · rfl
        · kernel_rfl
        simp only [List.map_cons, List.map_nil]
        refine OpGives.val (w' := W) ?_ ⟨Below.refl _ _, rfl, hSW⟩
        go_simp
        try with_reducible rfl
      case s8 =>
        intro g W L hL hSW hd
        try simp only [Nat.zero_add, Nat.reduceAdd] at hd ⊢
        have h7 : g 7 = _ := hd 7 (by decide) (by kernel_rfl)
        with_reducible refine OpGives.pre_reads [(20, 7)] 78 ?_ ?_ ?_
        · rfl
        · kernel_rfl
        simp only [List.map_cons, List.map_nil]
        refine OpGives.val (w' := W) ?_ ⟨Below.refl _ _, rfl, hSW⟩
        go_simp
        try with_reducible rfl
      case s9 =>
        intro g W L hL hSW hd
        try simp only [Nat.zero_add, Nat.reduceAdd] at hd ⊢
        have h8 : g 8 = _ := hd 8 (by decide) (by kernel_rfl)
        with_reducible refine OpGives.pre_reads [(21, 8)] 78 ?_ ?_ ?_
        · rfl
        · kernel_rfl
        simp only [List.map_cons, List.map_nil]
        obtain ⟨ad', e, z0, z1, z2, z3, z4, zb⟩ := HCL.out W hSW; cases e; refine OpGives.val (v := .int .i64 x.f1) (w' := W) ?_ ⟨Below.refl _ _, rfl, hSW⟩; go_simp
      case s10 =>
        intro g W L hL hSW hd
        try simp only [Nat.zero_add, Nat.reduceAdd] at hd ⊢
        have h4 : g 4 = _ := hd 4 (by decide) (by kernel_rfl)
        have h9 : g 9 = _ := hd 9 (by decide) (by kernel_rfl)
        with_reducible refine OpGives.pre_reads [(17, 4), (22, 9)] 78 ?_ ?_ ?_
        · rfl
        · kernel_rfl
        simp only [List.map_cons, List.map_nil]
        refine OpGives.call (f := 56) (args := #[.int .i64 x.f0, .int .i64 x.f1]) (w' := W) (by go_simp) ((dspan_calls _ _ W).mono fun e W' ⟨he, hb⟩ => by subst hb; rw [HIS.out] at he; exact ⟨_, he, Below.refl _ _, rfl, hSW⟩)
      case s11 =>
        intro g W L hL hSW hd
        try simp only [Nat.zero_add, Nat.reduceAdd] at hd ⊢
        have h10 : g 10 = _ := hd 10 (by decide) (by kernel_rfl)
        with_reducible refine OpGives.pre_reads [(23, 10)] 78 ?_ ?_ ?_
        · rfl
        · kernel_rfl
        simp only [List.map_cons, List.map_nil]
        refine OpGives.val (w' := W) ?_ ⟨Below.refl _ _, rfl, hSW⟩
        go_simp
        try with_reducible rfl
      case s12 =>
        intro g W L hL hSW hd
        try simp only [Nat.zero_add, Nat.reduceAdd] at hd ⊢
        have h11 : g 11 = _ := hd 11 (by decide) (by kernel_rfl)
        with_reducible refine OpGives.pre_reads [(24, 11)] 78 ?_ ?_ ?_
        · rfl
        · kernel_rfl
        simp only [List.map_cons, List.map_nil]
        refine OpGives.val (w' := W) ?_ ⟨Below.refl _ _, rfl, hSW⟩
        go_simp
        try with_reducible rfl
      case s13 =>
        intro g W L hL hSW hd
        try simp only [Nat.zero_add, Nat.reduceAdd] at hd ⊢
        with_reducible refine OpGives.pre_reads [] 78 ?_ ?_ ?_
        · rfl
        · kernel_rfl
        simp only [List.map_cons, List.map_nil]
        refine OpGives.val (w' := W) ?_ ⟨Below.refl _ _, rfl, hSW⟩
        go_simp
        try with_reducible rfl
      case s14 =>
        intro g W L hL hSW hd
        try simp only [Nat.zero_add, Nat.reduceAdd] at hd ⊢
        with_reducible refine OpGives.pre_reads [] 78 ?_ ?_ ?_
        · rfl
        · kernel_rfl
        simp only [List.map_cons, List.map_nil]
        refine OpGives.val (w' := W) ?_ ⟨Below.refl _ _, rfl, hSW⟩
        go_simp
        try with_reducible rfl
      case s15 =>
        intro g W L hL hSW hd
        try simp only [Nat.zero_add, Nat.reduceAdd] at hd ⊢
        have h13 : g 13 = _ := hd 13 (by decide) (by kernel_rfl)
        have h14 : g 14 = _ := hd 14 (by decide) (by kernel_rfl)
        with_reducible refine OpGives.pre_reads [(26, 13), (27, 14)] 78 ?_ ?_ ?_
        · rfl
        · kernel_rfl
        simp only [List.map_cons, List.map_nil]
        refine OpGives.val (w' := W) ?_ ⟨Below.refl _ _, rfl, hSW⟩
        go_simp
        try with_reducible rfl
      case s16 =>
        intro g W L hL hSW hd
        try simp only [Nat.zero_add, Nat.reduceAdd] at hd ⊢
        have h15 : g 15 = _ := hd 15 (by decide) (by kernel_rfl)
        with_reducible refine OpGives.pre_reads [(28, 15)] 78 ?_ ?_ ?_
        · rfl
        · kernel_rfl
        simp only [List.map_cons, List.map_nil]
        refine OpGives.val (w' := W) ?_ ⟨Below.refl _ _, rfl, hSW⟩
        go_simp
        try with_reducible rfl
      case s17 =>
        intro g W L hL hSW hd
        try simp only [Nat.zero_add, Nat.reduceAdd] at hd ⊢
        have h16 : g 16 = _ := hd 16 (by decide) (by kernel_rfl)
        with_reducible refine OpGives.pre_reads [(29, 16)] 78 ?_ ?_ ?_
        · rfl
        · kernel_rfl
        simp only [List.map_cons, List.map_nil]
        obtain ⟨ad', e, z0, z1, z2, z3, z4, zb⟩ := HCL.out W hSW; cases e; refine OpGives.val (v := .agg #[.int .i64 x.f2.f0, .int .i64 x.f2.f1, .string x.f2.f2]) (w' := W) ?_ ⟨Below.refl _ _, rfl, hSW⟩; go_simp
      case s18 =>
        intro g W L hL hSW hd
        try simp only [Nat.zero_add, Nat.reduceAdd] at hd ⊢
        have h17 : g 17 = _ := hd 17 (by decide) (by kernel_rfl)
        with_reducible refine OpGives.pre_reads [(30, 17)] 78 ?_ ?_ ?_
        · rfl
        · kernel_rfl
        simp only [List.map_cons, List.map_nil]
        refine OpGives.call (f := 57) (args := #[.agg #[.int .i64 x.f2.f0, .int .i64 x.f2.f1, .string x.f2.f2]]) (w' := W) (by go_simp) ((dright1_calls _ _ _ W).mono fun e W' ⟨he, hb⟩ => by rw [show okV ⟨x.f2.f0, x.f2.f1, x.f2.f2⟩ = ok from HOK.out] at he; exact ⟨_, he, hb, rfl, hSW.trans (hb.mono hSW.size)⟩)
      case s19 =>
        intro g W L hL hSW hd
        try simp only [Nat.zero_add, Nat.reduceAdd] at hd ⊢
        have h18 : g 18 = _ := hd 18 (by decide) (by kernel_rfl)
        with_reducible refine OpGives.pre_reads [(31, 18)] 78 ?_ ?_ ?_
        · rfl
        · kernel_rfl
        simp only [List.map_cons, List.map_nil]
        refine OpGives.val (w' := W) ?_ ⟨Below.refl _ _, rfl, hSW⟩
        go_simp
        try with_reducible rfl
      case s20 =>
        intro g W L hL hSW hd
        try simp only [Nat.zero_add, Nat.reduceAdd] at hd ⊢
        have h12 : g 12 = _ := hd 12 (by decide) (by kernel_rfl)
        have h19 : g 19 = _ := hd 19 (by decide) (by kernel_rfl)
        with_reducible refine OpGives.pre_reads [(25, 12), (32, 19)] 78 ?_ ?_ ?_
        · rfl
        · kernel_rfl
        simp only [List.map_cons, List.map_nil]
        refine OpGives.val (w' := W) ?_ ⟨Below.refl _ _, rfl, hSW⟩
        go_simp
        try with_reducible rfl
      case hst =>
        refine fun i j v w w' _ h hR => st_of (R := fun W W' => Below W.heap.size W W') ?_ i v w w' h hR
        repeat' first
          | exact trivial
          | with_reducible refine StL.eq ?_
      case h0 => exact (Below.refl _ _).drew
      case fin =>
        intro v W L hL hSW hf
        have h20 : v 20 = _ := hf 20 (Nat.lt_of_lt_of_eq (by decide : 20 < 21) rfl)
        clear hf
        generalize hF : Ord.pre _ _ v _ = F'
        rw [Ord.pre_lit [some 13, some 14, some 15, some 16, some 17, some 18, some 19, some 20, some 21, some 22, some 23, some 24, some 25, some 26, some 27, some 28, some 29, some 30, some 31, some 32, some 33]
          (by kernel_rfl)] at hF
        simp only [Ord.puts, Nat.zero_add, Nat.reduceAdd] at hF
        subst hF
        rw [h20]
        have HSW := Lib.hid hSW
        clear hSW h20
        refine wpAny_done (by kernel_rfl) ?_ _
        try simp only [List.getElem_toArray, List.getElem_cons_succ, List.getElem_cons_zero]
        go_frame
        cases ok with
        | false =>
          have HF := Lib.hid (show R = false by rw [HR3.out, HOK.out]; rfl)
          go_wp2_with fail
          go_ret
          exact ⟨by rw [HF.out]; rfl, HBE.out.trans (HSW.out.mono HBE.out.size)⟩
        | true =>
          have hR4 := HR3.out
          rw [HOK.out, Bool.true_and] at hR4
          have HR4 := Lib.hid hR4
          clear hR4
          obtain ⟨ad', e', c0, c1, c2, c3, c4, hbk⟩ := HCL.out W HSW.out
          cases e'
          clear hbk
          go_wp2_with fail
          rcases Nat.eq_zero_or_pos i with hi0 | hi0
          · subst hi0
            have HR5 := Lib.hid (show R = rowsFrom (prevOf l 1) (l.drop 1) from HR4.out)
            go_quiet (fail)
            go_wp2_with fail
            go_roundw
            case rel => exact ⟨1, rfl, hil, HR5, pw_below_drewN (HBE.out.trans (HSW.out.mono HBE.out.size)) _⟩
            case measure => simp [intOf]; omega
          obtain ⟨k, rfl⟩ : ∃ k, i = k + 1 := ⟨i - 1, by omega⟩
          obtain ⟨q, hq⟩ : ∃ q, l[k]? = some q := ⟨_, List.getElem?_eq_getElem (by omega)⟩
          obtain ⟨ad', e', b0, b1, b2, b3, b4, hbk⟩ := row_at (Kd.C_below HA.out (HBE.out.trans (HSW.out.mono HBE.out.size))) hq
          cases e'
          have hpv : prevOf l (k + 1) = some q := by unfold prevOf; rw [if_neg (by omega), show k + 1 - 1 = k from rfl, hq]
          have hR5 := HR4.out
          rw [hpv, nextOk_some] at hR5
          have HR5 := Lib.hid hR5
          clear hR5 hpv hq hbk
          have hgt : decide ((0 : Int) < (k : Int) + 1) = true := decide_eq_true (by omega)
          have hlk : (k : Int) < (l.length : Int) := by omega
          have hwk : IntKind.i64.wrap (k : Int) = (k : Int) := by rw [IntKind.wrap_i64]; omega
          by_cases hlt : x.f0 < q.f1
          · have hlt' := decide_eq_true hlt
            have HF := Lib.hid (show R = false by rw [HR5.out, hlt']; rfl)
            go_quiet (fail)
            go_wp2_with fail
            go_ret
            exact ⟨by rw [HF.out]; rfl, pw_below_drewN (HBE.out.trans (HSW.out.mono HBE.out.size)) _⟩
          have hlt' := decide_eq_false hlt
          have HR6 := Lib.hid (show R = (!(x.f0 == q.f1 && sameV x.f2 q.f2) && rowsFrom (prevOf l (k + 1 + 1)) (l.drop (k + 1 + 1))) by rw [HR5.out, hlt', Bool.false_or])
          by_cases heq : x.f0 = q.f1
          case neg =>
            have heqb : (x.f0 == q.f1) = false := by simpa using heq
            have HR7 := Lib.hid (HR6.out.trans (by rw [heqb]))
            clear heq
            go_quiet (fail)
            go_wp2_with fail
            go_roundw
            case rel => exact ⟨k + 1 + 1, by go_num, hil, HR7, pw_below_drewN (HBE.out.trans (HSW.out.mono HBE.out.size)) _⟩
            case measure => simp [intOf]; omega
          have heqb : (x.f0 == q.f1) = true := by simpa using heq
          clear heq
          cases hsv : (x.f2.f0 == q.f2.f0 && (x.f2.f1 == q.f2.f1 && (x.f2.f2.toList == q.f2.f2.toList))) with
          | true =>
            have HF := Lib.hid (show R = false by rw [HR6.out, heqb, show sameV x.f2 q.f2 = true from hsv]; rfl)
            go_quiet (fail)
            go_wp2_with fail
            go_ret
            exact ⟨by rw [HF.out]; rfl, pw_below_drewN (HBE.out.trans (HSW.out.mono HBE.out.size)) _⟩
          | false =>
            have HR7 := Lib.hid (HR6.out.trans (by rw [heqb, show sameV x.f2 q.f2 = false from hsv]))
            go_quiet (fail)
            go_wp2_with fail
            go_roundw
            case rel => exact ⟨k + 1 + 1, by go_num, hil, HR7, pw_below_drewN (HBE.out.trans (HSW.out.mono HBE.out.size)) _⟩
            case measure => simp [intOf]; omega
end Go.Proofs.YtgjlchcfdbmmlaaDoor.PObjectTakes
namespace Go.Proofs.YtgjlchcfdbmmlaaDoor.PObjectTakes
open Go.RowKit Go.Proofs.YtgjlchcfdbmmlaaDoorW.PrintWords Go.Proofs.YtgjlchcfdbmmlaaDoorW.PrintLast Go.Proofs.YtgjlchcfdbmmlaaDoorW.PrintMore

/-- The writer in block b holds these bytes. -/
abbrev Wr (B b : Nat) (p : Value) (bs : List Value) (w : World) : Prop := Lib.BuilderAt 94 5 B b p bs w
abbrev IsWr (B b : Nat) (bs : List Value) (w : World) : Prop := Lib.IsBuilder 94 5 B b bs w
theorem sizeBuilder : (Tryd.prog.info? 92).map (·.size) = some 2 := by kernel_rfl
theorem liesWriter : liesAt Tryd.prog Tryd.prog.depth 94 (2 / Tryd.prog.cellsOf 94) 0 92 1 = true := by kernel_rfl
theorem infoByte : (Tryd.prog.info? 5).map (fun i => (i.zero, i.size, i.bytes)) = some (some (.int .u8 0), 1, 1) := by kernel_rfl

/-- From w to w' nothing that was there has turned but block b and rows of bytes. -/
structure ModW (b : Nat) (w w' : World) : Prop where
  size : w.heap.size ≤ w'.heap.size
  block : ∀ k, k < w.heap.size → k ≠ b → (∀ c f, w.heap[k]? ≠ some (.cells c 5 f)) → w'.heap[k]? = w.heap[k]?
theorem ModW.refl (b : Nat) (w : World) : ModW b w w := ⟨Nat.le_refl _, fun _ _ _ _ => rfl⟩
theorem ModW.trans {b : Nat} {w w1 w2 : World} (h : ModW b w w1) (k : ModW b w1 w2) : ModW b w w2 :=
  ⟨Nat.le_trans h.size k.size, fun i hi hb ht => by
    have e := h.block i hi hb ht
    exact (k.block i (Nat.lt_of_lt_of_le hi h.size) hb (by rw [e]; exact ht)).trans e⟩
theorem ModW.of_grown {b : Nat} {w w' : World} {row : Option Nat} (h : w.grownBy w' row) (ht : ∀ k, row = some k → ∃ c, w.heap[k]? = some (.cells c 5 (0, 0))) : ModW b w w' :=
  ⟨h.size, fun k hk _ hn => h.block k hk (fun e => by obtain ⟨c, hc⟩ := ht k e.symm; exact hn _ _ hc)⟩
theorem ModW.setCell (b : Nat) (w : World) (j : Nat) (v : Value) : ModW b w (w.setCell ⟨b, j, none⟩ v) :=
  ⟨by simp [World.setCell], fun k _ hb _ => Below.heap_setCell _ _ _ _ hb⟩
theorem ModW.of_below {b : Nat} {w w' : World} (h : Below w.heap.size w w') : ModW b w w' := ⟨h.size, fun k hk _ _ => h.block k hk⟩
theorem ModW.drew {b : Nat} {w w' : World} (h : ModW b w w') : ModW b w w'.drew := ⟨h.size, h.block⟩

set_option maxHeartbeats 1000000 in
set_option maxRecDepth 100000 in
theorem copyCheck_used (b : Nat) (w : World) (h0 : w.cell? ⟨b, 0, none⟩ = some (.pointer (some ⟨b, 0, none⟩))) :
    Calls Tryd.prog 75 #[.pointer (some ⟨b, 0, none⟩)] w fun e w' => e = .returned (.tuple #[]) ∧ w' = w := by
  obtain ⟨j, hj, _⟩ := Option.map_eq_some_iff.1 sizeBuilder
  go_enter Tryd.func75, Tryd.ntmps75
  go_wp2
  rw [Lib.run_neq_ptr_same w _ Tryd.underlying89 hj]
  go_wp2
  go_end0
  exact ⟨rfl, rfl⟩

set_option maxHeartbeats 1000000 in
set_option maxRecDepth 100000 in
theorem copyCheck_fresh (b : Nat) (w : World) (h0 : w.cell? ⟨b, 0, none⟩ = some (.pointer none)) (hsh : w.shape? b = some (94, 2)) (hfz : w.frozen? ⟨b, 0, none⟩ = false) :
    Calls Tryd.prog 75 #[.pointer (some ⟨b, 0, none⟩)] w fun e w' => e = .returned (.tuple #[]) ∧ w' = w.setCell ⟨b, 0, none⟩ (.pointer (some ⟨b, 0, none⟩)) := by
  obtain ⟨j, hj, hjs⟩ := Option.map_eq_some_iff.1 sizeBuilder
  go_enter Tryd.func75, Tryd.ntmps75
  go_wp2
  rw [Lib.run_to_unsafe w ⟨b, 0, none⟩ Tryd.underlying89 Tryd.underlying164 hj (by rw [hjs]; decide) hsh (Nat.zero_lt_succ 1)]
  simp only [Result.andThen]
  rw [Oper.upon_value]
  go_wp2
  rw [run_callFunc_extern Tryd.func85 (by kernel_rfl) (by kernel_rfl) (by kernel_rfl) (e := Extern.AbiNoEscape.same) (by kernel_rfl)]
  rw [Lib.run_noEscape]
  simp only [Result.andThen]
  rw [Oper.upon_value]
  go_wp2
  rw [Lib.run_from_unsafe w ⟨b, 0, none⟩ Tryd.underlying164 Tryd.underlying89 hj hsh liesWriter]
  simp only [Result.andThen]
  rw [Oper.upon_value]
  go_wp2
  go_end0
  exact ⟨rfl, rfl⟩

theorem copyCheck (B b : Nat) (bs : List Value) (w : World) (h : IsWr B b bs w) :
    Calls Tryd.prog 75 #[.pointer (some ⟨b, 0, none⟩)] w fun e w' => e = .returned (.tuple #[]) ∧ (Wr B b (.pointer (some ⟨b, 0, none⟩)) bs w' ∧ Below B w w' ∧ ModW b w w') := by
  rcases h with h | h
  · refine (copyCheck_fresh b w h.cell0 h.shape h.frozen0).mono ?_
    rintro e w' ⟨rfl, rfl⟩
    exact ⟨rfl, h.used _, (Below.refl B w).setCell (p := ⟨b, 0, none⟩) h.1 _, ModW.setCell b w 0 _⟩
  · refine (copyCheck_used b w h.cell0).mono ?_
    rintro e w' ⟨rfl, rfl⟩
    exact ⟨rfl, h, Below.refl B _, ModW.refl b _⟩

set_option maxHeartbeats 2000000 in
set_option maxRecDepth 100000 in
theorem writeByte (B b : Nat) (bs : List Value) (c : Int) (w : World) (h : IsWr B b bs w) (hlen : bs.length + 1 ≤ 140737488355328) (hBw : B ≤ w.heap.size) :
    Calls Tryd.prog 74 #[.pointer (some ⟨b, 0, none⟩), .int .u8 c] w fun e w' => e = .returned .nilIface ∧ (Wr B b (.pointer (some ⟨b, 0, none⟩)) (bs ++ [.int .u8 c]) w' ∧ Below B w w' ∧ ModW b w w') := by
  obtain ⟨i0, hi, hz0, hz1, hz2⟩ := info_parts infoByte
  have HC := Lib.hid (copyCheck B b bs w h)
  go_enter Tryd.func74, Tryd.ntmps74
  go_wp2_with (go_at_call 75; refine HC.out.mono ?_)
  rintro e w1 ⟨rfl, h1, hb1, hm1⟩
  obtain ⟨hB, v, hbk, hown, hne⟩ := h1
  have c0 : w1.cell? ⟨b, 0, none⟩ = some (.pointer (some ⟨b, 0, none⟩)) := by rw [Lib.cell_of_heap hbk]; rfl
  have c1 : w1.cell? ⟨b, 1, none⟩ = some v := by rw [Lib.cell_of_heap hbk]; rfl
  go_wp2_with (at_builtin; refine wpList_append_own _ rfl _ _ 90 rfl B 5 i0 (.int .u8 0) 1 1 Tryd.underlying90 hi hz0 hz1 hz2 rfl (by decide) _ _ _ rfl (hown.alloc _) ⟨w1.heap.size, 0, none⟩ 1 1 [.int .u8 c] rfl rfl ?c1 ?c2 ?c3 ?c4 ?c5 ?_)
  case c1 =>
    intro j u hj
    match j, hj with
    | 0, hj => simp at hj; subst hj; simp [Addr.add]
  case c2 => intro u hu; simp at hu; subst hu; rfl
  case c3 => unfold maxLen; omega
  case c4 => omega
  case c5 => have := hb1.size; simp; omega
  intro v' w2 hown' hgrow _
  have hlt : b < w1.heap.size := by
    rcases Nat.lt_or_ge b w1.heap.size with h' | h'
    · exact h'
    · simp [Array.getElem?_eq_none h'] at hbk
  have hb2 : w2.heap[b]? = some (.cells #[.pointer (some ⟨b, 0, none⟩), v] 94 (0, 0)) := by
    rw [hgrow.block b (by simp; omega) (fun e => hne e.symm), Lib.alloc_old w1 _ b hlt]
    exact hbk
  have d0 : w2.cell? ⟨b, 0, none⟩ = some (.pointer (some ⟨b, 0, none⟩)) := by rw [Lib.cell_of_heap hb2]; rfl
  have d1 : w2.cell? ⟨b, 1, none⟩ = some v := by rw [Lib.cell_of_heap hb2]; rfl
  have f1 : w2.frozen? ⟨b, 1, none⟩ = false := Lib.frozen_of_heap hb2 1
  obtain ⟨g, cap, rfl⟩ : ∃ g cap, v' = .slice (some ⟨g, 0, none⟩) (bs.length + 1) cap := by
    rcases hown'.2 with ⟨_, h0⟩ | ⟨g, cap, cur, hv, _⟩
    · omega
    · exact ⟨g, cap, hv⟩
  go_wp2
  go_ret
  refine ⟨rfl, ?_, ?_, ?_⟩
  · exact Lib.BuilderAt.put (T := 94) (e := 5) hB hb2 (bs' := bs ++ [.int .u8 c]) (by simpa using hown') (by decide)
  · exact ((hb1.alloc (by have := hb1.size; omega) _).grown hgrow (by have := hb1.size; simp; omega) (fun k hk => (hown.lt k hk).1)).setCell (p := ⟨b, 1, none⟩) hB _
  · exact ((hm1.trans (ModW.of_below ((Below.refl _ _).alloc (Nat.le_refl _) _))).trans (ModW.of_grown hgrow (fun k hk => own_typed (hown.alloc _) k hk))).trans (ModW.setCell b _ 1 _)

set_option maxHeartbeats 2000000 in
set_option maxRecDepth 100000 in
theorem writeString (B b : Nat) (bs : List Value) (s : ByteArray) (w : World) (h : IsWr B b bs w) (hlen : bs.length + s.size ≤ 140737488355328) (hBw : B ≤ w.heap.size) :
    Calls Tryd.prog 64 #[.pointer (some ⟨b, 0, none⟩), .string s] w fun e w' => e = .returned (.tuple #[.int .i64 s.size, .nilIface]) ∧ (Wr B b (.pointer (some ⟨b, 0, none⟩)) (bs ++ Lib.strCells s) w' ∧ Below B w w' ∧ ModW b w w') := by
  obtain ⟨i0, hi, hz0, hz1, hz2⟩ := info_parts infoByte
  have HC := Lib.hid (copyCheck B b bs w h)
  go_enter Tryd.func64, Tryd.ntmps64
  go_wp2_with (go_at_call 75; refine HC.out.mono ?_)
  rintro e w1 ⟨rfl, h1, hb1, hm1⟩
  obtain ⟨hB, v, hbk, hown, hne⟩ := h1
  have c0 : w1.cell? ⟨b, 0, none⟩ = some (.pointer (some ⟨b, 0, none⟩)) := by rw [Lib.cell_of_heap hbk]; rfl
  have c1 : w1.cell? ⟨b, 1, none⟩ = some v := by rw [Lib.cell_of_heap hbk]; rfl
  go_wp2_with (at_builtin; refine Lib.wpList_append_own_string _ rfl _ _ 90 9 rfl B 5 i0 Tryd.underlying90 Tryd.underlying9 hi hz0 hz1 hz2 _ _ _ rfl hown s rfl ?c3 ?c4 ?c5 ?_)
  case c3 => unfold maxLen; omega
  case c4 => omega
  case c5 => have := hb1.size; omega
  intro v' w2 hown' hgrow _
  have hlt : b < w1.heap.size := by
    rcases Nat.lt_or_ge b w1.heap.size with h' | h'
    · exact h'
    · simp [Array.getElem?_eq_none h'] at hbk
  have hb2 : w2.heap[b]? = some (.cells #[.pointer (some ⟨b, 0, none⟩), v] 94 (0, 0)) := by
    rw [hgrow.block b hlt (fun e => hne e.symm)]
    exact hbk
  have d0 : w2.cell? ⟨b, 0, none⟩ = some (.pointer (some ⟨b, 0, none⟩)) := by rw [Lib.cell_of_heap hb2]; rfl
  have d1 : w2.cell? ⟨b, 1, none⟩ = some v := by rw [Lib.cell_of_heap hb2]; rfl
  have f1 : w2.frozen? ⟨b, 1, none⟩ = false := Lib.frozen_of_heap hb2 1
  obtain ⟨ao, n', cap, rfl⟩ : ∃ ao n' cap, v' = .slice ao n' cap := by
    rcases hown'.2 with ⟨hv, _⟩ | ⟨g, cap, cur, hv, _⟩
    · exact ⟨_, _, _, hv⟩
    · exact ⟨_, _, _, hv⟩
  go_wp2
  go_ret2
  refine ⟨rfl, ?_, ?_, ?_⟩
  · exact Lib.BuilderAt.put (T := 94) (e := 5) hB hb2 (bs' := bs ++ Lib.strCells s) (by simpa [Lib.strCells_length] using hown') (by decide)
  · exact (hb1.grown hgrow (by have := hb1.size; omega) (fun k hk => (hown.lt k hk).1)).setCell (p := ⟨b, 1, none⟩) hB _
  · exact (hm1.trans (ModW.of_grown hgrow (fun k hk => own_typed hown k hk))).trans (ModW.setCell b _ 1 _)

set_option maxHeartbeats 1000000 in
set_option maxRecDepth 100000 in
theorem builderString (B b : Nat) (l : List UInt8) (w : World) (h : IsWr B b (Lib.byteCells l) w) (h0 : l ≠ []) :
    Calls Tryd.prog 39 #[.pointer (some ⟨b, 0, none⟩)] w fun e w' => e = .returned (.string ⟨l.toArray⟩) ∧ Below B w w' := by
  obtain ⟨p, hB, v, hbk, hown, hne⟩ : ∃ p, Wr B b p (Lib.byteCells l) w := by
    rcases h with h | h
    · exact ⟨_, h⟩
    · exact ⟨_, h⟩
  have hl0 : l.length ≠ 0 := by simpa using h0
  rw [Lib.byteCells_length] at hown
  obtain ⟨g, cap, cur, rfl, hbg, hg, hnc, hcm, hcs, htake⟩ : ∃ g cap cur, v = .slice (some ⟨g, 0, none⟩) l.length cap ∧ B ≤ g ∧ w.heap[g]? = some (.cells cur 5 (0, 0)) ∧ l.length ≤ cap ∧ cap ≤ maxLen ∧ cur.size = cap * 1 ∧ cur.toList.take (l.length * 1) = Lib.byteCells l := by
    rcases hown.2 with ⟨_, hz⟩ | ⟨g, cap, cur, hv, r⟩
    · exact absurd hz hl0
    · exact ⟨g, cap, cur, hv, r⟩
  have c1 : w.drew.cell? ⟨b, 1, none⟩ = some (.slice (some ⟨g, 0, none⟩) l.length cap) := by
    have : w.drew.heap[b]? = some (.cells #[p, .slice (some ⟨g, 0, none⟩) l.length cap] 94 (0, 0)) := hbk
    rw [Lib.cell_of_heap this]; rfl
  have hSD : (Builtin.unsafeSliceData_ #[90] 130 #[.slice (some ⟨g, 0, none⟩) l.length cap]).run Tryd.prog w.drew = .ok (.pointer (some ⟨g, 0, none⟩)) w.drew :=
    Lib.run_unsafeSliceData_row _ _ _ _ _ _ (by omega)
  have hUS : (Builtin.unsafeString_ #[130, 3] 9 #[.pointer (some ⟨g, 0, none⟩), .int .i64 l.length]).run Tryd.prog w.drew = .ok (.string ⟨l.toArray⟩) (w.drew.freeze ⟨g, 0, none⟩ l.length) := by
    refine Lib.run_unsafeString_row w.drew 130 3 9 5 Tryd.underlying130 (by kernel_rfl) g cur.size (by have hg' : w.drew.heap[g]? = some (.cells cur 5 (0, 0)) := hg; simp [World.shape?, hg']) l h0 (by omega) (by unfold maxLen at hcm; omega) ?_
    intro j x hx
    have := hown.cells (g := g) rfl j (.int .u8 x.toNat) (by simp [Lib.byteCells, hx])
    exact this
  go_enter Tryd.func39, Tryd.ntmps39
  go_wp2
  go_region
  all_goals (go_wp2; go_ret; exact ⟨rfl, Lib.below_freeze (Below.drew (Below.refl B w)) (p := ⟨g, 0, none⟩) hbg _⟩)
end Go.Proofs.YtgjlchcfdbmmlaaDoor.PObjectTakes
