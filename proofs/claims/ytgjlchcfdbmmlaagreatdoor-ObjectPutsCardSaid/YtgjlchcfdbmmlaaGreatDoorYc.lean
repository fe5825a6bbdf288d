/- Texts of one proof, joined: Va, Ox, Shelf, Vb, PObjectPutsx0, ZOA, PObjectPutsx5, ZOB, ZOC, ZOD. -/
import Derived.Lib.RuneCount
import Derived.Test.YtgjlchcfdbmmlaaGreatDoorYb
import Derived.Great.BuildSlice
import Derived.Deep.AppendLies
import Derived.OwnWalk
import Derived.Shelf.Unicode.DecodeSlow
import Derived.Shelf.Unicode.DecodeAny
import Derived.Ground.SlgfProg
import Derived.Shelf.SlicesE.IndexFunc
import Derived.Test.YtgjlchcfdbmmlaaGreatDoorProg
import Derived.Lib.OthersKept
import Derived.Lib.RuneCountTail
import Derived.Defers
import Derived.Recover
import Derived.Laws.Pointers
import Derived.Tactics2
import Derived.WalkSmall
import Derived.Lib.Hide
import Derived.Lib.LaidU8
import Derived.Below
import Derived.Deep.Draws
import Derived.Maps.AppendAt
import Derived.Laws.BytesArg
import Derived.Laws.MakeOwn
import Derived.Laws.OwnMore
import Derived.Deep.OwnRows
import Derived.Tactics
import Derived.Lib.ConvBytes
import Derived.Laws.Slices
import Derived.WalkKit
import Derived.KernelRfl
import Derived.RowKit3
import Derived.Deep.LoopGhost
import Derived.Deep.QuietTactic
import Derived.BigQuiet
import Derived.WideLaws
import Derived.Deep.DeepCutAuto
import Derived.Deep.CutBlock
import Derived.Deep.RegionHeld3
import Derived.Laws.Rows
import Derived.Lib.AppendStr
import Derived.ArgAppend
import Derived.Laws.IdiomCopy
import Derived.OrdersHeld
import Derived.Laws.BitsLemmas
import Derived.RowKit
import Derived.Test.YtgjlchcfdbmmlaaGreatDoorYa
set_option linter.unusedSimpArgs false
set_option linter.unusedVariables false
namespace Go.Proofs.YtgjlchcfdbmmlaaGreatDoor.Obj
open Go

def gb (s : ByteArray) (i : Nat) : Nat := (s.get! i).toNat
def contB (s : ByteArray) (i : Nat) : Bool := decide (i < s.size) && gb s i / 64 == 2
/-- A code point of so many bytes at least so great. -/
def okC (c least : Nat) : Bool := !(decide (c < least) || (decide (55296 ≤ c) && decide (c < 57344)) || decide (1114111 < c))
def widthN (s : ByteArray) (i : Nat) : Nat :=
  if s.size ≤ i then 0
  else if gb s i < 128 then 1
  else if 192 ≤ gb s i ∧ gb s i < 224 then (if contB s (i + 1) && okC ((gb s i - 192) * 64 + gb s (i + 1) % 64) 128 then 2 else 0)
  else if 224 ≤ gb s i ∧ gb s i < 240 then (if contB s (i + 1) && contB s (i + 2) && okC ((gb s i - 224) * 4096 + gb s (i + 1) % 64 * 64 + gb s (i + 2) % 64) 2048 then 3 else 0)
  else if 240 ≤ gb s i ∧ gb s i < 248 then (if contB s (i + 1) && contB s (i + 2) && contB s (i + 3) && okC ((gb s i - 240) * 262144 + gb s (i + 1) % 64 * 4096 + gb s (i + 2) % 64 * 64 + gb s (i + 3) % 64) 65536 then 4 else 0)
  else 0
theorem gb_lt (s : ByteArray) (i : Nat) : gb s i < 256 := (s.get! i).toNat_lt
theorem okC_valid (c least : Nat) : okC c least = (decide (least ≤ c) && Utf8.valid (c : Int)) := by
  unfold okC Utf8.valid
  rw [Bool.eq_iff_iff]
  simp only [Bool.not_eq_true', Bool.or_eq_false_iff, Bool.and_eq_false_iff, Bool.and_eq_true, Bool.or_eq_true, decide_eq_true_eq, decide_eq_false_iff_not]
  omega
theorem width_decode (s : ByteArray) (i : Nat) (hi : i < s.size) :
    (widthN s i = 0 ∧ Utf8.decode s i = (65533, 1)) ∨ (0 < widthN s i ∧ (Utf8.decode s i).2 = widthN s i ∧ ((Utf8.decode s i).1 = 65533 → 2 ≤ widthN s i)) := by
  have hb := gb_lt s i
  have h1 := gb_lt s (i + 1)
  have h2 := gb_lt s (i + 2)
  have h3 := gb_lt s (i + 3)
  unfold widthN Utf8.decode
  rw [if_neg (by omega)]
  simp only [Utf8.runeError]
  have e0 : (s.get! (i + 0)).toNat = gb s i := rfl
  have e1 : (s.get! (i + 1)).toNat = gb s (i + 1) := rfl
  have e2 : (s.get! (i + 2)).toNat = gb s (i + 2) := rfl
  have e3 : (s.get! (i + 3)).toNat = gb s (i + 3) := rfl
  simp only [e0, e1, e2, e3]
  have d1 : (decide (i + 1 < s.size) && gb s (i + 1) / 64 == 2) = contB s (i + 1) := rfl
  have d2 : (decide (i + 2 < s.size) && gb s (i + 2) / 64 == 2) = contB s (i + 2) := rfl
  have d3 : (decide (i + 3 < s.size) && gb s (i + 3) / 64 == 2) = contB s (i + 3) := rfl
  simp only [d1, d2, d3]
  generalize gb s (i + 1) = g1 at *
  generalize gb s (i + 2) = g2 at *
  generalize gb s (i + 3) = g3 at *
  generalize gb s i = g at *
  generalize contB s (i + 1) = k1 at *
  generalize contB s (i + 2) = k2 at *
  generalize contB s (i + 3) = k3 at *
  clear e0 e1 e2 e3 d1 d2 d3 hi
  by_cases a1 : g < 128
  · rw [if_pos a1, if_pos (show g < 0x80 from a1)]
    exact .inr ⟨by decide, rfl, fun h => by have : g = 65533 := h; omega⟩
  rw [if_neg a1, if_neg (show ¬ g < 0x80 from a1)]
  by_cases a2 : 192 ≤ g ∧ g < 224
  · have q : (g / 32 == 6) = true := by rw [beq_iff_eq]; omega
    have m : g % 32 = g - 192 := by omega
    have r3 : (g / 16 == 14) = false := by rw [beq_eq_false_iff_ne]; omega
    have r4 : (g / 8 == 30) = false := by rw [beq_eq_false_iff_ne]; omega
    rw [if_pos a2, q, m, Bool.true_and, okC_valid, r3, r4]
    simp only [Bool.false_and, Bool.false_eq_true, if_false]
    cases k1 with
    | false => exact .inl ⟨rfl, rfl⟩
    | true =>
      simp only [Bool.true_and, if_true]
      by_cases c : 0x80 ≤ (g - 192) * 64 + g1 % 64
      · have v : Utf8.valid (((g - 192) * 64 + g1 % 64 : Nat) : Int) = true := by
          unfold Utf8.valid
          simp only [Bool.or_eq_true, Bool.and_eq_true, decide_eq_true_eq]
          omega
        rw [v, decide_eq_true (show 128 ≤ (g - 192) * 64 + g1 % 64 from c), if_pos c]
        exact .inr ⟨by decide, rfl, fun _ => by decide⟩
      · rw [decide_eq_false (show ¬ 128 ≤ (g - 192) * 64 + g1 % 64 from c), if_neg c]
        exact .inl ⟨rfl, rfl⟩
  have q2 : (g / 32 == 6) = false := by rw [beq_eq_false_iff_ne]; omega
  rw [if_neg a2, q2]
  simp only [Bool.false_and, Bool.false_eq_true, if_false]
  by_cases a3 : 224 ≤ g ∧ g < 240
  · have q : (g / 16 == 14) = true := by rw [beq_iff_eq]; omega
    have m : g % 16 = g - 224 := by omega
    have r4 : (g / 8 == 30) = false := by rw [beq_eq_false_iff_ne]; omega
    rw [if_pos a3, q, m, Bool.true_and, okC_valid, r4]
    simp only [Bool.false_and, Bool.false_eq_true, if_false]
    cases k1 with
    | false => exact .inl ⟨rfl, rfl⟩
    | true =>
      cases k2 with
      | false => exact .inl ⟨rfl, rfl⟩
      | true =>
        simp only [Bool.true_and, if_true]
        generalize (g - 224) * 4096 + g1 % 64 * 64 + g2 % 64 = c at *
        by_cases h : (decide (2048 ≤ c) && Utf8.valid (c : Int)) = true
        · rw [if_pos h, if_pos (by simpa [ge_iff_le] using h)]
          exact .inr ⟨by decide, rfl, fun _ => by decide⟩
        · rw [if_neg h, if_neg (by simpa [ge_iff_le] using h)]
          exact .inl ⟨rfl, rfl⟩
  have q3 : (g / 16 == 14) = false := by rw [beq_eq_false_iff_ne]; omega
  rw [if_neg a3, q3]
  simp only [Bool.false_and, Bool.false_eq_true, if_false]
  by_cases a4 : 240 ≤ g ∧ g < 248
  · have q : (g / 8 == 30) = true := by rw [beq_iff_eq]; omega
    have m : g % 8 = g - 240 := by omega
    rw [if_pos a4, q, m, Bool.true_and, okC_valid]
    cases k1 with
    | false => exact .inl ⟨rfl, rfl⟩
    | true =>
      cases k2 with
      | false => exact .inl ⟨rfl, rfl⟩
      | true =>
        cases k3 with
        | false => exact .inl ⟨rfl, rfl⟩
        | true =>
          simp only [Bool.true_and, if_true]
          generalize (g - 240) * 262144 + g1 % 64 * 4096 + g2 % 64 * 64 + g3 % 64 = c at *
          by_cases h : (decide (65536 ≤ c) && Utf8.valid (c : Int)) = true
          · rw [if_pos h, if_pos (by simpa [ge_iff_le] using h)]
            exact .inr ⟨by decide, rfl, fun _ => by decide⟩
          · rw [if_neg h, if_neg (by simpa [ge_iff_le] using h)]
            exact .inl ⟨rfl, rfl⟩
  have q4 : (g / 8 == 30) = false := by rw [beq_eq_false_iff_ne]; omega
  rw [if_neg a4, q4]
  simp
end Go.Proofs.YtgjlchcfdbmmlaaGreatDoor.Obj
namespace Go.Proofs.YtgjlchcfdbmmlaaGreatDoor.Ord
section
variable {P : Program}
theorem exec_append {o : Oper} {ρ : Operand → Value} {w w' : World} {v : Value} (s x : Operand) (t : TypeId) (ho : o.op = .call { callee := .builtin .append, args := #[s, x], argTypes := #[t, t] })
    (hr : (Builtin.append_ #[t, t] o.type #[ρ s, ρ x]).run P w = .ok v w') : (execOp ρ o).run P w = .ok (.value v) w' := by
  unfold execOp
  simp only [ho, resolve, invoke, builtin, Sem.run_bind, Sem.run_pure, Result.andThen_ok, List.map_toArray, List.map_cons, List.map_nil, hr]
theorem exec_buildSlice {o : Oper} {ρ : Operand → Value} {w w' : World} {v : Value} (t : TypeId) (len : Nat) (parts : Array (Nat × Operand)) (ho : o.op = .buildSlice t len parts)
    (hr : (Instr.buildSlice t len (parts.map fun (i, x) => (i, ρ x))).run P w = .ok v w') : (execOp ρ o).run P w = .ok (.value v) w' := by
  unfold execOp
  simp only [ho, Sem.run_bind, Sem.run_pure, Result.andThen_ok, hr]
/-- A slice literal: each element a value of s cells. -/
theorem run_lit (w : World) (t e : TypeId) (s len : Nat) (vs : List Value) (parts : Array (Nat × Value)) (z : Value) (b : Nat) (hu : P.underlying t = some (.slice e)) (hi : (P.info? e).map (fun i => (i.zero, i.size, i.bytes)) = some (some z, s, b))
    (hp : parts.toList = (vs.zipIdx 0).map fun x => (x.2, x.1)) (hs : 0 < s) (hn : 0 < len) (hl : vs.length = len) (hsm : len * s ≤ 2 ^ 24) (h1 : ∀ v ∈ vs, v.cells.size = s) :
    (Instr.buildSlice t len parts).run P w = .ok (.slice (some ⟨w.heap.size, 0, none⟩) len len) (w.alloc (.cells (vs.flatMap fun v => v.cells.toList).toArray e)) := by
  obtain ⟨ie, hie, hz, hz1, _⟩ := info_parts hi
  refine run_buildSlice w t e len parts _ ie z hu hie hz (by rw [hz1]; omega) (by rw [hz1]; exact Nat.ne_of_gt (Nat.mul_pos hn hs)) ?_
  rw [hz1, hp]
  exact Great.fill_whole hs vs _ h1 (by simp [hl])
end
end Go.Proofs.YtgjlchcfdbmmlaaGreatDoor.Ord
namespace Go.Proofs
open Go.Shelf
def Tryz.lays260_ren : Go.Shelf.Ren := ⟨fun | 260 => 95 | n => n, fun | 9 => 9 | 21 => 21 | 3 => 3 | 4 => 4 | 5 => 5 | 119 => 169 | 0 => 0 | 46 => 122 | 139 => 172 | 138 => 171 | n => n, fun | 3 => 0 | 4 => 1 | n => n⟩
theorem Tryz.lays260 : Go.Proofs.Lays.n260 Tryz.prog Tryz.lays260_ren := {
  mixed := by kernel_rfl
  f260 := Tryz.func95.trans (congrArg some (by kernel_rfl))
  t0 := Tryz.underlying0
  a0 := Tryz.isAgg0
  z0 := Tryz.sizeOf0
  v0 := Tryz.zeroValue0
  t3 := Tryz.underlying3
  a3 := Tryz.isAgg3
  z3 := Tryz.sizeOf3
  v3 := Tryz.zeroValue3
  t4 := Tryz.underlying4
  a4 := Tryz.isAgg4
  z4 := Tryz.sizeOf4
  v4 := Tryz.zeroValue4
  t5 := Tryz.underlying5
  a5 := Tryz.isAgg5
  z5 := Tryz.sizeOf5
  v5 := Tryz.zeroValue5
  t9 := Tryz.underlying9
  a9 := Tryz.isAgg9
  z9 := Tryz.sizeOf9
  v9 := Tryz.zeroValue9
  t21 := Tryz.underlying21
  a21 := Tryz.isAgg21
  z21 := Tryz.sizeOf21
  v21 := Tryz.zeroValue21
  t46 := Tryz.underlying122
  a46 := Tryz.isAgg122
  z46 := Tryz.sizeOf122
  v46 := Tryz.zeroValue122
  t119 := Tryz.underlying169
  a119 := Tryz.isAgg169
  z119 := Tryz.sizeOf169
  t138 := Tryz.underlying171
  a138 := Tryz.isAgg171
  z138 := Tryz.sizeOf171
  v138 := Tryz.zeroValue171
  t139 := Tryz.underlying172
  a139 := Tryz.isAgg172
  z139 := Tryz.sizeOf172
  v139 := Tryz.zeroValue172
  g3 := by kernel_rfl
  g4 := by kernel_rfl }
def Tryz.lays197_ren : Go.Shelf.Ren := ⟨fun | 197 => 94 | 260 => 95 | n => n, fun | 9 => 9 | 21 => 21 | 3 => 3 | 4 => 4 | 5 => 5 | 105 => 167 | 119 => 169 | 0 => 0 | 46 => 122 | 139 => 172 | 138 => 171 | n => n, fun | 3 => 0 | 4 => 1 | n => n⟩
theorem Tryz.lays197 : Go.Proofs.Lays.n197 Tryz.prog Tryz.lays197_ren := {
  mixed := by kernel_rfl
  f197 := Tryz.func94.trans (congrArg some (by kernel_rfl))
  f260 := Tryz.func95.trans (congrArg some (by kernel_rfl))
  t0 := Tryz.underlying0
  a0 := Tryz.isAgg0
  z0 := Tryz.sizeOf0
  v0 := Tryz.zeroValue0
  t3 := Tryz.underlying3
  a3 := Tryz.isAgg3
  z3 := Tryz.sizeOf3
  v3 := Tryz.zeroValue3
  t4 := Tryz.underlying4
  a4 := Tryz.isAgg4
  z4 := Tryz.sizeOf4
  v4 := Tryz.zeroValue4
  t5 := Tryz.underlying5
  a5 := Tryz.isAgg5
  z5 := Tryz.sizeOf5
  v5 := Tryz.zeroValue5
  t9 := Tryz.underlying9
  a9 := Tryz.isAgg9
  z9 := Tryz.sizeOf9
  v9 := Tryz.zeroValue9
  t21 := Tryz.underlying21
  a21 := Tryz.isAgg21
  z21 := Tryz.sizeOf21
  v21 := Tryz.zeroValue21
  t46 := Tryz.underlying122
  a46 := Tryz.isAgg122
  z46 := Tryz.sizeOf122
  v46 := Tryz.zeroValue122
  t105 := Tryz.underlying167
  a105 := Tryz.isAgg167
  z105 := Tryz.sizeOf167
  v105 := Tryz.zeroValue167
  t119 := Tryz.underlying169
  a119 := Tryz.isAgg169
  z119 := Tryz.sizeOf169
  t138 := Tryz.underlying171
  a138 := Tryz.isAgg171
  z138 := Tryz.sizeOf171
  v138 := Tryz.zeroValue171
  t139 := Tryz.underlying172
  a139 := Tryz.isAgg172
  z139 := Tryz.sizeOf172
  v139 := Tryz.zeroValue172
  g3 := by kernel_rfl
  g4 := by kernel_rfl }
open Go.RowKit Go.Lib in
/-- **unicode/utf8.DecodeRuneInString AT EVERY STRING.** (LAID: no walk: one application.) -/
theorem Tryz.utf8_DecodeRuneInString (s : ByteArray) (w : World) (hT : Lib.Utf8Tabs 0 1 w) :
    Calls Tryz.prog 94 #[.string s] w fun e w' => e = .returned (.tuple #[.int .i32 (Lib.decodeGo s).1, .int .i64 (Lib.decodeGo s).2]) ∧ Below w.heap.size w w' := Any.utf8_DecodeRuneInString Tryz.lays197 s w hT
end Go.Proofs
namespace Go.Proofs.YtgjlchcfdbmmlaaGreatDoor.Obj
open Go.RowKit Go.Proofs.YtgjlchcfdbmmlaaGreatDoor.Ord

/-- From w to w' nothing that was there has turned but block b. -/
structure ModV (b : Nat) (w w' : World) : Prop where
  os : w'.os = w.os
  tape : w'.tape = w.tape
  output : w'.output = w.output
  size : w.heap.size ≤ w'.heap.size
  block : ∀ k, k < w.heap.size → k ≠ b → w'.heap[k]? = w.heap[k]?
theorem ModV.trans {b : Nat} {w w1 w2 : World} (h : ModV b w w1) (k : ModV b w1 w2) : ModV b w w2 :=
  ⟨k.os.trans h.os, k.tape.trans h.tape, k.output.trans h.output, Nat.le_trans h.size k.size, fun i hi hb => (k.block i (Nat.lt_of_lt_of_le hi h.size) hb).trans (h.block i hi hb)⟩
theorem ModV.of_below {b : Nat} {w w' : World} (h : Below w.heap.size w w') : ModV b w w' := ⟨h.os, h.tape, h.output, h.size, fun k hk _ => h.block k hk⟩
theorem ModV.below {b B : Nat} {w w' : World} (h : ModV b w w') (hB : B ≤ w.heap.size) (hb : B ≤ b) : Below B w w' := ⟨h.os, h.tape, h.output, h.size, fun k hk => h.block k (by omega) (by omega)⟩
theorem ModV.setCell (b : Nat) (w : World) (j : Nat) (v : Value) : ModV b w (w.setCell ⟨b, j, none⟩ v) :=
  ⟨rfl, rfl, rfl, by simp [World.setCell], fun k _ hb => Below.heap_setCell _ _ _ _ hb⟩
/-- How many runes there are from a place on; none: one does not stand. -/
def runesF (s : ByteArray) : Nat → Nat → Option Nat
  | 0, i => if s.size ≤ i then some 0 else none
  | f + 1, i => if s.size ≤ i then some 0 else if widthN s i = 0 then none else (runesF s f (i + widthN s i)).map (· + 1)
def runesN (s : ByteArray) : Option Nat := runesF s s.size 0
theorem widthN_le (s : ByteArray) (i : Nat) : widthN s i ≤ 4 := by
  unfold widthN; split; · omega
  split; · omega
  split; · split <;> omega
  split; · split <;> omega
  split; · split <;> omega
  omega
theorem runesF_end {s : ByteArray} {f i : Nat} (h : s.size ≤ i) : runesF s f i = some 0 := by
  cases f <;> simp [runesF, h]
theorem runesF_bad {s : ByteArray} {f i : Nat} (h : i < s.size) (hf : s.size ≤ i + f) (hw : widthN s i = 0) : runesF s f i = none := by
  cases f with
  | zero => omega
  | succ f => rw [runesF, if_neg (by omega), if_pos hw]
theorem runesF_step {s : ByteArray} {f i : Nat} (h : i < s.size) (hf : s.size ≤ i + f) (hw : 0 < widthN s i) : ∃ f', f = f' + 1 ∧ s.size ≤ (i + widthN s i) + f' ∧ runesF s f i = (runesF s f' (i + widthN s i)).map (· + 1) := by
  cases f with
  | zero => omega
  | succ f => exact ⟨f, rfl, by omega, by rw [runesF, if_neg (by omega), if_neg (by omega)]⟩
theorem alloc_lastV (w : World) (o : Obj) : (w.alloc o).heap[w.heap.size]? = some o := by show (w.heap.push o)[w.heap.size]? = _; exact Array.getElem?_push_size
def badP (v : Int) : List PanicEntry := [{ v := .iface 163 (.agg #[.int .i64 v]), recovered := false }]
def BoxV (B : Nat) (n : Int) (w : World) : Prop := w.heap[B]? = some (.cells #[.int .i64 n] 3 (0, 0))
theorem BoxV.kept {b : Nat} {n : Int} {w w' : World} (h : BoxV b n w) (hb : Below w.heap.size w w') : BoxV b n w' :=
  (hb.block b (Array.getElem?_eq_some_iff.1 h).1).trans h

set_option maxHeartbeats 4000000 in
set_option maxRecDepth 100000 in
theorem count_calls (B : Nat) (n : Nat) (p r : Int) (w : World) (h : BoxV B n w) (hn : n < 1000000) :
    Calls Tryz.prog 81 #[.int .i64 p, .int .i32 r, .pointer (some ⟨B, 0, none⟩)] w fun e w' => e = .returned (.tuple #[]) ∧ BoxV B ((n + 1 : Nat) : Int) w' ∧ ModV B w w' := by
  have c0 : w.cell? ⟨B, 0, none⟩ = some (.int .i64 (n : Int)) := by rw [Lib.cell_of_heap h]; rfl
  have f0 : w.frozen? ⟨B, 0, none⟩ = false := Lib.frozen_of_heap h 0
  have hfin : BoxV B ((n + 1 : Nat) : Int) (w.setCell ⟨B, 0, none⟩ (.int .i64 ((n : Int) + 1))) := by
    unfold BoxV; rw [heap_setCell_same _ _ _ _ _ _ h]; simp
  have H := Lib.hid hfin
  clear h hfin
  go_enter Tryz.func81, Tryz.ntmps81
  go_wp2
  exact ⟨rfl, _, results_none rfl _ _ _, rfl, H.out, ModV.setCell _ _ _ _⟩

/-- What each tells: every rune stands, and the box is counted up; or it panics. -/
def EachPost (s : ByteArray) (B n : Nat) (w0 : World) (e : Ending) (w' : World) : Prop :=
  match runesN s with
  | some k => e = .returned (.tuple #[]) ∧ BoxV B ((n + k : Nat) : Int) w' ∧ ModV B w0 w'
  | none => (∃ p, e = .panicked (badP p)) ∧ ModV B w0 w'
theorem tail_gb (s : ByteArray) (p j : Nat) : (s.extract p s.size).get! j = s.get! (p + j) := Lib.tail_get! s p j
theorem decode_tail (s : ByteArray) (p : Nat) (hp : p < s.size) : Lib.decodeGo (s.extract p s.size) = Utf8.decode s p := by
  have hz : (s.extract p s.size).size = s.size - p := by simp
  unfold Lib.decodeGo
  rw [if_neg (by omega), Lib.decode_at, Lib.decode_at s p, hz, tail_gb, tail_gb, tail_gb, tail_gb]
  simp
theorem width_one {s : ByteArray} {p : Nat} (hp : p < s.size) (h : (Utf8.decode s p).1 = 65533) : ((Utf8.decode s p).2 < 2 ↔ widthN s p = 0) := by
  rcases width_decode s p hp with ⟨h0, h1⟩ | ⟨h0, h1, h2⟩
  · rw [h1]; simp [h0]
  · have := h2 h; rw [h1]; omega
theorem width_any {s : ByteArray} {p : Nat} (hp : p < s.size) (h : widthN s p ≠ 0) : (Utf8.decode s p).2 = widthN s p := by
  rcases width_decode s p hp with ⟨h0, h1⟩ | ⟨h0, h1, h2⟩
  · exact absurd h0 h
  · exact h1
theorem width_err {s : ByteArray} {p : Nat} (hp : p < s.size) (h : (Utf8.decode s p).1 ≠ 65533) : widthN s p ≠ 0 := by
  rcases width_decode s p hp with ⟨h0, h1⟩ | ⟨h0, h1, h2⟩
  · rw [h1] at h; exact absurd rfl h
  · omega
/-- The iterator moved on: nothing else has turned. -/
theorem ModV.iter {B : Nat} {w wr : World} (h : ModV B w wr) {k : Nat} (hk : w.heap.size ≤ k) (s : ByteArray) (p : Nat) : ModV B w (wr.iterAt k s p) :=
  ⟨h.os, h.tape, h.output, by rw [Lib.iterAt_size]; exact h.size, fun i hi hb => (Lib.iterAt_other wr k i s p (by omega)).trans (h.block i hi hb)⟩
theorem iterPos_of {wr : World} {k : Nat} {s : ByteArray} {p : Nat} (h : wr.heap[k]? = some (.stringIter s p)) : wr.iterPos k = p := by
  simp only [World.iterPos, h]
set_option maxHeartbeats 8000000 in
set_option maxRecDepth 100000 in
theorem each_calls (s : ByteArray) (B : Nat) (w w0 : World) (hT : Lib.Utf8Tabs 0 1 w0) (h0 : Below w0.heap.size w0 w) (hB0 : w0.heap.size ≤ B) (h : BoxV B ((0 : Nat) : Int) w) (hs : s.size < 100000) :
    Calls Tryz.prog 92 #[.string s, .func (.func 81) #[] #[.pointer (some ⟨B, 0, none⟩)]] w (EachPost s B 0 w) := by
  have hBw : B < w.heap.size := (Array.getElem?_eq_some_iff.1 h).1
  have hdec : ∀ W, ModV B w W → ∀ p, p < s.size → Calls Tryz.prog 94 #[.string (s.extract p s.size)] W fun e w' => e = .returned (.tuple #[.int .i32 ((Utf8.decode s p).1 : Nat), .int .i64 ((Utf8.decode s p).2 : Nat)]) ∧ Below W.heap.size W w' := fun W hW p hp => by
    have h1 : Below w0.heap.size w0 W := h0.trans (hW.below (Nat.le_trans (Nat.le_of_lt (Nat.lt_of_le_of_lt hB0 hBw)) (Nat.le_refl _)) hB0)
    have := Tryz.utf8_DecodeRuneInString (s.extract p s.size) W (Utf8Tabs_below hT h1)
    rwa [decode_tail s p hp] at this
  have hcount : ∀ W (n : Nat) (p r : Int), BoxV B n W → n < 1000000 → Calls Tryz.prog 81 #[.int .i64 p, .int .i32 r, .pointer (some ⟨B, 0, none⟩)] W fun e w' => e = .returned (.tuple #[]) ∧ BoxV B ((n + 1 : Nat) : Int) w' ∧ ModV B W w' := fun W n p r h h' => count_calls B n p r W h h'
  have HD := Lib.hid hdec
  have HC := Lib.hid hcount
  clear hdec hcount
  go_enter Tryz.func92, Tryz.ntmps92
  go_wp2
  go_loopw [] (fun wr => ∃ (pos fuel n : Nat), wr.heap[w.heap.size]? = some (.stringIter s pos) ∧ BoxV B (n : Int) wr ∧ ModV B w wr ∧ s.size ≤ pos + fuel ∧ (runesF s fuel pos).map (n + ·) = runesN s ∧ n ≤ pos) (fun wr => s.size - wr.iterPos w.heap.size)
  case atStart =>
    have hn : Below w.heap.size w (w.iter s 0) := (Below.refl _ _).alloc (Nat.le_refl _) _
    refine ⟨0, s.size, 0, ?_, h.kept hn, ModV.of_below hn, by omega, by unfold runesN; simp, by omega⟩
    exact World.iter_heap w s 0
  case round =>
    obtain ⟨pos, fuel, n, hit, hbx, hm, hfu, hrn, hnp⟩ := hrel
    have hsz : w.heap.size < wr.heap.size := (Array.getElem?_eq_some_iff.1 hit).1
    by_cases hp : pos < s.size
    · have hnx : ∀ ty, (Instr.next (.pointer (some ⟨w.heap.size, 0, none⟩)) true ty).run Tryz.prog wr = _ := fun ty => Lib.run_next_any_at wr w.heap.size s pos ty hit hp
      have hm2 := hm.iter (k := w.heap.size) (Nat.le_refl _) s (pos + (Utf8.decode s pos).2)
      have hbx2 : BoxV B (n : Int) (wr.iterAt w.heap.size s (pos + (Utf8.decode s pos).2)) := (Lib.iterAt_other wr w.heap.size B s _ (by omega)).trans hbx
      have hit2 := Lib.iterAt_heap wr w.heap.size s pos (pos + (Utf8.decode s pos).2) hit
      obtain ⟨W1, hW1⟩ : ∃ W1, W1 = wr.iterAt w.heap.size s (pos + (Utf8.decode s pos).2) := ⟨_, rfl⟩
      rw [← hW1] at hnx hm2 hbx2 hit2
      have HW1 := Lib.hid hW1
      clear hW1
      have hpi : (0 : Int) ≤ (pos : Int) ∧ (pos : Int) ≤ (s.size : Int) := by omega
      by_cases h32 : (Utf8.decode s pos).1 = 65533
      · have h32' : ((Utf8.decode s pos).1 : Int) = 65533 := by rw [h32]; rfl
        have hlt2 := width_one hp h32
        have HD1 := Lib.hid (HD.out W1 hm2 pos hp)
        go_wp2_with fail
        refine HD1.out.mono ?_
        rintro e W2 ⟨rfl, hb2⟩
        have hm3 := hm2.trans (ModV.of_below hb2)
        have hbx3 := hbx2.kept hb2
        have hit3 : W2.heap[w.heap.size]? = some (.stringIter s (pos + (Utf8.decode s pos).2)) := (hb2.block _ (Array.getElem?_eq_some_iff.1 hit2).1).trans hit2
        by_cases hlt : (Utf8.decode s pos).2 < 2
        · have hlt' : ((Utf8.decode s pos).2 : Int) < 2 := by omega
          have hrn' := runesF_bad hp hfu (hlt2.1 hlt)
          rw [hrn'] at hrn
          go_wp2_with fail
          exact ⟨rfl, by unfold EachPost; rw [← hrn]; exact ⟨⟨_, rfl⟩, hm3⟩⟩
        · have hlt' : ¬ ((Utf8.decode s pos).2 : Int) < 2 := by omega
          have hwd : widthN s pos ≠ 0 := fun h => hlt (hlt2.2 h)
          have hd2 := width_any hp hwd
          obtain ⟨f', hf', hle', hst⟩ := runesF_step hp hfu (Nat.pos_of_ne_zero hwd)
          have HC1 := Lib.hid (HC.out W2 n pos 65533 hbx3 (by omega))
          have HF := Lib.hid (And.intro hd2 (And.intro hle' hst))
          clear hd2 hst hle'
          go_wp2_with fail
          refine HC1.out.mono ?_
          rintro e W3 ⟨rfl, hbx4, hm4⟩
          go_wp2_with fail
          go_roundw
          case rel => exact ⟨pos + (Utf8.decode s pos).2, f', n + 1, (hm4.block _ (Array.getElem?_eq_some_iff.1 hit3).1 (by omega)).trans hit3, hbx4, hm3.trans hm4, by rw [HF.out.1]; exact HF.out.2.1, by rw [HF.out.1, ← hrn, HF.out.2.2, Option.map_map]; congr 1; funext x; simp; omega, by rw [HF.out.1]; omega⟩
          case measure =>
            rw [iterPos_of ((hm4.block _ (Array.getElem?_eq_some_iff.1 hit3).1 (by omega)).trans hit3), iterPos_of hit, HF.out.1]
            omega
      · have h32' : ¬ ((Utf8.decode s pos).1 : Int) = 65533 := by omega
        have hwd := width_err hp h32
        have hd2 := width_any hp hwd
        obtain ⟨f', hf', hle', hst⟩ := runesF_step hp hfu (Nat.pos_of_ne_zero hwd)
        have HC1 := Lib.hid (HC.out W1 n pos (Utf8.decode s pos).1 hbx2 (by omega))
        have HF := Lib.hid (And.intro hd2 (And.intro hle' hst))
        clear hd2 hst hle'
        go_wp2_with fail
        refine HC1.out.mono ?_
        rintro e W3 ⟨rfl, hbx4, hm4⟩
        go_wp2_with fail
        go_roundw
        case rel => exact ⟨pos + (Utf8.decode s pos).2, f', n + 1, (hm4.block _ (Array.getElem?_eq_some_iff.1 hit2).1 (by omega)).trans hit2, hbx4, hm2.trans hm4, by rw [HF.out.1]; exact HF.out.2.1, by rw [HF.out.1, ← hrn, HF.out.2.2, Option.map_map]; congr 1; funext x; simp; omega, by rw [HF.out.1]; omega⟩
        case measure =>
          rw [iterPos_of ((hm4.block _ (Array.getElem?_eq_some_iff.1 hit2).1 (by omega)).trans hit2), iterPos_of hit, HF.out.1]
          omega
    · have hnx : ∀ ty, (Instr.next (.pointer (some ⟨w.heap.size, 0, none⟩)) true ty).run Tryz.prog wr = _ := fun ty => Lib.run_next_end_at wr w.heap.size s pos ty hit hp
      go_wp2_with fail
      refine bodyPost_ret (results_none rfl _ _ _) rfl ?_
      unfold EachPost
      rw [← hrn, runesF_end (by omega)]
      exact ⟨rfl, by simpa using hbx, hm⟩

def OkV (c : Nat) (b : Bool) (w : World) : Prop := w.heap[c]? = some (.cells #[.bool b] 4 (0, 0))
theorem as_bad (v : Value) (W : World) : (Instr.typeAssert (.iface 163 v) 20 163 true).run Tryz.prog W = .ok (.tuple #[v, .bool true]) W := by kernel_rfl
set_option maxHeartbeats 4000000 in
set_option maxRecDepth 100000 in
theorem catch_idle (v0 : Value) (w : World) :
    CallsD Tryz.prog 91 #[v0] .returning w fun e u' w' => e = .returned (.tuple #[]) ∧ u' = .returning ∧ w' = w := by
  refine callsD_of_wpS Tryz.func91 rfl fun c₀ cs hu => ?_
  apply wpS_seq
  apply wpS_region
  simp [wpOpsS, go_sem, recoverD, hu, Tryz.ntmps91, Exit.thenS]
  rw [show (#[v0] ++ ((Array.replicate 9 undef).setIfInBounds 1 Value.nilIface).setIfInBounds 0 Value.nilIface) = #[v0, .nilIface, .nilIface, undef, undef, undef, undef, undef, undef, undef] from rfl]
  refine wpS_of_wp ?_
  go_wp2
  cases c₀
  simp_all [bodyPostS, results, Tryz.results91]
set_option maxHeartbeats 4000000 in
set_option maxRecDepth 100000 in
theorem catch_bad (c : Nat) (p : Int) (older : List PanicEntry) (b : Bool) (w : World) (hc : OkV c b w) :
    CallsD Tryz.prog 91 #[.pointer (some ⟨c, 0, none⟩)] (.panicking ({ v := .iface 163 (.agg #[.int .i64 p]), recovered := false } :: older)) w fun e u' w' =>
      e = .returned (.tuple #[]) ∧ u' = .panicking ({ v := .iface 163 (.agg #[.int .i64 p]), recovered := true } :: older) ∧ OkV c false w' ∧ ModV c w w' := by
  have q1 := as_bad
  refine callsD_of_wpS Tryz.func91 rfl fun c₀ cs hu => ?_
  apply wpS_seq
  apply wpS_region
  simp [wpOpsS, go_sem, recoverD, hu, Tryz.ntmps91, Exit.thenS]
  rw [show ∀ (v0 v : Value), (#[v0] ++ ((Array.replicate 9 undef).setIfInBounds 1 v).setIfInBounds 0 v) = #[v0, v, v, undef, undef, undef, undef, undef, undef, undef] from fun _ _ => rfl]
  refine wpS_of_wp ?_
  have c0 : w.cell? ⟨c, 0, none⟩ = some (.bool b) := by rw [Lib.cell_of_heap hc]; rfl
  have f0 : w.frozen? ⟨c, 0, none⟩ = false := Lib.frozen_of_heap hc 0
  obtain ⟨W1, hW1⟩ : ∃ W1, W1 = w.setCell ⟨c, 0, none⟩ (.bool true) := ⟨_, rfl⟩
  have h1 : OkV c true W1 := by unfold OkV; rw [hW1, heap_setCell_same _ _ _ _ _ _ hc]; simp
  have c1 : W1.cell? ⟨c, 0, none⟩ = some (.bool true) := by rw [Lib.cell_of_heap h1]; rfl
  have f1 : W1.frozen? ⟨c, 0, none⟩ = false := Lib.frozen_of_heap h1 0
  have h2 : OkV c false (W1.setCell ⟨c, 0, none⟩ (.bool false)) := by unfold OkV; rw [heap_setCell_same _ _ _ _ _ _ h1]; simp
  have hm : ModV c w (W1.setCell ⟨c, 0, none⟩ (.bool false)) := by rw [hW1]; exact (ModV.setCell c w 0 _).trans (ModV.setCell c _ 0 _)
  rw [hW1] at c1 f1 h2 hm
  have H2 := Lib.hid h2
  have HM := Lib.hid hm
  clear hc hW1 h1 h2 hm
  go_wp2
  exact ⟨rfl, _, rfl, _, results_none rfl _ _ _, rfl, rfl, H2.out, HM.out⟩

theorem results_through (tmps : Array Value) (w : World) (c : Nat) (b : Bool) (h : tmps.getD 4 undef = .pointer (some ⟨c, 0, none⟩)) (hc : OkV c b w) :
    (results Tryz.f80 tmps).run Tryz.prog w = .ok (.bool b) w := by
  have h' : tmps[4]?.getD undef = .pointer (some ⟨c, 0, none⟩) := by simpa using h
  have k0 : w.cell? ⟨c, 0, none⟩ = some (.bool b) := by rw [Lib.cell_of_heap hc]; rfl
  simp [results, Tryz.results80, h', asAddr, k0, go_sem]
/-- What through tells. -/
def ThroughPost (s : ByteArray) (B : Nat) (w : World) (e : Ending) (w' : World) : Prop :=
  e = .returned (.bool (runesN s).isSome) ∧ ModV B w w' ∧ ∀ k, runesN s = some k → BoxV B (k : Int) w'
set_option maxHeartbeats 8000000 in
set_option maxRecDepth 100000 in
theorem through_calls (s : ByteArray) (B : Nat) (w w0 : World) (hT : Lib.Utf8Tabs 0 1 w0) (h0 : Below w0.heap.size w0 w) (hB0 : w0.heap.size ≤ B) (h : BoxV B ((0 : Nat) : Int) w) (hs : s.size < 100000) :
    Calls Tryz.prog 80 #[.string s, .func (.func 81) #[] #[.pointer (some ⟨B, 0, none⟩)]] w (ThroughPost s B w) := by
  have hmf : ∀ (fn : Fn) (first cap : Array Value) (w : World), (Instr.makeFunc fn first cap).run Tryz.prog w = .ok (.func fn first cap) w := fun _ _ _ _ => rfl
  obtain ⟨W1, hW1⟩ : ∃ W1, W1 = w.alloc (.cells #[.bool false] 4) := ⟨_, rfl⟩
  have hn1 : Below w.heap.size w W1 := by rw [hW1]; exact (Below.refl _ _).alloc (Nat.le_refl _) _
  have ho1 : OkV w.heap.size false W1 := by rw [hW1]; exact alloc_lastV _ _
  have hBw : B < w.heap.size := (Array.getElem?_eq_some_iff.1 h).1
  have hsz1 : w.heap.size < W1.heap.size := (Array.getElem?_eq_some_iff.1 ho1).1
  have HE := Lib.hid (each_calls s B W1 w0 hT (h0.trans (hn1.mono (Nat.le_of_lt (Nat.lt_of_le_of_lt hB0 hBw)))) hB0 (h.kept hn1) hs)
  have HW1 := Lib.hid hW1
  have HN1 := Lib.hid hn1
  have HO1 := Lib.hid ho1
  clear hW1 hn1 ho1 h
  go_enter_defers Tryz.func80, Tryz.ntmps80
  go_wp2_with fail
  rw [← HW1.out]
  refine HE.out.mono ?_
  intro e W2 hp
  unfold EachPost at hp
  cases hr : runesN s with
  | none =>
    rw [hr] at hp
    obtain ⟨⟨p, rfl⟩, hm⟩ := hp
    have ho2 : OkV w.heap.size false W2 := (hm.block _ hsz1 (by omega)).trans HO1.out
    refine leaves_cons (f := 91) (args := #[.pointer (some ⟨w.heap.size, 0, none⟩)]) (by simp) (by simp [go_sem]) ?_
    refine (catch_bad _ p [] false W2 ho2).mono ?_
    rintro e u' w'' ⟨rfl, rfl, ho3, hm3⟩
    refine ⟨_, results_through _ w'' _ _ rfl ho3, by rw [hr]; rfl, ?_, fun k hk => by rw [hr] at hk; cases hk⟩
    exact ⟨(hm3.os.trans hm.os).trans HN1.out.os, (hm3.tape.trans hm.tape).trans HN1.out.tape, (hm3.output.trans hm.output).trans HN1.out.output, Nat.le_trans HN1.out.size (Nat.le_trans hm.size hm3.size), fun k hk hkb => ((hm3.block k (by have := hm.size; omega) (by omega)).trans (hm.block k (by omega) hkb)).trans (HN1.out.block k hk)⟩
  | some k =>
    rw [hr] at hp
    obtain ⟨rfl, hbx, hm⟩ := hp
    have ho2 : OkV w.heap.size false W2 := (hm.block _ hsz1 (by omega)).trans HO1.out
    have c0 : W2.cell? ⟨w.heap.size, 0, none⟩ = some (.bool false) := by rw [Lib.cell_of_heap ho2]; rfl
    have f0 : W2.frozen? ⟨w.heap.size, 0, none⟩ = false := Lib.frozen_of_heap ho2 0
    obtain ⟨W3, hW3⟩ : ∃ W3, W3 = W2.setCell ⟨w.heap.size, 0, none⟩ (.bool true) := ⟨_, rfl⟩
    have ho3 : OkV w.heap.size true W3 := by unfold OkV; rw [hW3, heap_setCell_same _ _ _ _ _ _ ho2]; simp
    have hm3 : ModV w.heap.size W2 W3 := by rw [hW3]; exact ModV.setCell _ _ _ _
    have hbx3 : BoxV B (k : Int) W3 := (hm3.block _ (Array.getElem?_eq_some_iff.1 hbx).1 (by omega)).trans (by rw [show (0 + k) = k by omega] at hbx; exact hbx)
    have hmf : ModV B w W3 := ⟨(hm3.os.trans hm.os).trans HN1.out.os, (hm3.tape.trans hm.tape).trans HN1.out.tape, (hm3.output.trans hm.output).trans HN1.out.output, Nat.le_trans HN1.out.size (Nat.le_trans hm.size hm3.size), fun k hk hkb => ((hm3.block k (by have := hm.size; omega) (by omega)).trans (hm.block k (by omega) hkb)).trans (HN1.out.block k hk)⟩
    have HW3 := Lib.hid hW3
    have HO3 := Lib.hid ho3
    have HM := Lib.hid (And.intro hmf hbx3)
    clear hW3 ho3 hm3 hbx3 hmf hbx hm ho2
    go_wp2_with fail
    rw [← HW3.out]
    refine leaves_cons (f := 91) (args := #[.pointer (some ⟨w.heap.size, 0, none⟩)]) (by simp) (by simp [go_sem]) ?_
    refine (catch_idle _ W3).mono ?_
    rintro e u' w'' ⟨rfl, rfl, rfl⟩
    refine ⟨_, results_through _ _ _ _ rfl HO3.out, by rw [hr]; rfl, HM.out.1, fun j hj => by rw [hr] at hj; cases hj; exact HM.out.2⟩
/-- How many runes; -1: one does not stand. -/
def runesV (s : ByteArray) : Int := match runesN s with | some k => (k : Int) | none => -1
set_option maxHeartbeats 8000000 in
set_option maxRecDepth 100000 in
theorem runes_calls (s : ByteArray) (w : World) (hT : Lib.Utf8Tabs 0 1 w) (hs : s.size < 100000) :
    Calls Tryz.prog 69 #[.string s] w fun e w' => e = .returned (.int .i64 (runesV s)) ∧ Below w.heap.size w w' := by
  have hmf : ∀ (fn : Fn) (first cap : Array Value) (w : World), (Instr.makeFunc fn first cap).run Tryz.prog w = .ok (.func fn first cap) w := fun _ _ _ _ => rfl
  obtain ⟨W1, hW1⟩ : ∃ W1, W1 = w.alloc (.cells #[.int .i64 0] 3) := ⟨_, rfl⟩
  have hn1 : Below w.heap.size w W1 := by rw [hW1]; exact (Below.refl _ _).alloc (Nat.le_refl _) _
  have hb1 : BoxV w.heap.size ((0 : Nat) : Int) W1 := by rw [hW1]; exact alloc_lastV _ _
  have hth := through_calls s w.heap.size W1 w hT hn1 (Nat.le_refl _) hb1 hs
  unfold ThroughPost at hth
  unfold runesV
  generalize runesN s = rn at hth
  have HT := Lib.hid hth
  clear hth
  have HW1 := Lib.hid hW1
  have HN1 := Lib.hid hn1
  clear hW1 hn1 hb1
  go_enter Tryz.func69, Tryz.ntmps69
  go_wp2_with fail
  try rw [← HW1.out]
  refine HT.out.mono ?_
  rintro e W2 ⟨rfl, hm, hbx⟩
  have hfin : Below w.heap.size w W2 := HN1.out.trans (hm.below HN1.out.size (Nat.le_refl _))
  have HF := Lib.hid hfin
  clear hfin
  cases rn with
  | none =>
    clear hbx
    go_wp2_with fail
    go_ret
    exact ⟨rfl, HF.out⟩
  | some k =>
    have hbx2 := hbx k rfl
    have c0 : W2.cell? ⟨w.heap.size, 0, none⟩ = some (.int .i64 (k : Int)) := by rw [Lib.cell_of_heap hbx2]; rfl
    clear hbx hbx2
    go_wp2_with fail
    go_ret
    exact ⟨rfl, HF.out⟩
end Go.Proofs.YtgjlchcfdbmmlaaGreatDoor.Obj
-- cut from a text PRINTED BY print.sh
namespace Go.Proofs.YtgjlchcfdbmmlaaGreatDoor.PObjectPuts
open Go.RowKit Go.Proofs.YtgjlchcfdbmmlaaGreatDoorW.PrintWords Go.Proofs.YtgjlchcfdbmmlaaGreatDoorW.PrintLast Go.Proofs.YtgjlchcfdbmmlaaGreatDoorW.PrintMore
attribute [local go_sem] max2_int min2_int max_two min_two max_three min_three max_four min_four   -- for this text's walks alone



def errW : Option Int → Value
  | none => .nilIface
  | some c => .iface 0 (.int .i64 c)
theorem errW_none : errW none = .nilIface := rfl
theorem errW_some (c : Int) : errW (some c) = .iface 0 (.int .i64 c) := rfl

theorem info5 : (Tryz.prog.info? 5).map (fun i => (i.zero, i.size, i.bytes)) = some (some (.int .u8 0), 1, 1) := by kernel_rfl
-- the values' own types
/-! #### struct type 48 -/
structure S48 where
  f0 : Int
  f1 : Int
  f2 : ByteArray
def z48 : S48 := ⟨(0 : Int), (0 : Int), (⟨#[]⟩ : ByteArray)⟩
def k48 : Kd S48 := Kd.iso (Kd.pair (Kd.int .i64) (Kd.pair (Kd.int .i64) Kd.string)) (fun x : S48 => (x.f0, x.f1, x.f2))
theorem k48_open {w : World} {x : S48} {cs : List Value} (h : k48.K w x cs) : cs = [.int .i64 x.f0, .int .i64 x.f1, .string x.f2] := by
  obtain ⟨_, _, rfl, rfl, ⟨_, _, rfl, rfl, rfl⟩⟩ := h
  exact rfl
theorem k48_mk (w : World) (x : S48)  : k48.K w x [.int .i64 x.f0, .int .i64 x.f1, .string x.f2] := ⟨[.int .i64 x.f0], [.int .i64 x.f1, .string x.f2], rfl, rfl, ⟨[.int .i64 x.f1], [.string x.f2], rfl, rfl, rfl⟩⟩
theorem k48_mkM (w : World) (base : Nat) (ok : Nat → Prop) (x : S48)  : k48.M w base ok x [.int .i64 x.f0, .int .i64 x.f1, .string x.f2] := ⟨[.int .i64 x.f0], [.int .i64 x.f1, .string x.f2], rfl, rfl, ⟨[.int .i64 x.f1], [.string x.f2], rfl, rfl, rfl⟩⟩
/-! #### struct type 50 -/
structure S50 where
  f0 : Int
  f1 : Int
  f2 : S48
def z50 : S50 := ⟨(0 : Int), (0 : Int), z48⟩
def k50 : Kd S50 := Kd.iso (Kd.pair (Kd.int .i64) (Kd.pair (Kd.int .i64) k48)) (fun x : S50 => (x.f0, x.f1, x.f2))
theorem k50_open {w : World} {x : S50} {cs : List Value} (h : k50.K w x cs) : cs = [.int .i64 x.f0, .int .i64 x.f1, .int .i64 x.f2.f0, .int .i64 x.f2.f1, .string x.f2.f2] := by
  obtain ⟨_, _, rfl, rfl, ⟨_, _, rfl, rfl, s2⟩⟩ := h
  obtain rfl := k48_open s2
  exact rfl
theorem k50_mk (w : World) (x : S50)  : k50.K w x [.int .i64 x.f0, .int .i64 x.f1, .int .i64 x.f2.f0, .int .i64 x.f2.f1, .string x.f2.f2] := ⟨[.int .i64 x.f0], [.int .i64 x.f1, .int .i64 x.f2.f0, .int .i64 x.f2.f1, .string x.f2.f2], rfl, rfl, ⟨[.int .i64 x.f1], [.int .i64 x.f2.f0, .int .i64 x.f2.f1, .string x.f2.f2], rfl, rfl, (k48_mk w x.f2 )⟩⟩
theorem k50_mkM (w : World) (base : Nat) (ok : Nat → Prop) (x : S50)  : k50.M w base ok x [.int .i64 x.f0, .int .i64 x.f1, .int .i64 x.f2.f0, .int .i64 x.f2.f1, .string x.f2.f2] := ⟨[.int .i64 x.f0], [.int .i64 x.f1, .int .i64 x.f2.f0, .int .i64 x.f2.f1, .string x.f2.f2], rfl, rfl, ⟨[.int .i64 x.f1], [.int .i64 x.f2.f0, .int .i64 x.f2.f1, .string x.f2.f2], rfl, rfl, (k48_mkM w base ok x.f2 )⟩⟩
def rd_T50 (xs : List S50) (i : Int) : S50 := xs.getD i.toNat z50
theorem at_T50 {w : World} {A : Option Addr} {n : Nat} {xs : List S50} (h : Kd.C k50 w A n xs) (i : Int) (h0 : 0 ≤ i) (h1 : i < n) : ∃ ad , A = some ad ∧ w.cell? (ad.add (i.toNat * 5)) = some (.int .i64 (rd_T50 xs i).f0) ∧ w.cell? ⟨(ad.add (i.toNat * 5)).block, (ad.add (i.toNat * 5)).off + 1, none⟩ = some (.int .i64 (rd_T50 xs i).f1) ∧ w.cell? ⟨(ad.add (i.toNat * 5)).block, (ad.add (i.toNat * 5)).off + 2, none⟩ = some (.int .i64 (rd_T50 xs i).f2.f0) ∧ w.cell? ⟨(ad.add (i.toNat * 5)).block, (ad.add (i.toNat * 5)).off + 3, none⟩ = some (.int .i64 (rd_T50 xs i).f2.f1) ∧ w.cell? ⟨(ad.add (i.toNat * 5)).block, (ad.add (i.toNat * 5)).off + 4, none⟩ = some (.string (rd_T50 xs i).f2.f2) := by
  obtain ⟨ad, c, e, _, hK, hc0⟩ := Kd.C_get h z50 i h0 h1
  have hc : ∀ j u, c[j]? = some u → w.cell? (ad.add (i.toNat * 5 + j)) = some u := hc0
  obtain rfl := k50_open hK
  exact ⟨ad, e, hc 0 _ rfl, by rw [← add_field _ _ 1 (by omega)]; exact hc 1 _ rfl, by rw [← add_field _ _ 2 (by omega)]; exact hc 2 _ rfl, by rw [← add_field _ _ 3 (by omega)]; exact hc 3 _ rfl, by rw [← add_field _ _ 4 (by omega)]; exact hc 4 _ rfl⟩

/-! #### struct type 52 -/
structure S52 where
  f0 : Int
  f1 : ByteArray
def z52 : S52 := ⟨(0 : Int), (⟨#[]⟩ : ByteArray)⟩
def k52 : Kd S52 := Kd.iso (Kd.pair (Kd.int .u8) Kd.string) (fun x : S52 => (x.f0, x.f1))
theorem k52_open {w : World} {x : S52} {cs : List Value} (h : k52.K w x cs) : cs = [.int .u8 x.f0, .string x.f1] := by
  obtain ⟨_, _, rfl, rfl, rfl⟩ := h
  exact rfl
theorem k52_mk (w : World) (x : S52)  : k52.K w x [.int .u8 x.f0, .string x.f1] := ⟨[.int .u8 x.f0], [.string x.f1], rfl, rfl, rfl⟩
theorem k52_mkM (w : World) (base : Nat) (ok : Nat → Prop) (x : S52)  : k52.M w base ok x [.int .u8 x.f0, .string x.f1] := ⟨[.int .u8 x.f0], [.string x.f1], rfl, rfl, rfl⟩
def rd_T52 (xs : List S52) (i : Int) : S52 := xs.getD i.toNat z52
theorem at_T52 {w : World} {A : Option Addr} {n : Nat} {xs : List S52} (h : Kd.C k52 w A n xs) (i : Int) (h0 : 0 ≤ i) (h1 : i < n) : ∃ ad , A = some ad ∧ w.cell? (ad.add (i.toNat * 2)) = some (.int .u8 (rd_T52 xs i).f0) ∧ w.cell? ⟨(ad.add (i.toNat * 2)).block, (ad.add (i.toNat * 2)).off + 1, none⟩ = some (.string (rd_T52 xs i).f1) := by
  obtain ⟨ad, c, e, _, hK, hc0⟩ := Kd.C_get h z52 i h0 h1
  have hc : ∀ j u, c[j]? = some u → w.cell? (ad.add (i.toNat * 2 + j)) = some u := hc0
  obtain rfl := k52_open hK
  exact ⟨ad, e, hc 0 _ rfl, by rw [← add_field _ _ 1 (by omega)]; exact hc 1 _ rfl⟩

/-! #### struct type 38, nested in itself -/
structure S38 where
  f0 : Int
  f1 : Int
  f2 : ByteArray
  f3 : (List S38)
def z38 : S38 := ⟨(0 : Int), (0 : Int), (⟨#[]⟩ : ByteArray), ([] : List S38)⟩
def F38 (d : Kd S38) : Kd S38 := Kd.iso (Kd.pair (Kd.int .i64) (Kd.pair (Kd.int .i64) (Kd.pair Kd.string (Kd.slice 38 d)))) (fun x : S38 => (x.f0, x.f1, x.f2, x.f3))
theorem mono38 : Kd.Mono F38 := Kd.mono_iso _ (Kd.mono_pair (Kd.mono_const _) (Kd.mono_pair (Kd.mono_const _) (Kd.mono_pair (Kd.mono_const _) (Kd.mono_slice 38 Kd.mono_id))))
theorem sub38 : Kd.Sub F38 [38] := Kd.sub_iso _ (Kd.sub_pair (Kd.sub_const _ (by decide)) (Kd.sub_pair (Kd.sub_const _ (by decide)) (Kd.sub_pair (Kd.sub_const _ (by decide)) (Kd.sub_slice 38 (by decide) Kd.sub_id))))
theorem sz38 : ∀ n, (Kd.upto F38 4 [38] n).sz = 4 := Kd.upto_sz (fun _ => rfl)
def k38 : Kd S38 := Kd.fix F38 4 [38] sz38 (Kd.upto_E sub38)
theorem k38_open {w : World} {x : S38} {cs : List Value} (h : k38.K w x cs) : ∃ A3 c3, cs = [.int .i64 x.f0, .int .i64 x.f1, .string x.f2, .slice A3 x.f3.length c3] ∧ x.f3.length ≤ c3 ∧ k38.C w A3 x.f3.length x.f3 := by
  obtain ⟨n, h⟩ := h
  cases n with
  | zero => exact h.elim
  | succ n =>
    obtain ⟨_, _, rfl, rfl, ⟨_, _, rfl, rfl, ⟨_, _, rfl, rfl, ⟨A3, c3, rfl, l3, g3⟩⟩⟩⟩ := h
    exact ⟨A3, c3, rfl, l3, Kd.fix_C g3⟩
theorem k38_openM {w : World} {base : Nat} {ok : Nat → Prop} {x : S38} {cs : List Value} (h : k38.M w base ok x cs) : ∃ v3, cs = [.int .i64 x.f0, .int .i64 x.f1, .string x.f2, v3] ∧ k38.R 38 w base ok v3 x.f3 := by
  obtain ⟨n, h⟩ := h
  cases n with
  | zero => exact h.elim
  | succ n =>
    obtain ⟨_, _, rfl, rfl, ⟨_, _, rfl, rfl, ⟨_, _, rfl, rfl, ⟨v3, rfl, g3⟩⟩⟩⟩ := h
    exact ⟨v3, rfl, Kd.fix_R g3⟩
theorem k38_mkM (w : World) (base : Nat) (ok : Nat → Prop) (x : S38) {v3 : Value} (g3 : k38.R 38 w base ok v3 x.f3) : k38.M w base ok x [.int .i64 x.f0, .int .i64 x.f1, .string x.f2, v3] := by
  obtain ⟨n3, q3⟩ := Kd.fix_R_back mono38 g3
  have r3 := Kd.upto_R_le mono38 sz38 (show n3 ≤ n3 by omega) q3
  exact ⟨n3 + 1, ⟨[.int .i64 x.f0], [.int .i64 x.f1, .string x.f2, v3], rfl, rfl, ⟨[.int .i64 x.f1], [.string x.f2, v3], rfl, rfl, ⟨[.string x.f2], [v3], rfl, rfl, ⟨v3, rfl, r3⟩⟩⟩⟩⟩
def rd_T38 (xs : List S38) (i : Int) : S38 := xs.getD i.toNat z38
theorem at_T38 {w : World} {A : Option Addr} {n : Nat} {xs : List S38} (h : Kd.C k38 w A n xs) (i : Int) (h0 : 0 ≤ i) (h1 : i < n) : ∃ ad A3 c3, A = some ad ∧ w.cell? (ad.add (i.toNat * 4)) = some (.int .i64 (rd_T38 xs i).f0) ∧ w.cell? ⟨(ad.add (i.toNat * 4)).block, (ad.add (i.toNat * 4)).off + 1, none⟩ = some (.int .i64 (rd_T38 xs i).f1) ∧ w.cell? ⟨(ad.add (i.toNat * 4)).block, (ad.add (i.toNat * 4)).off + 2, none⟩ = some (.string (rd_T38 xs i).f2) ∧ w.cell? ⟨(ad.add (i.toNat * 4)).block, (ad.add (i.toNat * 4)).off + 3, none⟩ = some (.slice A3 (rd_T38 xs i).f3.length c3) ∧ (rd_T38 xs i).f3.length ≤ c3 ∧ k38.C w A3 (rd_T38 xs i).f3.length (rd_T38 xs i).f3 := by
  obtain ⟨ad, c, e, _, hK, hc0⟩ := Kd.C_get h z38 i h0 h1
  have hc : ∀ j u, c[j]? = some u → w.cell? (ad.add (i.toNat * 4 + j)) = some u := hc0
  obtain ⟨A3, c3, rfl, l3, g3⟩ := k38_open hK
  exact ⟨ad, A3, c3, e, hc 0 _ rfl, by rw [← add_field _ _ 1 (by omega)]; exact hc 1 _ rfl, by rw [← add_field _ _ 2 (by omega)]; exact hc 2 _ rfl, by rw [← add_field _ _ 3 (by omega)]; exact hc 3 _ rfl, l3, g3⟩

end Go.Proofs.YtgjlchcfdbmmlaaGreatDoor.PObjectPuts
namespace Go.Proofs.YtgjlchcfdbmmlaaGreatDoor.PObjectPuts
open Go.RowKit Go.Proofs.YtgjlchcfdbmmlaaGreatDoor.Ord Go.Proofs.YtgjlchcfdbmmlaaGreatDoor.Obj Go.Proofs.YtgjlchcfdbmmlaaGreatDoorW.PrintWords Go.Proofs.YtgjlchcfdbmmlaaGreatDoorW.PrintLast Go.Proofs.YtgjlchcfdbmmlaaGreatDoorW.PrintMore
attribute [local irreducible] OpGives

/-- Is a value right? -/
def okV (v : S48) : Bool := if v.f0 = 1 then decide (v.f2.size = 0) else if v.f0 = 2 then decide (v.f1 = 0) && (decide (v.f2.size ≤ 40) && (runesN v.f2).isSome) else false
set_option maxHeartbeats 8000000 in
set_option maxRecDepth 100000 in
theorem vcheck_calls (k n : Int) (s : ByteArray) (w : World) (hT : Lib.Utf8Tabs 0 1 w) :
    Calls Tryz.prog 48 #[.agg #[.int .i64 k, .int .i64 n, .string s]] w fun e w' => e = .returned (.int .i64 (if okV ⟨k, n, s⟩ then 0 else 2)) ∧ Below w.heap.size w w' := by
  obtain ⟨W1, hW1⟩ : ∃ W1, W1 = w.alloc (.cells #[.int .i64 k, .int .i64 n, .string s] 48) := ⟨_, rfl⟩
  have hn1 : Below w.heap.size w W1 := by rw [hW1]; exact (Below.refl _ _).alloc (Nat.le_refl _) _
  have hg1 : W1.heap[w.heap.size]? = some (.cells #[.int .i64 k, .int .i64 n, .string s] 48 (0, 0)) := by rw [hW1]; exact alloc_lastV _ _
  have c0 : W1.cell? ⟨w.heap.size, 0, none⟩ = some (.int .i64 k) := by rw [Lib.cell_of_heap hg1]; rfl
  have c1 : W1.cell? ⟨w.heap.size, 1, none⟩ = some (.int .i64 n) := by rw [Lib.cell_of_heap hg1]; rfl
  have c2 : W1.cell? ⟨w.heap.size, 2, none⟩ = some (.string s) := by rw [Lib.cell_of_heap hg1]; rfl
  have HW1 := Lib.hid hW1
  have HN1 := Lib.hid hn1
  have hR := fun (h : s.size ≤ 40) => runes_calls s W1 (Utf8Tabs_below hT hn1) (by omega)
  have HR := Lib.hid hR
  rw [hW1] at c0 c1 c2
  clear hW1 hn1 hg1 hR
  unfold okV
  have etl : s.size ≠ 0 → (s.toList == ([] : List UInt8)) = false := fun h => by
    rw [beq_eq_false_iff_ne]; intro e; exact h (by rw [Lib.size_eq, ← Lib.toList_data, e]; rfl)
  by_cases hk1 : k = 1
  · subst hk1
    have e1 : ((1 : Int) == 1) = true := rfl
    simp only [if_true]
    by_cases hs : s.size = 0
    · obtain rfl : s = ⟨#[]⟩ := by
        rcases s with ⟨⟨l⟩⟩
        have : l.length = 0 := hs
        rw [List.eq_nil_of_length_eq_zero this]
      clear etl HR
      go_enter Tryz.func48, Tryz.ntmps48
      go_wp2_with fail
      rw [← HW1.out]
      go_ret
      exact ⟨rfl, HN1.out⟩
    · have hs' := etl hs
      have ed : decide (s.size = 0) = false := decide_eq_false hs
      clear etl HR
      go_enter Tryz.func48, Tryz.ntmps48
      go_wp2_with fail
      all_goals (rw [← HW1.out]; go_ret; exact ⟨rfl, HN1.out⟩)
  · have e1 : (k == 1) = false := by simpa using hk1
    rw [if_neg hk1]
    by_cases hk2 : k = 2
    · subst hk2
      simp only [if_true]
      have e2 : ((2 : Int) == 2) = true := rfl
      by_cases hn : n = 0
      · subst hn
        by_cases hs : s.size ≤ 40
        · have hs' : (s.size : Int) ≤ 40 := by omega
          have HR2 := Lib.hid (HR.out hs)
          have hrv : (0 ≤ runesV s) = ((runesN s).isSome = true) := by
            unfold runesV
            cases runesN s with
            | none => simp
            | some k => simp
          have hd : decide (s.size ≤ 40) = true := decide_eq_true hs
          clear etl HR
          rw [hd]
          generalize runesV s = rv at hrv HR2
          generalize (runesN s).isSome = ro at hrv
          have HRV := Lib.hid hrv
          clear hrv hd
          go_enter Tryz.func48, Tryz.ntmps48
          go_wp2_with fail
          rw [← HW1.out]
          refine HR2.out.mono ?_
          rintro e W2 ⟨rfl, hb2⟩
          have HF := Lib.hid (HN1.out.trans (hb2.mono HN1.out.size))
          clear hb2
          by_cases h0 : 0 ≤ rv
          · have hro : ro = true := by have := HRV.out; exact this ▸ h0
            subst hro
            go_wp2_with fail
            go_ret
            exact ⟨rfl, HF.out⟩
          · have hro : ro = false := by
              have := HRV.out
              cases ro
              · rfl
              · exact absurd (this.symm ▸ rfl) h0
            subst hro
            go_wp2_with fail
            go_ret
            exact ⟨rfl, HF.out⟩
        · have hs' : ¬ (s.size : Int) ≤ 40 := by omega
          have ed : decide (s.size ≤ 40) = false := decide_eq_false hs
          clear etl HR
          go_enter Tryz.func48, Tryz.ntmps48
          go_wp2_with fail
          all_goals (rw [← HW1.out]; go_ret; exact ⟨rfl, HN1.out⟩)
      · have ed : decide (n = 0) = false := decide_eq_false hn
        have en : (n == 0) = false := by simpa using hn
        clear etl HR
        go_enter Tryz.func48, Tryz.ntmps48
        go_wp2_with fail
        all_goals (rw [← HW1.out]; go_ret; exact ⟨rfl, HN1.out⟩)
    · have e2 : (k == 2) = false := by simpa using hk2
      rw [if_neg hk2]
      clear etl HR
      go_enter Tryz.func48, Tryz.ntmps48
      go_wp2_with fail
      all_goals (rw [← HW1.out]; go_ret; exact ⟨rfl, HN1.out⟩)
end Go.Proofs.YtgjlchcfdbmmlaaGreatDoor.PObjectPuts
-- cut from a text PRINTED BY print.sh
namespace Go.Proofs.YtgjlchcfdbmmlaaGreatDoor.PObjectPuts
open Go.RowKit Go.Proofs.YtgjlchcfdbmmlaaGreatDoorW.PrintWords Go.Proofs.YtgjlchcfdbmmlaaGreatDoorW.PrintLast Go.Proofs.YtgjlchcfdbmmlaaGreatDoorW.PrintMore
attribute [local go_sem] max2_int min2_int max_two min_two max_three min_three max_four min_four   -- for this text's walks alone

-- NOT PRINTED: function 17 (object_formed)

/-! ### cell_check: function 57 -/
mutual
def cell_check.l0 : Nat → Int → List (S38) → Int → Int → Int → Int → ByteArray → List (S38) → Option (Bool)
  | 0, _, _, _, _, _, _, _, _ => none
  | k + 1, x1, x42, x43, x44, x106000, x106001, x106002, x106003 => if x44 < x43 then (if 0 ≤ x44 then (if x44 < (x42.length : Int) then ((cell_check.f k ((rd_T38 x42 x44).f0) ((rd_T38 x42 x44).f1) ((rd_T38 x42 x44).f2) ((rd_T38 x42 x44).f3) (wrap64 (x1 - 1))).bind fun t108 => (if t108 = true then (cell_check.l0 k x1 x42 x43 (wrap64 (x44 + 1)) x106000 x106001 x106002 x106003) else (some false))) else (none)) else (none)) else (if x106001 = 0 then (if x106002.toList = ([] : List UInt8) then (some (decide ((x106003.length : Int) ≤ 4095))) else (some false)) else (some false))
def cell_check.f : Nat → Int → Int → ByteArray → List (S38) → Int → Option (Bool)
  | 0, _, _, _, _, _ => none
  | k + 1, a0_0, a0_1, a0_2, l0_3, a1 => if a1 < 1 then (some false) else (if a0_0 = 1 then (if a0_2.toList = ([] : List UInt8) then (some ((l0_3.length : Int) == 0)) else (some false)) else (if a0_0 = 2 then (if a0_1 = 0 then (if (l0_3.length : Int) = 0 then (some (decide ((a0_2.size : Int) ≤ 65535))) else (some false)) else (some false)) else (if a0_0 = 3 then (cell_check.l0 k a1 l0_3 (l0_3.length : Int) 0 a0_0 a0_1 a0_2 l0_3) else (some false))))
end
set_option maxHeartbeats 8000000 in
set_option maxRecDepth 100000 in
theorem cell_check.calls (k : Nat) : ∀ (a0_0 : Int) (a0_1 : Int) (a0_2 : ByteArray) (A0_3 : Option Addr) (c0_3 : Nat) (l0_3 : List (S38)) (a1 : Int) (r : Bool) (w : World) (hr0_3 : Kd.C k38 w A0_3 l0_3.length l0_3) (hc0_3 : l0_3.length ≤ c0_3) (h : cell_check.f k a0_0 a0_1 a0_2 l0_3 a1 = some r),
    Calls Tryz.prog 57 #[.agg #[.int .i64 a0_0, .int .i64 a0_1, .string a0_2, .slice A0_3 l0_3.length c0_3], .int .i64 a1] w fun e w' => e = .returned (.bool r) ∧ Below w.heap.size w w' := by
  induction k using Nat.strongRecOn with
  | _ k ih =>
  intro a0_0 a0_1 a0_2 A0_3 c0_3 l0_3 a1 r w hr0_3 hc0_3 h
  cases k with
  | zero => exact absurd h (by simp [cell_check.f])
  | succ k =>
  simp only [cell_check.f] at h
  have hu38 := Tryz.underlying38
  have HR0_3 := Aside0.mk hr0_3
  have HC0_3 := Aside0.mk hc0_3
  clear hr0_3 hc0_3
  have HB := Aside0.mk (Below.refl w.heap.size w)
  have H : (if a1 < 1 then (some false) else (if a0_0 = 1 then (if a0_2.toList = ([] : List UInt8) then (some ((l0_3.length : Int) == 0)) else (some false)) else (if a0_0 = 2 then (if a0_1 = 0 then (if (l0_3.length : Int) = 0 then (some (decide ((a0_2.size : Int) ≤ 65535))) else (some false)) else (some false)) else (if a0_0 = 3 then (cell_check.l0 k a1 l0_3 (l0_3.length : Int) 0 a0_0 a0_1 a0_2 l0_3) else (some false))))) = some r := h
  clear h
  by_cases c3 : a1 < 1
  · rw [if_pos c3] at H
    have c3b0 : decide (a1 < 1) = true := decide_eq_true c3
    clear c3
    obtain rfl := Option.some.inj H
    go_enter Tryz.func57, Tryz.ntmps57
    go_wp2_with (first | ((with_reducible refine gate_dst (N := 2) rfl ?_); (try (refine gate_guard (by rfl) ?_; dsimp only)); refine box_event ?hg (N := 2) ?hd (cs := #[.int .i64 a0_0, .int .i64 a0_1, .string a0_2, .slice A0_3 l0_3.length c0_3]) (t := 38) ?hr ?_; (case hd => rfl); (case hg => rfl); (case hr => first | (go_simp; done) | (go_simp; rfl)); intro gb105 hg w4 hbox hb; have n0_ := Aside0.mk (below_step (by repeat (first | (with_reducible first | exact HB.out | apply below_alloc | apply pw_below_drewN | apply below_drew1) | exact HB.out)) hb); have n1_ := Aside0.mk (hbox); have n2_ := Aside0.mk ((by rw [hg]; exact (below_size (by repeat (first | (with_reducible first | exact HB.out | apply below_alloc | apply pw_below_drewN | apply below_drew1) | exact HB.out))) : w.heap.size ≤ gb105)); have n3_ := Aside0.mk ((by rw [hg]; exact (below_size (by repeat (first | (with_reducible first | exact HB.out | apply below_alloc | apply pw_below_drewN | apply below_drew1) | exact HB.out))) : w.heap.size ≤ gb105)); clear HB; have HB := n0_; have BK105 := n1_; have GW105 := n2_; have GE105 := n3_; clear n0_ n1_ n2_ n3_; clear hb hbox hg))
    go_ret
    exact ⟨by first | rfl | (simp [errW_none, errW_some] <;> rfl) | (simp [*, errW_none, errW_some] <;> rfl), by repeat (first | (with_reducible first | exact HB.out | apply below_alloc | apply pw_below_drewN | apply below_drew1 | refine below_set ?_ GE105.out) | exact HB.out)⟩
  · rw [if_neg c3] at H
    have c3b0 : decide (a1 < 1) = false := decide_eq_false c3
    clear c3
    by_cases c5 : a0_0 = 1
    · rw [if_pos c5] at H
      have c5b0 : (a0_0 == 1) = true := beq_iff_eq.mpr c5
      have c5b1 : (a0_0 != 1) = false := bne_eq_false_iff_eq.mpr c5
      clear c5
      by_cases c6 : a0_2.toList = ([] : List UInt8)
      · rw [if_pos c6] at H
        have c6b0 : (a0_2.toList == ([] : List UInt8)) = true := beq_iff_eq.mpr c6
        have c6b1 : (a0_2.toList != ([] : List UInt8)) = false := bne_eq_false_iff_eq.mpr c6
        clear c6
        obtain rfl := Option.some.inj H
        go_enter Tryz.func57, Tryz.ntmps57
        go_wp2_with (first | ((with_reducible refine gate_dst (N := 2) rfl ?_); (try (refine gate_guard (by rfl) ?_; dsimp only)); refine box_event ?hg (N := 2) ?hd (cs := #[.int .i64 a0_0, .int .i64 a0_1, .string a0_2, .slice A0_3 l0_3.length c0_3]) (t := 38) ?hr ?_; (case hd => rfl); (case hg => rfl); (case hr => first | (go_simp; done) | (go_simp; rfl)); intro gb105 hg w7 hbox hb; have n0_ := Aside0.mk (below_step (by repeat (first | (with_reducible first | exact HB.out | apply below_alloc | apply pw_below_drewN | apply below_drew1) | exact HB.out)) hb); have n1_ := Aside0.mk (hbox); have n2_ := Aside0.mk ((by rw [hg]; exact (below_size (by repeat (first | (with_reducible first | exact HB.out | apply below_alloc | apply pw_below_drewN | apply below_drew1) | exact HB.out))) : w.heap.size ≤ gb105)); have n3_ := Aside0.mk ((by rw [hg]; exact (below_size (by repeat (first | (with_reducible first | exact HB.out | apply below_alloc | apply pw_below_drewN | apply below_drew1) | exact HB.out))) : w.heap.size ≤ gb105)); clear HB; have HB := n0_; have BK105 := n1_; have GW105 := n2_; have GE105 := n3_; clear n0_ n1_ n2_ n3_; clear hb hbox hg; have hcz8_0 : w7.cell? ⟨gb105, 0, none⟩ = some (.int .i64 a0_0) := (blk_cell BK105.out 0).trans rfl; have hcz8_1 : w7.cell? ⟨gb105, 1, none⟩ = some (.int .i64 a0_1) := (blk_cell BK105.out 1).trans rfl; have hcz8_2 : w7.cell? ⟨gb105, 2, none⟩ = some (.string a0_2) := (blk_cell BK105.out 2).trans rfl; have hcz8_3 : w7.cell? ⟨gb105, 3, none⟩ = some (.slice A0_3 l0_3.length c0_3) := (blk_cell BK105.out 3).trans rfl; have hfz8_0 := blk_frozen BK105.out 0; have hfz8_1 := blk_frozen BK105.out 1; have hfz8_2 := blk_frozen BK105.out 2; have hfz8_3 := blk_frozen BK105.out 3))
        go_ret
        exact ⟨by first | rfl | (simp [errW_none, errW_some] <;> rfl) | (simp [*, errW_none, errW_some] <;> rfl), by repeat (first | (with_reducible first | exact HB.out | apply below_alloc | apply pw_below_drewN | apply below_drew1 | refine below_set ?_ GE105.out) | exact HB.out)⟩
      · rw [if_neg c6] at H
        have c6b0 : (a0_2.toList == ([] : List UInt8)) = false := beq_eq_false_iff_ne.mpr c6
        have c6b1 : (a0_2.toList != ([] : List UInt8)) = true := bne_iff_ne.mpr c6
        obtain rfl := Option.some.inj H
        go_enter Tryz.func57, Tryz.ntmps57
        go_wp2_with (first | ((with_reducible refine gate_dst (N := 2) rfl ?_); (try (refine gate_guard (by rfl) ?_; dsimp only)); refine box_event ?hg (N := 2) ?hd (cs := #[.int .i64 a0_0, .int .i64 a0_1, .string a0_2, .slice A0_3 l0_3.length c0_3]) (t := 38) ?hr ?_; (case hd => rfl); (case hg => rfl); (case hr => first | (go_simp; done) | (go_simp; rfl)); intro gb105 hg w9 hbox hb; have n0_ := Aside0.mk (below_step (by repeat (first | (with_reducible first | exact HB.out | apply below_alloc | apply pw_below_drewN | apply below_drew1) | exact HB.out)) hb); have n1_ := Aside0.mk (hbox); have n2_ := Aside0.mk ((by rw [hg]; exact (below_size (by repeat (first | (with_reducible first | exact HB.out | apply below_alloc | apply pw_below_drewN | apply below_drew1) | exact HB.out))) : w.heap.size ≤ gb105)); have n3_ := Aside0.mk ((by rw [hg]; exact (below_size (by repeat (first | (with_reducible first | exact HB.out | apply below_alloc | apply pw_below_drewN | apply below_drew1) | exact HB.out))) : w.heap.size ≤ gb105)); clear HB; have HB := n0_; have BK105 := n1_; have GW105 := n2_; have GE105 := n3_; clear n0_ n1_ n2_ n3_; clear hb hbox hg; have hcz10_0 : w9.cell? ⟨gb105, 0, none⟩ = some (.int .i64 a0_0) := (blk_cell BK105.out 0).trans rfl; have hcz10_1 : w9.cell? ⟨gb105, 1, none⟩ = some (.int .i64 a0_1) := (blk_cell BK105.out 1).trans rfl; have hcz10_2 : w9.cell? ⟨gb105, 2, none⟩ = some (.string a0_2) := (blk_cell BK105.out 2).trans rfl; have hcz10_3 : w9.cell? ⟨gb105, 3, none⟩ = some (.slice A0_3 l0_3.length c0_3) := (blk_cell BK105.out 3).trans rfl; have hfz10_0 := blk_frozen BK105.out 0; have hfz10_1 := blk_frozen BK105.out 1; have hfz10_2 := blk_frozen BK105.out 2; have hfz10_3 := blk_frozen BK105.out 3))
        go_ret
        exact ⟨by first | rfl | (simp [errW_none, errW_some] <;> rfl) | (simp [*, errW_none, errW_some] <;> rfl), by repeat (first | (with_reducible first | exact HB.out | apply below_alloc | apply pw_below_drewN | apply below_drew1 | refine below_set ?_ GE105.out) | exact HB.out)⟩
    · rw [if_neg c5] at H
      have c5b0 : (a0_0 == 1) = false := beq_eq_false_iff_ne.mpr c5
      have c5b1 : (a0_0 != 1) = true := bne_iff_ne.mpr c5
      by_cases c11 : a0_0 = 2
      · rw [if_pos c11] at H
        have c11b0 : (a0_0 == 2) = true := beq_iff_eq.mpr c11
        have c11b1 : (a0_0 != 2) = false := bne_eq_false_iff_eq.mpr c11
        clear c11
        by_cases c12 : a0_1 = 0
        · rw [if_pos c12] at H
          have c12b0 : (a0_1 == 0) = true := beq_iff_eq.mpr c12
          have c12b1 : (a0_1 != 0) = false := bne_eq_false_iff_eq.mpr c12
          clear c12
          by_cases c13 : (l0_3.length : Int) = 0
          · rw [if_pos c13] at H
            have c13b0 : ((l0_3.length : Int) == 0) = true := beq_iff_eq.mpr c13
            have c13b1 : ((l0_3.length : Int) != 0) = false := bne_eq_false_iff_eq.mpr c13
            clear c13
            obtain rfl := Option.some.inj H
            go_enter Tryz.func57, Tryz.ntmps57
            go_wp2_with (first | ((with_reducible refine gate_dst (N := 2) rfl ?_); (try (refine gate_guard (by rfl) ?_; dsimp only)); refine box_event ?hg (N := 2) ?hd (cs := #[.int .i64 a0_0, .int .i64 a0_1, .string a0_2, .slice A0_3 l0_3.length c0_3]) (t := 38) ?hr ?_; (case hd => rfl); (case hg => rfl); (case hr => first | (go_simp; done) | (go_simp; rfl)); intro gb105 hg w14 hbox hb; have n0_ := Aside0.mk (below_step (by repeat (first | (with_reducible first | exact HB.out | apply below_alloc | apply pw_below_drewN | apply below_drew1) | exact HB.out)) hb); have n1_ := Aside0.mk (hbox); have n2_ := Aside0.mk ((by rw [hg]; exact (below_size (by repeat (first | (with_reducible first | exact HB.out | apply below_alloc | apply pw_below_drewN | apply below_drew1) | exact HB.out))) : w.heap.size ≤ gb105)); have n3_ := Aside0.mk ((by rw [hg]; exact (below_size (by repeat (first | (with_reducible first | exact HB.out | apply below_alloc | apply pw_below_drewN | apply below_drew1) | exact HB.out))) : w.heap.size ≤ gb105)); clear HB; have HB := n0_; have BK105 := n1_; have GW105 := n2_; have GE105 := n3_; clear n0_ n1_ n2_ n3_; clear hb hbox hg; have hcz15_0 : w14.cell? ⟨gb105, 0, none⟩ = some (.int .i64 a0_0) := (blk_cell BK105.out 0).trans rfl; have hcz15_1 : w14.cell? ⟨gb105, 1, none⟩ = some (.int .i64 a0_1) := (blk_cell BK105.out 1).trans rfl; have hcz15_2 : w14.cell? ⟨gb105, 2, none⟩ = some (.string a0_2) := (blk_cell BK105.out 2).trans rfl; have hcz15_3 : w14.cell? ⟨gb105, 3, none⟩ = some (.slice A0_3 l0_3.length c0_3) := (blk_cell BK105.out 3).trans rfl; have hfz15_0 := blk_frozen BK105.out 0; have hfz15_1 := blk_frozen BK105.out 1; have hfz15_2 := blk_frozen BK105.out 2; have hfz15_3 := blk_frozen BK105.out 3))
            go_ret
            exact ⟨by first | rfl | (simp [errW_none, errW_some] <;> rfl) | (simp [*, errW_none, errW_some] <;> rfl), by repeat (first | (with_reducible first | exact HB.out | apply below_alloc | apply pw_below_drewN | apply below_drew1 | refine below_set ?_ GE105.out) | exact HB.out)⟩
          · rw [if_neg c13] at H
            have c13b0 : ((l0_3.length : Int) == 0) = false := beq_eq_false_iff_ne.mpr c13
            have c13b1 : ((l0_3.length : Int) != 0) = true := bne_iff_ne.mpr c13
            have c13b2 : ¬ (l0_3 = []) := fun h_ => c13 (by rw [h_]; rfl)
            obtain rfl := Option.some.inj H
            go_enter Tryz.func57, Tryz.ntmps57
            go_wp2_with (first | ((with_reducible refine gate_dst (N := 2) rfl ?_); (try (refine gate_guard (by rfl) ?_; dsimp only)); refine box_event ?hg (N := 2) ?hd (cs := #[.int .i64 a0_0, .int .i64 a0_1, .string a0_2, .slice A0_3 l0_3.length c0_3]) (t := 38) ?hr ?_; (case hd => rfl); (case hg => rfl); (case hr => first | (go_simp; done) | (go_simp; rfl)); intro gb105 hg w16 hbox hb; have n0_ := Aside0.mk (below_step (by repeat (first | (with_reducible first | exact HB.out | apply below_alloc | apply pw_below_drewN | apply below_drew1) | exact HB.out)) hb); have n1_ := Aside0.mk (hbox); have n2_ := Aside0.mk ((by rw [hg]; exact (below_size (by repeat (first | (with_reducible first | exact HB.out | apply below_alloc | apply pw_below_drewN | apply below_drew1) | exact HB.out))) : w.heap.size ≤ gb105)); have n3_ := Aside0.mk ((by rw [hg]; exact (below_size (by repeat (first | (with_reducible first | exact HB.out | apply below_alloc | apply pw_below_drewN | apply below_drew1) | exact HB.out))) : w.heap.size ≤ gb105)); clear HB; have HB := n0_; have BK105 := n1_; have GW105 := n2_; have GE105 := n3_; clear n0_ n1_ n2_ n3_; clear hb hbox hg; have hcz17_0 : w16.cell? ⟨gb105, 0, none⟩ = some (.int .i64 a0_0) := (blk_cell BK105.out 0).trans rfl; have hcz17_1 : w16.cell? ⟨gb105, 1, none⟩ = some (.int .i64 a0_1) := (blk_cell BK105.out 1).trans rfl; have hcz17_2 : w16.cell? ⟨gb105, 2, none⟩ = some (.string a0_2) := (blk_cell BK105.out 2).trans rfl; have hcz17_3 : w16.cell? ⟨gb105, 3, none⟩ = some (.slice A0_3 l0_3.length c0_3) := (blk_cell BK105.out 3).trans rfl; have hfz17_0 := blk_frozen BK105.out 0; have hfz17_1 := blk_frozen BK105.out 1; have hfz17_2 := blk_frozen BK105.out 2; have hfz17_3 := blk_frozen BK105.out 3))
            go_ret
            exact ⟨by first | rfl | (simp [errW_none, errW_some] <;> rfl) | (simp [*, errW_none, errW_some] <;> rfl), by repeat (first | (with_reducible first | exact HB.out | apply below_alloc | apply pw_below_drewN | apply below_drew1 | refine below_set ?_ GE105.out) | exact HB.out)⟩
        · rw [if_neg c12] at H
          have c12b0 : (a0_1 == 0) = false := beq_eq_false_iff_ne.mpr c12
          have c12b1 : (a0_1 != 0) = true := bne_iff_ne.mpr c12
          obtain rfl := Option.some.inj H
          go_enter Tryz.func57, Tryz.ntmps57
          go_wp2_with (first | ((with_reducible refine gate_dst (N := 2) rfl ?_); (try (refine gate_guard (by rfl) ?_; dsimp only)); refine box_event ?hg (N := 2) ?hd (cs := #[.int .i64 a0_0, .int .i64 a0_1, .string a0_2, .slice A0_3 l0_3.length c0_3]) (t := 38) ?hr ?_; (case hd => rfl); (case hg => rfl); (case hr => first | (go_simp; done) | (go_simp; rfl)); intro gb105 hg w18 hbox hb; have n0_ := Aside0.mk (below_step (by repeat (first | (with_reducible first | exact HB.out | apply below_alloc | apply pw_below_drewN | apply below_drew1) | exact HB.out)) hb); have n1_ := Aside0.mk (hbox); have n2_ := Aside0.mk ((by rw [hg]; exact (below_size (by repeat (first | (with_reducible first | exact HB.out | apply below_alloc | apply pw_below_drewN | apply below_drew1) | exact HB.out))) : w.heap.size ≤ gb105)); have n3_ := Aside0.mk ((by rw [hg]; exact (below_size (by repeat (first | (with_reducible first | exact HB.out | apply below_alloc | apply pw_below_drewN | apply below_drew1) | exact HB.out))) : w.heap.size ≤ gb105)); clear HB; have HB := n0_; have BK105 := n1_; have GW105 := n2_; have GE105 := n3_; clear n0_ n1_ n2_ n3_; clear hb hbox hg; have hcz19_0 : w18.cell? ⟨gb105, 0, none⟩ = some (.int .i64 a0_0) := (blk_cell BK105.out 0).trans rfl; have hcz19_1 : w18.cell? ⟨gb105, 1, none⟩ = some (.int .i64 a0_1) := (blk_cell BK105.out 1).trans rfl; have hcz19_2 : w18.cell? ⟨gb105, 2, none⟩ = some (.string a0_2) := (blk_cell BK105.out 2).trans rfl; have hcz19_3 : w18.cell? ⟨gb105, 3, none⟩ = some (.slice A0_3 l0_3.length c0_3) := (blk_cell BK105.out 3).trans rfl; have hfz19_0 := blk_frozen BK105.out 0; have hfz19_1 := blk_frozen BK105.out 1; have hfz19_2 := blk_frozen BK105.out 2; have hfz19_3 := blk_frozen BK105.out 3))
          go_ret
          exact ⟨by first | rfl | (simp [errW_none, errW_some] <;> rfl) | (simp [*, errW_none, errW_some] <;> rfl), by repeat (first | (with_reducible first | exact HB.out | apply below_alloc | apply pw_below_drewN | apply below_drew1 | refine below_set ?_ GE105.out) | exact HB.out)⟩
      · rw [if_neg c11] at H
        have c11b0 : (a0_0 == 2) = false := beq_eq_false_iff_ne.mpr c11
        have c11b1 : (a0_0 != 2) = true := bne_iff_ne.mpr c11
        by_cases c20 : a0_0 = 3
        · rw [if_pos c20] at H
          have c20b0 : (a0_0 == 3) = true := beq_iff_eq.mpr c20
          have c20b1 : (a0_0 != 3) = false := bne_eq_false_iff_eq.mpr c20
          clear c20
          have H' := Aside0.mk H
          clear H
          go_enter Tryz.func57, Tryz.ntmps57
          go_wp2_with (first | ((with_reducible refine gate_dst (N := 2) rfl ?_); (try (refine gate_guard (by rfl) ?_; dsimp only)); refine box_event ?hg (N := 2) ?hd (cs := #[.int .i64 a0_0, .int .i64 a0_1, .string a0_2, .slice A0_3 l0_3.length c0_3]) (t := 38) ?hr ?_; (case hd => rfl); (case hg => rfl); (case hr => first | (go_simp; done) | (go_simp; rfl)); intro gb105 hg w21 hbox hb; have n0_ := Aside0.mk (below_step (by repeat (first | (with_reducible first | exact HB.out | apply below_alloc | apply pw_below_drewN | apply below_drew1) | exact HB.out)) hb); have n1_ := Aside0.mk (hbox); have n2_ := Aside0.mk ((by rw [hg]; exact (below_size (by repeat (first | (with_reducible first | exact HB.out | apply below_alloc | apply pw_below_drewN | apply below_drew1) | exact HB.out))) : w.heap.size ≤ gb105)); have n3_ := Aside0.mk ((by rw [hg]; exact (below_size (by repeat (first | (with_reducible first | exact HB.out | apply below_alloc | apply pw_below_drewN | apply below_drew1) | exact HB.out))) : w.heap.size ≤ gb105)); clear HB; have HB := n0_; have BK105 := n1_; have GW105 := n2_; have GE105 := n3_; clear n0_ n1_ n2_ n3_; clear hb hbox hg; have hcz22_0 : w21.cell? ⟨gb105, 0, none⟩ = some (.int .i64 a0_0) := (blk_cell BK105.out 0).trans rfl; have hcz22_1 : w21.cell? ⟨gb105, 1, none⟩ = some (.int .i64 a0_1) := (blk_cell BK105.out 1).trans rfl; have hcz22_2 : w21.cell? ⟨gb105, 2, none⟩ = some (.string a0_2) := (blk_cell BK105.out 2).trans rfl; have hcz22_3 : w21.cell? ⟨gb105, 3, none⟩ = some (.slice A0_3 l0_3.length c0_3) := (blk_cell BK105.out 3).trans rfl; have hfz22_0 := blk_frozen BK105.out 0; have hfz22_1 := blk_frozen BK105.out 1; have hfz22_2 := blk_frozen BK105.out 2; have hfz22_3 := blk_frozen BK105.out 3))
          go_loopg [44] k (fun kq v44 w' => ∃ (x44_1 : Int), v44 = .int .i64 x44_1 ∧ Aside0 (cell_check.l0 kq a1 l0_3 (l0_3.length : Int) x44_1 a0_0 a0_1 a0_2 l0_3 = some r) ∧ Aside0 (kq ≤ k) ∧ Aside0 (w'.heap[gb105]? = some (.cells #[.int .i64 a0_0, .int .i64 a0_1, .string a0_2, (.slice A0_3 l0_3.length c0_3)] 38 (0, 0))) ∧ Aside0 (Below w.heap.size w w'))
          case atStart => exact ⟨(0), (by first | rfl | (simp; done) | (simp [*]; done)), H', ⟨Nat.le_refl _⟩, ⟨by (with_reducible repeat (first | refine blk_drewN ?_ _ | refine blk_drew ?_ | refine blk_alloc ?_ _)); exact BK105.out⟩, ⟨by repeat (first | (with_reducible first | exact HB.out | apply below_alloc | apply pw_below_drewN | apply below_drew1 | refine below_set ?_ GE105.out) | exact HB.out)⟩⟩
          case round =>
            clear H'
            try clear c1
            try clear c2
            try clear p2
            try clear c3
            try clear c3b0
            try clear c5
            try clear c5b0
            try clear c5b1
            try clear c6
            try clear c6b0
            try clear c6b1
            try clear c11
            try clear c11b0
            try clear c11b1
            try clear c12
            try clear c12b0
            try clear c12b1
            try clear c13
            try clear c13b0
            try clear c13b1
            try clear c13b2
            try clear c20
            try clear c20b0
            try clear c20b1
            try clear hcz10_0
            try clear hcz10_1
            try clear hcz10_2
            try clear hcz10_3
            try clear hcz15_0
            try clear hcz15_1
            try clear hcz15_2
            try clear hcz15_3
            try clear hcz17_0
            try clear hcz17_1
            try clear hcz17_2
            try clear hcz17_3
            try clear hcz19_0
            try clear hcz19_1
            try clear hcz19_2
            try clear hcz19_3
            try clear hcz22_0
            try clear hcz22_1
            try clear hcz22_2
            try clear hcz22_3
            try clear hcz8_0
            try clear hcz8_1
            try clear hcz8_2
            try clear hcz8_3
            try clear hfz10_0
            try clear hfz10_1
            try clear hfz10_2
            try clear hfz10_3
            try clear hfz15_0
            try clear hfz15_1
            try clear hfz15_2
            try clear hfz15_3
            try clear hfz17_0
            try clear hfz17_1
            try clear hfz17_2
            try clear hfz17_3
            try clear hfz19_0
            try clear hfz19_1
            try clear hfz19_2
            try clear hfz19_3
            try clear hfz22_0
            try clear hfz22_1
            try clear hfz22_2
            try clear hfz22_3
            try clear hfz8_0
            try clear hfz8_1
            try clear hfz8_2
            try clear hfz8_3
            obtain ⟨x44_1, rfl, HA, HK1, BK105, HB⟩ := hrel
            cases gk with
            | zero => exact absurd HA.out (by simp [cell_check.l0])
            | succ k1 =>
              have H := HA.out
              clear HA
              simp only [cell_check.l0] at H
              by_cases c23 : x44_1 < (l0_3.length : Int)
              · rw [if_pos c23] at H
                have c23b0 : decide (x44_1 < (l0_3.length : Int)) = true := decide_eq_true c23
                clear c23
                by_cases c24 : 0 ≤ x44_1
                · rw [if_pos c24] at H
                  have c24b0 : decide (0 ≤ x44_1) = true := decide_eq_true c24
                  clear c24
                  by_cases c25 : x44_1 < (l0_3.length : Int)
                  · rw [if_pos c25] at H
                    have c25b0 : decide (x44_1 < (l0_3.length : Int)) = true := decide_eq_true c25
                    clear c25
                    replace H := Option.bind_eq_some_iff.mp H
                    obtain ⟨t108, A260, H⟩ := H
                    replace H : (if t108 = true then (cell_check.l0 k1 a1 l0_3 (l0_3.length : Int) (wrap64 (x44_1 + 1)) a0_0 a0_1 a0_2 l0_3) else (some false)) = some r := H
                    have A26 := Aside0.mk A260
                    clear A260
                    by_cases c27 : t108 = true
                    · subst c27
                      have H1 : (cell_check.l0 k1 a1 l0_3 (l0_3.length : Int) (wrap64 (x44_1 + 1)) a0_0 a0_1 a0_2 l0_3) = some r := by rw [if_pos rfl] at H; exact H
                      clear H
                      have H := H1
                      clear H1
                      have H' := Aside0.mk H
                      clear H
                      have p106 : 0 ≤ (x44_1 : Int) := of_decide_eq_true (by first | (with_reducible assumption) | assumption)
                      have q106 : x44_1 < (l0_3.length : Int) := of_decide_eq_true (by first | (with_reducible assumption) | assumption)
                      obtain ⟨ad106, A106_3, c106_3, e106, hx106_0, hx106_1, hx106_2, hx106_3, hl106_3, hi106_3⟩ := at_T38 HR0_3.out x44_1 p106 q106
                      cases e106
                      replace hx106_0 := (HB.out.cell (World.block_lt_of_cell? w _ hx106_0)).trans hx106_0
                      replace hx106_1 := (HB.out.cell (World.block_lt_of_cell? w _ hx106_1)).trans hx106_1
                      replace hx106_2 := (HB.out.cell (World.block_lt_of_cell? w _ hx106_2)).trans hx106_2
                      replace hx106_3 := (HB.out.cell (World.block_lt_of_cell? w _ hx106_3)).trans hx106_3
                      have HR106_3 := Aside0.mk hi106_3
                      have HC106_3 := Aside0.mk hl106_3
                      clear hi106_3 hl106_3
                      replace p106 := eq_true p106
                      replace q106 := eq_true q106
                      go_wp2_with (first | ((with_reducible refine gate_dst (N := 6) rfl ?_); (try (refine gate_guard (by rfl) ?_; dsimp only)); refine box_event ?hg (N := 6) ?hd (cs := #[.int .i64 0, .int .i64 0, .string (⟨#[]⟩ : ByteArray), .slice none 0 0]) (t := 38) ?hr ?_; (case hd => rfl); (case hg => rfl); (case hr => first | (go_simp; done) | (go_simp; rfl)); intro gb107 hg w28 hbox hb; have n0_ := Aside0.mk (blk_below (g := gb105) (o := .cells #[.int .i64 a0_0, .int .i64 a0_1, .string a0_2, .slice (some ad106) l0_3.length c0_3] 38 (0, 0)) (by (with_reducible repeat (first | refine blk_drewN ?_ _ | refine blk_drew ?_ | refine blk_alloc ?_ _)); exact BK105.out) hb); have n1_ := Aside0.mk (below_step (by repeat (first | (with_reducible first | exact HB.out | apply below_alloc | apply pw_below_drewN | apply below_drew1 | refine below_set ?_ GE105.out) | exact HB.out)) hb); have n2_ := Aside0.mk (hbox); have n3_ := Aside0.mk ((by rw [hg]; exact (below_size (by repeat (first | (with_reducible first | exact HB.out | apply below_alloc | apply pw_below_drewN | apply below_drew1 | refine below_set ?_ GE105.out) | exact HB.out))) : w.heap.size ≤ gb107)); have n4_ := Aside0.mk ((by rw [hg]; exact (below_size (by repeat (first | (with_reducible first | exact HB.out | apply below_alloc | apply pw_below_drewN | apply below_drew1 | refine below_set ?_ GE105.out) | exact HB.out))) : w.heap.size ≤ gb107)); have n5_ := Aside0.mk ((by rw [hg]; exact Nat.ne_of_lt (blk_lt (g := gb105) (o := .cells #[.int .i64 a0_0, .int .i64 a0_1, .string a0_2, .slice (some ad106) l0_3.length c0_3] 38 (0, 0)) (by (with_reducible repeat (first | refine blk_drewN ?_ _ | refine blk_drew ?_ | refine blk_alloc ?_ _)); exact BK105.out)) : gb105 ≠ gb107)); have n6_ := Aside0.mk ((by rw [hg]; exact Nat.ne_of_gt (blk_lt (g := gb105) (o := .cells #[.int .i64 a0_0, .int .i64 a0_1, .string a0_2, .slice (some ad106) l0_3.length c0_3] 38 (0, 0)) (by (with_reducible repeat (first | refine blk_drewN ?_ _ | refine blk_drew ?_ | refine blk_alloc ?_ _)); exact BK105.out)) : gb107 ≠ gb105)); clear BK105; clear HB; have BK105 := n0_; have HB := n1_; have BK107 := n2_; have GW107 := n3_; have GE107 := n4_; have NB105_107 := n5_; have NB107_105 := n6_; clear n0_ n1_ n2_ n3_ n4_ n5_ n6_; clear hb hbox hg; have hnb29 := NB107_105.out; have hnc29 := NB105_107.out; have hcz30_0 : w28.cell? ⟨gb107, 0, none⟩ = some (.int .i64 0) := (blk_cell BK107.out 0).trans rfl; have hcz30_1 : w28.cell? ⟨gb107, 1, none⟩ = some (.int .i64 0) := (blk_cell BK107.out 1).trans rfl; have hcz30_2 : w28.cell? ⟨gb107, 2, none⟩ = some (.string (⟨#[]⟩ : ByteArray)) := (blk_cell BK107.out 2).trans rfl; have hcz30_3 : w28.cell? ⟨gb107, 3, none⟩ = some (.slice none 0 0) := (blk_cell BK107.out 3).trans rfl; have hfz30_0 := blk_frozen BK107.out 0; have hfz30_1 := blk_frozen BK107.out 1; have hfz30_2 := blk_frozen BK107.out 2; have hfz30_3 := blk_frozen BK107.out 3) | ((with_reducible refine gate_callee (f := 57) rfl ?_); refine goesL_ (some 51) rfl rfl Tryz.func57 (by kernel_rfl) rfl #[.agg #[.int .i64 ((rd_T38 l0_3 x44_1).f0), .int .i64 ((rd_T38 l0_3 x44_1).f1), .string ((rd_T38 l0_3 x44_1).f2), .slice A106_3 ((rd_T38 l0_3 x44_1).f3).length c106_3], .int .i64 (wrap64 (a1 - 1))] rfl (by (try simp only [List.map_toArray, List.map_cons, List.map_nil]); first | done | rfl | (simp only [List.length_drop, List.length_take]; rfl)) ?_; (with_reducible refine (ih k1 (by have := HK1.out; omega) ((rd_T38 l0_3 x44_1).f0) ((rd_T38 l0_3 x44_1).f1) ((rd_T38 l0_3 x44_1).f2) _ _ ((rd_T38 l0_3 x44_1).f3) (wrap64 (a1 - 1)) true _ ?side1 ?side2 A26.out).mono ?_); (case side1 => exact Kd.C_below HR106_3.out (by repeat (first | (with_reducible first | exact HB.out | apply below_alloc | apply pw_below_drewN | apply below_drew1 | refine below_set ?_ GE105.out | refine below_set ?_ GE107.out) | exact HB.out))); (case side2 => exact HC106_3.out); rintro e w31 ⟨rfl, hb⟩; refine ⟨_, rfl, ?_⟩; have n0_ := Aside0.mk (blk_below (g := gb105) (o := .cells #[.int .i64 a0_0, .int .i64 a0_1, .string a0_2, .slice (some ad106) l0_3.length c0_3] 38 (0, 0)) (by (with_reducible repeat (first | refine blk_drewN ?_ _ | refine blk_drew ?_ | refine blk_alloc ?_ _)); refine blk_far ?_ NB105_107.out _; (with_reducible repeat (first | refine blk_drewN ?_ _ | refine blk_drew ?_ | refine blk_alloc ?_ _)); refine blk_far ?_ NB105_107.out _; (with_reducible repeat (first | refine blk_drewN ?_ _ | refine blk_drew ?_ | refine blk_alloc ?_ _)); refine blk_far ?_ NB105_107.out _; (with_reducible repeat (first | refine blk_drewN ?_ _ | refine blk_drew ?_ | refine blk_alloc ?_ _)); refine blk_far ?_ NB105_107.out _; (with_reducible repeat (first | refine blk_drewN ?_ _ | refine blk_drew ?_ | refine blk_alloc ?_ _)); exact BK105.out) hb); have n1_ := Aside0.mk (blk_below (g := gb107) (o := .cells #[.int .i64 ((rd_T38 l0_3 x44_1).f0), .int .i64 ((rd_T38 l0_3 x44_1).f1), .string ((rd_T38 l0_3 x44_1).f2), .slice A106_3 ((rd_T38 l0_3 x44_1).f3).length c106_3] 38 (0, 0)) (by (with_reducible repeat (first | refine blk_drewN ?_ _ | refine blk_drew ?_ | refine blk_alloc ?_ _)); refine blk_put (cs := #[.int .i64 ((rd_T38 l0_3 x44_1).f0), .int .i64 ((rd_T38 l0_3 x44_1).f1), .string ((rd_T38 l0_3 x44_1).f2), .slice none 0 0]) ?_ 3 _ rfl; (with_reducible repeat (first | refine blk_drewN ?_ _ | refine blk_drew ?_ | refine blk_alloc ?_ _)); refine blk_put (cs := #[.int .i64 ((rd_T38 l0_3 x44_1).f0), .int .i64 ((rd_T38 l0_3 x44_1).f1), .string (⟨#[]⟩ : ByteArray), .slice none 0 0]) ?_ 2 _ rfl; (with_reducible repeat (first | refine blk_drewN ?_ _ | refine blk_drew ?_ | refine blk_alloc ?_ _)); refine blk_put (cs := #[.int .i64 ((rd_T38 l0_3 x44_1).f0), .int .i64 0, .string (⟨#[]⟩ : ByteArray), .slice none 0 0]) ?_ 1 _ rfl; (with_reducible repeat (first | refine blk_drewN ?_ _ | refine blk_drew ?_ | refine blk_alloc ?_ _)); refine blk_put (cs := #[.int .i64 0, .int .i64 0, .string (⟨#[]⟩ : ByteArray), .slice none 0 0]) ?_ 0 _ rfl; (with_reducible repeat (first | refine blk_drewN ?_ _ | refine blk_drew ?_ | refine blk_alloc ?_ _)); exact BK107.out) hb); have n2_ := Aside0.mk (below_step (by repeat (first | (with_reducible first | exact HB.out | apply below_alloc | apply pw_below_drewN | apply below_drew1 | refine below_set ?_ GE105.out | refine below_set ?_ GE107.out) | exact HB.out)) hb); clear BK105; clear BK107; clear HB; have BK105 := n0_; have BK107 := n1_; have HB := n2_; clear n0_ n1_ n2_; (try clear hb); (try clear hb2); (try clear hk); (try clear hi)))
                      go_roundg k1
                      case measure => have := HK1.out; omega
                      case rel => exact ⟨(wrap64 (x44_1 + 1)), (by first | rfl | (simp; done) | (simp [*]; done)), H', ⟨by have := HK1.out; omega⟩, ⟨by (with_reducible repeat (first | refine blk_drewN ?_ _ | refine blk_drew ?_ | refine blk_alloc ?_ _)); exact BK105.out⟩, ⟨by repeat (first | (with_reducible first | exact HB.out | apply below_alloc | apply pw_below_drewN | apply below_drew1 | refine below_set ?_ GE105.out | refine below_set ?_ GE107.out) | exact HB.out)⟩⟩
                    · replace c27 := Bool.eq_false_iff.mpr c27
                      subst c27
                      have H1 : (some false) = some r := by rw [if_neg (show ¬ (false = true) by decide)] at H; exact H
                      clear H
                      have H := H1
                      clear H1
                      obtain rfl := Option.some.inj H
                      have p106 : 0 ≤ (x44_1 : Int) := of_decide_eq_true (by first | (with_reducible assumption) | assumption)
                      have q106 : x44_1 < (l0_3.length : Int) := of_decide_eq_true (by first | (with_reducible assumption) | assumption)
                      obtain ⟨ad106, A106_3, c106_3, e106, hx106_0, hx106_1, hx106_2, hx106_3, hl106_3, hi106_3⟩ := at_T38 HR0_3.out x44_1 p106 q106
                      cases e106
                      replace hx106_0 := (HB.out.cell (World.block_lt_of_cell? w _ hx106_0)).trans hx106_0
                      replace hx106_1 := (HB.out.cell (World.block_lt_of_cell? w _ hx106_1)).trans hx106_1
                      replace hx106_2 := (HB.out.cell (World.block_lt_of_cell? w _ hx106_2)).trans hx106_2
                      replace hx106_3 := (HB.out.cell (World.block_lt_of_cell? w _ hx106_3)).trans hx106_3
                      have HR106_3 := Aside0.mk hi106_3
                      have HC106_3 := Aside0.mk hl106_3
                      clear hi106_3 hl106_3
                      replace p106 := eq_true p106
                      replace q106 := eq_true q106
                      go_wp2_with (first | ((with_reducible refine gate_dst (N := 6) rfl ?_); (try (refine gate_guard (by rfl) ?_; dsimp only)); refine box_event ?hg (N := 6) ?hd (cs := #[.int .i64 0, .int .i64 0, .string (⟨#[]⟩ : ByteArray), .slice none 0 0]) (t := 38) ?hr ?_; (case hd => rfl); (case hg => rfl); (case hr => first | (go_simp; done) | (go_simp; rfl)); intro gb107 hg w32 hbox hb; have n0_ := Aside0.mk (blk_below (g := gb105) (o := .cells #[.int .i64 a0_0, .int .i64 a0_1, .string a0_2, .slice (some ad106) l0_3.length c0_3] 38 (0, 0)) (by (with_reducible repeat (first | refine blk_drewN ?_ _ | refine blk_drew ?_ | refine blk_alloc ?_ _)); exact BK105.out) hb); have n1_ := Aside0.mk (below_step (by repeat (first | (with_reducible first | exact HB.out | apply below_alloc | apply pw_below_drewN | apply below_drew1 | refine below_set ?_ GE105.out) | exact HB.out)) hb); have n2_ := Aside0.mk (hbox); have n3_ := Aside0.mk ((by rw [hg]; exact (below_size (by repeat (first | (with_reducible first | exact HB.out | apply below_alloc | apply pw_below_drewN | apply below_drew1 | refine below_set ?_ GE105.out) | exact HB.out))) : w.heap.size ≤ gb107)); have n4_ := Aside0.mk ((by rw [hg]; exact (below_size (by repeat (first | (with_reducible first | exact HB.out | apply below_alloc | apply pw_below_drewN | apply below_drew1 | refine below_set ?_ GE105.out) | exact HB.out))) : w.heap.size ≤ gb107)); have n5_ := Aside0.mk ((by rw [hg]; exact Nat.ne_of_lt (blk_lt (g := gb105) (o := .cells #[.int .i64 a0_0, .int .i64 a0_1, .string a0_2, .slice (some ad106) l0_3.length c0_3] 38 (0, 0)) (by (with_reducible repeat (first | refine blk_drewN ?_ _ | refine blk_drew ?_ | refine blk_alloc ?_ _)); exact BK105.out)) : gb105 ≠ gb107)); have n6_ := Aside0.mk ((by rw [hg]; exact Nat.ne_of_gt (blk_lt (g := gb105) (o := .cells #[.int .i64 a0_0, .int .i64 a0_1, .string a0_2, .slice (some ad106) l0_3.length c0_3] 38 (0, 0)) (by (with_reducible repeat (first | refine blk_drewN ?_ _ | refine blk_drew ?_ | refine blk_alloc ?_ _)); exact BK105.out)) : gb107 ≠ gb105)); clear BK105; clear HB; have BK105 := n0_; have HB := n1_; have BK107 := n2_; have GW107 := n3_; have GE107 := n4_; have NB105_107 := n5_; have NB107_105 := n6_; clear n0_ n1_ n2_ n3_ n4_ n5_ n6_; clear hb hbox hg; have hnb33 := NB107_105.out; have hnc33 := NB105_107.out; have hcz34_0 : w32.cell? ⟨gb107, 0, none⟩ = some (.int .i64 0) := (blk_cell BK107.out 0).trans rfl; have hcz34_1 : w32.cell? ⟨gb107, 1, none⟩ = some (.int .i64 0) := (blk_cell BK107.out 1).trans rfl; have hcz34_2 : w32.cell? ⟨gb107, 2, none⟩ = some (.string (⟨#[]⟩ : ByteArray)) := (blk_cell BK107.out 2).trans rfl; have hcz34_3 : w32.cell? ⟨gb107, 3, none⟩ = some (.slice none 0 0) := (blk_cell BK107.out 3).trans rfl; have hfz34_0 := blk_frozen BK107.out 0; have hfz34_1 := blk_frozen BK107.out 1; have hfz34_2 := blk_frozen BK107.out 2; have hfz34_3 := blk_frozen BK107.out 3) | ((with_reducible refine gate_callee (f := 57) rfl ?_); refine goesL_ (some 51) rfl rfl Tryz.func57 (by kernel_rfl) rfl #[.agg #[.int .i64 ((rd_T38 l0_3 x44_1).f0), .int .i64 ((rd_T38 l0_3 x44_1).f1), .string ((rd_T38 l0_3 x44_1).f2), .slice A106_3 ((rd_T38 l0_3 x44_1).f3).length c106_3], .int .i64 (wrap64 (a1 - 1))] rfl (by (try simp only [List.map_toArray, List.map_cons, List.map_nil]); first | done | rfl | (simp only [List.length_drop, List.length_take]; rfl)) ?_; (with_reducible refine (ih k1 (by have := HK1.out; omega) ((rd_T38 l0_3 x44_1).f0) ((rd_T38 l0_3 x44_1).f1) ((rd_T38 l0_3 x44_1).f2) _ _ ((rd_T38 l0_3 x44_1).f3) (wrap64 (a1 - 1)) false _ ?side1 ?side2 A26.out).mono ?_); (case side1 => exact Kd.C_below HR106_3.out (by repeat (first | (with_reducible first | exact HB.out | apply below_alloc | apply pw_below_drewN | apply below_drew1 | refine below_set ?_ GE105.out | refine below_set ?_ GE107.out) | exact HB.out))); (case side2 => exact HC106_3.out); rintro e w35 ⟨rfl, hb⟩; refine ⟨_, rfl, ?_⟩; have n0_ := Aside0.mk (blk_below (g := gb105) (o := .cells #[.int .i64 a0_0, .int .i64 a0_1, .string a0_2, .slice (some ad106) l0_3.length c0_3] 38 (0, 0)) (by (with_reducible repeat (first | refine blk_drewN ?_ _ | refine blk_drew ?_ | refine blk_alloc ?_ _)); refine blk_far ?_ NB105_107.out _; (with_reducible repeat (first | refine blk_drewN ?_ _ | refine blk_drew ?_ | refine blk_alloc ?_ _)); refine blk_far ?_ NB105_107.out _; (with_reducible repeat (first | refine blk_drewN ?_ _ | refine blk_drew ?_ | refine blk_alloc ?_ _)); refine blk_far ?_ NB105_107.out _; (with_reducible repeat (first | refine blk_drewN ?_ _ | refine blk_drew ?_ | refine blk_alloc ?_ _)); refine blk_far ?_ NB105_107.out _; (with_reducible repeat (first | refine blk_drewN ?_ _ | refine blk_drew ?_ | refine blk_alloc ?_ _)); exact BK105.out) hb); have n1_ := Aside0.mk (blk_below (g := gb107) (o := .cells #[.int .i64 ((rd_T38 l0_3 x44_1).f0), .int .i64 ((rd_T38 l0_3 x44_1).f1), .string ((rd_T38 l0_3 x44_1).f2), .slice A106_3 ((rd_T38 l0_3 x44_1).f3).length c106_3] 38 (0, 0)) (by (with_reducible repeat (first | refine blk_drewN ?_ _ | refine blk_drew ?_ | refine blk_alloc ?_ _)); refine blk_put (cs := #[.int .i64 ((rd_T38 l0_3 x44_1).f0), .int .i64 ((rd_T38 l0_3 x44_1).f1), .string ((rd_T38 l0_3 x44_1).f2), .slice none 0 0]) ?_ 3 _ rfl; (with_reducible repeat (first | refine blk_drewN ?_ _ | refine blk_drew ?_ | refine blk_alloc ?_ _)); refine blk_put (cs := #[.int .i64 ((rd_T38 l0_3 x44_1).f0), .int .i64 ((rd_T38 l0_3 x44_1).f1), .string (⟨#[]⟩ : ByteArray), .slice none 0 0]) ?_ 2 _ rfl; (with_reducible repeat (first | refine blk_drewN ?_ _ | refine blk_drew ?_ | refine blk_alloc ?_ _)); refine blk_put (cs := #[.int .i64 ((rd_T38 l0_3 x44_1).f0), .int .i64 0, .string (⟨#[]⟩ : ByteArray), .slice none 0 0]) ?_ 1 _ rfl; (with_reducible repeat (first | refine blk_drewN ?_ _ | refine blk_drew ?_ | refine blk_alloc ?_ _)); refine blk_put (cs := #[.int .i64 0, .int .i64 0, .string (⟨#[]⟩ : ByteArray), .slice none 0 0]) ?_ 0 _ rfl; (with_reducible repeat (first | refine blk_drewN ?_ _ | refine blk_drew ?_ | refine blk_alloc ?_ _)); exact BK107.out) hb); have n2_ := Aside0.mk (below_step (by repeat (first | (with_reducible first | exact HB.out | apply below_alloc | apply pw_below_drewN | apply below_drew1 | refine below_set ?_ GE105.out | refine below_set ?_ GE107.out) | exact HB.out)) hb); clear BK105; clear BK107; clear HB; have BK105 := n0_; have BK107 := n1_; have HB := n2_; clear n0_ n1_ n2_; (try clear hb); (try clear hb2); (try clear hk); (try clear hi)))
                      go_ret
                      exact ⟨by first | rfl | (simp [errW_none, errW_some] <;> rfl) | (simp [*, errW_none, errW_some] <;> rfl), by repeat (first | (with_reducible first | exact HB.out | apply below_alloc | apply pw_below_drewN | apply below_drew1 | refine below_set ?_ GE105.out | refine below_set ?_ GE107.out) | exact HB.out)⟩
                  · rw [if_neg c25] at H
                    exact absurd H (by simp)
                · rw [if_neg c24] at H
                  exact absurd H (by simp)
              · rw [if_neg c23] at H
                have c23b0 : decide (x44_1 < (l0_3.length : Int)) = false := decide_eq_false c23
                clear c23
                by_cases c36 : a0_1 = 0
                · rw [if_pos c36] at H
                  have c36b0 : (a0_1 == 0) = true := beq_iff_eq.mpr c36
                  have c36b1 : (a0_1 != 0) = false := bne_eq_false_iff_eq.mpr c36
                  clear c36
                  by_cases c37 : a0_2.toList = ([] : List UInt8)
                  · rw [if_pos c37] at H
                    have c37b0 : (a0_2.toList == ([] : List UInt8)) = true := beq_iff_eq.mpr c37
                    have c37b1 : (a0_2.toList != ([] : List UInt8)) = false := bne_eq_false_iff_eq.mpr c37
                    clear c37
                    obtain rfl := Option.some.inj H
                    have hcz38_0 : wr.cell? ⟨gb105, 0, none⟩ = some (.int .i64 a0_0) := (blk_cell BK105.out 0).trans rfl
                    have hcz38_1 : wr.cell? ⟨gb105, 1, none⟩ = some (.int .i64 a0_1) := (blk_cell BK105.out 1).trans rfl
                    have hcz38_2 : wr.cell? ⟨gb105, 2, none⟩ = some (.string a0_2) := (blk_cell BK105.out 2).trans rfl
                    have hcz38_3 : wr.cell? ⟨gb105, 3, none⟩ = some (.slice A0_3 l0_3.length c0_3) := (blk_cell BK105.out 3).trans rfl
                    have hfz38_0 := blk_frozen BK105.out 0
                    have hfz38_1 := blk_frozen BK105.out 1
                    have hfz38_2 := blk_frozen BK105.out 2
                    have hfz38_3 := blk_frozen BK105.out 3
                    go_wp2
                    go_ret
                    exact ⟨by first | rfl | (simp [errW_none, errW_some] <;> rfl) | (simp [*, errW_none, errW_some] <;> rfl), by repeat (first | (with_reducible first | exact HB.out | apply below_alloc | apply pw_below_drewN | apply below_drew1 | refine below_set ?_ GE105.out) | exact HB.out)⟩
                  · rw [if_neg c37] at H
                    have c37b0 : (a0_2.toList == ([] : List UInt8)) = false := beq_eq_false_iff_ne.mpr c37
                    have c37b1 : (a0_2.toList != ([] : List UInt8)) = true := bne_iff_ne.mpr c37
                    obtain rfl := Option.some.inj H
                    have hcz39_0 : wr.cell? ⟨gb105, 0, none⟩ = some (.int .i64 a0_0) := (blk_cell BK105.out 0).trans rfl
                    have hcz39_1 : wr.cell? ⟨gb105, 1, none⟩ = some (.int .i64 a0_1) := (blk_cell BK105.out 1).trans rfl
                    have hcz39_2 : wr.cell? ⟨gb105, 2, none⟩ = some (.string a0_2) := (blk_cell BK105.out 2).trans rfl
                    have hcz39_3 : wr.cell? ⟨gb105, 3, none⟩ = some (.slice A0_3 l0_3.length c0_3) := (blk_cell BK105.out 3).trans rfl
                    have hfz39_0 := blk_frozen BK105.out 0
                    have hfz39_1 := blk_frozen BK105.out 1
                    have hfz39_2 := blk_frozen BK105.out 2
                    have hfz39_3 := blk_frozen BK105.out 3
                    go_wp2
                    go_ret
                    exact ⟨by first | rfl | (simp [errW_none, errW_some] <;> rfl) | (simp [*, errW_none, errW_some] <;> rfl), by repeat (first | (with_reducible first | exact HB.out | apply below_alloc | apply pw_below_drewN | apply below_drew1 | refine below_set ?_ GE105.out) | exact HB.out)⟩
                · rw [if_neg c36] at H
                  have c36b0 : (a0_1 == 0) = false := beq_eq_false_iff_ne.mpr c36
                  have c36b1 : (a0_1 != 0) = true := bne_iff_ne.mpr c36
                  obtain rfl := Option.some.inj H
                  have hcz40_0 : wr.cell? ⟨gb105, 0, none⟩ = some (.int .i64 a0_0) := (blk_cell BK105.out 0).trans rfl
                  have hcz40_1 : wr.cell? ⟨gb105, 1, none⟩ = some (.int .i64 a0_1) := (blk_cell BK105.out 1).trans rfl
                  have hcz40_2 : wr.cell? ⟨gb105, 2, none⟩ = some (.string a0_2) := (blk_cell BK105.out 2).trans rfl
                  have hcz40_3 : wr.cell? ⟨gb105, 3, none⟩ = some (.slice A0_3 l0_3.length c0_3) := (blk_cell BK105.out 3).trans rfl
                  have hfz40_0 := blk_frozen BK105.out 0
                  have hfz40_1 := blk_frozen BK105.out 1
                  have hfz40_2 := blk_frozen BK105.out 2
                  have hfz40_3 := blk_frozen BK105.out 3
                  go_wp2
                  go_ret
                  exact ⟨by first | rfl | (simp [errW_none, errW_some] <;> rfl) | (simp [*, errW_none, errW_some] <;> rfl), by repeat (first | (with_reducible first | exact HB.out | apply below_alloc | apply pw_below_drewN | apply below_drew1 | refine below_set ?_ GE105.out) | exact HB.out)⟩
        · rw [if_neg c20] at H
          have c20b0 : (a0_0 == 3) = false := beq_eq_false_iff_ne.mpr c20
          have c20b1 : (a0_0 != 3) = true := bne_iff_ne.mpr c20
          obtain rfl := Option.some.inj H
          go_enter Tryz.func57, Tryz.ntmps57
          go_wp2_with (first | ((with_reducible refine gate_dst (N := 2) rfl ?_); (try (refine gate_guard (by rfl) ?_; dsimp only)); refine box_event ?hg (N := 2) ?hd (cs := #[.int .i64 a0_0, .int .i64 a0_1, .string a0_2, .slice A0_3 l0_3.length c0_3]) (t := 38) ?hr ?_; (case hd => rfl); (case hg => rfl); (case hr => first | (go_simp; done) | (go_simp; rfl)); intro gb105 hg w41 hbox hb; have n0_ := Aside0.mk (below_step (by repeat (first | (with_reducible first | exact HB.out | apply below_alloc | apply pw_below_drewN | apply below_drew1) | exact HB.out)) hb); have n1_ := Aside0.mk (hbox); have n2_ := Aside0.mk ((by rw [hg]; exact (below_size (by repeat (first | (with_reducible first | exact HB.out | apply below_alloc | apply pw_below_drewN | apply below_drew1) | exact HB.out))) : w.heap.size ≤ gb105)); have n3_ := Aside0.mk ((by rw [hg]; exact (below_size (by repeat (first | (with_reducible first | exact HB.out | apply below_alloc | apply pw_below_drewN | apply below_drew1) | exact HB.out))) : w.heap.size ≤ gb105)); clear HB; have HB := n0_; have BK105 := n1_; have GW105 := n2_; have GE105 := n3_; clear n0_ n1_ n2_ n3_; clear hb hbox hg; have hcz42_0 : w41.cell? ⟨gb105, 0, none⟩ = some (.int .i64 a0_0) := (blk_cell BK105.out 0).trans rfl; have hcz42_1 : w41.cell? ⟨gb105, 1, none⟩ = some (.int .i64 a0_1) := (blk_cell BK105.out 1).trans rfl; have hcz42_2 : w41.cell? ⟨gb105, 2, none⟩ = some (.string a0_2) := (blk_cell BK105.out 2).trans rfl; have hcz42_3 : w41.cell? ⟨gb105, 3, none⟩ = some (.slice A0_3 l0_3.length c0_3) := (blk_cell BK105.out 3).trans rfl; have hfz42_0 := blk_frozen BK105.out 0; have hfz42_1 := blk_frozen BK105.out 1; have hfz42_2 := blk_frozen BK105.out 2; have hfz42_3 := blk_frozen BK105.out 3))
          go_ret
          exact ⟨by first | rfl | (simp [errW_none, errW_some] <;> rfl) | (simp [*, errW_none, errW_some] <;> rfl), by repeat (first | (with_reducible first | exact HB.out | apply below_alloc | apply pw_below_drewN | apply below_drew1 | refine below_set ?_ GE105.out) | exact HB.out)⟩

-- NOT PRINTED: function 88 (abi_NoEscape)

-- NOT PRINTED: function 76 (strings_Builder_copyCheck)

-- NOT PRINTED: function 75 (strings_Builder_WriteByte)

-- NOT PRINTED: function 58 (cell_writer_head)

-- NOT PRINTED: function 59 (strings_Builder_WriteString)

-- NOT PRINTED: function 33 (cell_writer_put)

-- NOT PRINTED: function 34 (strings_Builder_String)

-- NOT PRINTED: function 18 (cell_Put)

-- NOT PRINTED: function 6 (object_Put)

-- NOT PRINTED: function 61 (digest_begin)

-- NOT PRINTED: function 41 (digest_New)

-- NOT PRINTED: function 62 (digest_Hash_is)

-- NOT PRINTED: function 77 (digest_numbers)

-- NOT PRINTED: function 89 (digest_spread)

-- NOT PRINTED: function 78 (digest_state_turn)

-- NOT PRINTED: function 63 (digest_state_blocks)

-- NOT PRINTED: function 42 (digest_Hash_Put)

/-! ### digest_end: function 64 -/
mutual
def digest_end.l0 : Nat → Int → List Int → Option (ByteArray)
  | 0, _, _ => none
  | k + 1, x0, x3 => if (Int.tmod (wrap64 (x0 + (x3.length : Int))) 64) = 56 then (digest_end.l1 k x3 (IntKind.u64.wrap ((IntKind.u64.wrap (x0)) * 8)) 0) else (if x3.length < 140737488355328 then (digest_end.l0 k x0 (x3 ++ [0])) else (none))
def digest_end.l1 : Nat → List Int → Int → Int → Option (ByteArray)
  | 0, _, _, _ => none
  | k + 1, x3, x4, x19 => if x19 < 8 then (if 0 ≤ (wrap64 (56 - (wrap64 (8 * x19)))) then (if x3.length < 140737488355328 then (digest_end.l1 k (x3 ++ [(shr .u64 x4 (wrap64 (56 - (wrap64 (8 * x19))))) % 256]) x4 (wrap64 (x19 + 1))) else (none)) else (none)) else (some (strOfNums x3))
end
def digest_end.f (k : Nat) (a0 : Int) : Option (ByteArray) := digest_end.l0 k a0 (([128] : List Int))
set_option maxHeartbeats 8000000 in
set_option maxRecDepth 100000 in
theorem digest_end.calls (k : Nat) (a0 : Int) (r : ByteArray) (w : World) (h : digest_end.f k a0 = some r) :
    Calls Tryz.prog 64 #[.int .i64 a0] w fun e w' => e = .returned (.string r) ∧ Below w.heap.size w w' := by
  have HB := Aside0.mk (Below.refl w.heap.size w)
  have H : (digest_end.l0 k a0 (([128] : List Int))) = some r := h
  clear h
  obtain ⟨y115, hy115⟩ : ∃ y_ : List Int, y_ = (([128] : List Int)) := ⟨_, rfl⟩
  replace H : (digest_end.l0 k a0 y115) = some r := by first | (rw [hy115]; with_reducible exact H) | (have H2_ := (Option.bind_some _ _).symm.trans H; rw [hy115]; with_reducible exact H2_) | (have H2_ := (Option.bind_some _ _).symm.trans H; with_reducible exact H2_) | with_reducible exact H | (rw [hy115]; exact H) | exact H
  have Ny115 := Aside0.mk hy115
  clear hy115
  have H' := Aside0.mk H
  clear H
  go_enter Tryz.func64, Tryz.ntmps64
  go_wp2_with (first | ((with_reducible refine gate_dst (N := 6) rfl ?_); refine Kd.R_lit (Kd.int .u8) _ 5 ?hg (N := 6) ?hd (xs := ([128] : List Int)) (inner := [.int .u8 128]) (ok := fun _ => True) (okp := fun _ => True) ?hr ?hp (fun _ hk => hk) trivial (Below.refl _ _) (Nat.le_refl _) (by simp) ?_; (case hd => rfl); (case hg => rfl); (case hr => first | (go_simp; done) | (go_simp; rfl)); (case hp => exact (Reps.one (show Kd.M (Kd.int .u8) _ _ _ 128 [.int .u8 128] from rfl) (Reps.none _ _))); intro v116 w2 ho3 hb hg_ hnew_; clear hg_ hnew_; (first | rw [← Ny115.out] at ho3 | (simp only [Int.reduceToNat] at ho3; rw [← Ny115.out] at ho3)); have n0_ := Aside0.mk (Kd.R_lower ho3 (below_size (by repeat (first | (with_reducible first | exact HB.out | apply below_alloc | apply pw_below_drewN | apply below_drew1) | exact HB.out)))); have n1_ := Aside0.mk (below_step (by repeat (first | (with_reducible first | exact HB.out | apply below_alloc | apply pw_below_drewN | apply below_drew1) | exact HB.out)) hb); clear HB; have HO117 := n0_; have HB := n1_; clear n0_ n1_; clear hb ho3))
  go_loopg [3] k (fun kq v3 w' => ∃ (x3_1 : List Int), Aside0 (digest_end.l0 kq a0 x3_1 = some r) ∧ Aside0 (kq ≤ k) ∧ Aside0 (Kd.R (Kd.int .u8) 5 w' w.heap.size (fun _ => True) v3 x3_1) ∧ Aside0 (Below w.heap.size w w'))
  case atStart => exact ⟨(y115), H', ⟨Nat.le_refl _⟩, ⟨by (with_reducible repeat (first | apply Kd.R_alloc | apply Kd.R_drewN | apply Kd.R_drew)); exact HO117.out⟩, ⟨by repeat (first | (with_reducible first | exact HB.out | apply below_alloc | apply pw_below_drewN | apply below_drew1) | exact HB.out)⟩⟩
  case round =>
    clear H'
    try clear p2
    obtain ⟨x3_1, HA, HK1, HO_3, HB⟩ := hrel
    cases gk with
    | zero => exact absurd HA.out (by simp [digest_end.l0])
    | succ k1 =>
      have H := HA.out
      clear HA
      simp only [digest_end.l0] at H
      by_cases c4 : (Int.tmod (wrap64 (a0 + (x3_1.length : Int))) 64) = 56
      · rw [if_pos c4] at H
        have c4b0 : ((Int.tmod (wrap64 (a0 + (x3_1.length : Int))) 64) == 56) = true := beq_iff_eq.mpr c4
        have c4b1 : ((Int.tmod (wrap64 (a0 + (x3_1.length : Int))) 64) != 56) = false := bne_eq_false_iff_eq.mpr c4
        clear c4
        have H' := Aside0.mk H
        clear H
        obtain ⟨Ao5, co5, eo5⟩ := Kd.R_slice HO_3.out
        subst eo5
        go_wp2
        go_loopg [3, 19] k1 (fun kq v3 v19 w' => ∃ (x3_2 : List Int) (x19_2 : Int), v19 = .int .i64 x19_2 ∧ Aside0 (digest_end.l1 kq x3_2 (IntKind.u64.wrap ((IntKind.u64.wrap (a0)) * 8)) x19_2 = some r) ∧ Aside0 (kq ≤ k1) ∧ Aside0 (Kd.R (Kd.int .u8) 5 w' w.heap.size (fun _ => True) v3 x3_2) ∧ Aside0 (Below w.heap.size w w'))
        case atStart => exact ⟨(x3_1), (0), (by first | rfl | (simp; done) | (simp [*]; done)), H', ⟨Nat.le_refl _⟩, ⟨by (with_reducible repeat (first | apply Kd.R_alloc | apply Kd.R_drewN | apply Kd.R_drew)); exact HO_3.out⟩, ⟨by repeat (first | (with_reducible first | exact HB.out | apply below_alloc | apply pw_below_drewN | apply below_drew1) | exact HB.out)⟩⟩
        case round =>
          clear H'
          try clear p2
          try clear c4
          try clear c4b0
          try clear c4b1
          try clear p2
          obtain ⟨x3_2, x19_2, rfl, HA, HK2, HO_3, HB⟩ := hrel
          cases gk with
          | zero => exact absurd HA.out (by simp [digest_end.l1])
          | succ k2 =>
            have H := HA.out
            clear HA
            simp only [digest_end.l1] at H
            by_cases c6 : x19_2 < 8
            · rw [if_pos c6] at H
              have c6b0 : decide (x19_2 < 8) = true := decide_eq_true c6
              clear c6
              obtain ⟨ji7, hji7⟩ : ∃ j_ : Int, (wrap64 (56 - (wrap64 (8 * x19_2)))) = j_ := ⟨_, rfl⟩
              replace H : (if 0 ≤ (ji7) then (if x3_2.length < 140737488355328 then (digest_end.l1 k2 (x3_2 ++ [(shr .u64 (IntKind.u64.wrap ((IntKind.u64.wrap (a0)) * 8)) (ji7)) % 256]) (IntKind.u64.wrap ((IntKind.u64.wrap (a0)) * 8)) (wrap64 (x19_2 + 1))) else (none)) else (none)) = some r := by first | (rw [hji7] at H; exact H) | (simp only [hji7] at H ⊢; exact H)
              have hji7w : (IntKind.i64.wrap (56 - (wrap64 (8 * x19_2)))) = ji7 := (i64_w _).trans hji7
              by_cases c8 : 0 ≤ (ji7)
              · rw [if_pos c8] at H
                have c8b0 := eq_true c8
                have c8b1 : decide (0 ≤ (ji7)) = true := decide_eq_true c8
                clear c8
                obtain ⟨ji9, hji9⟩ : ∃ j_ : Int, (shr .u64 (IntKind.u64.wrap ((IntKind.u64.wrap (a0)) * 8)) (ji7)) = j_ := ⟨_, rfl⟩
                replace H : (if x3_2.length < 140737488355328 then (digest_end.l1 k2 (x3_2 ++ [(ji9) % 256]) (IntKind.u64.wrap ((IntKind.u64.wrap (a0)) * 8)) (wrap64 (x19_2 + 1))) else (none)) = some r := by first | (rw [hji9] at H; exact H) | (simp only [hji9] at H ⊢; exact H)
                have hji9_ : ((IntKind.u64.wrap ((IntKind.u64.wrap (a0)) * 8)) / 2 ^ min (ji7).toNat 64) = ji9 := hji9
                have hji9z : (ji7) ≤ 64 → ((IntKind.u64.wrap ((IntKind.u64.wrap (a0)) * 8)) / 2 ^ (ji7).toNat) = ji9 := shr_small hji9
                by_cases c10 : x3_2.length < 140737488355328
                · rw [if_pos c10] at H
                  have LMc10 := Aside0.mk c10
                  clear c10
                  obtain ⟨y121, hy121⟩ : ∃ y_ : List Int, y_ = (x3_2 ++ [(ji9) % 256]) := ⟨_, rfl⟩
                  replace H : (digest_end.l1 k2 y121 (IntKind.u64.wrap ((IntKind.u64.wrap (a0)) * 8)) (wrap64 (x19_2 + 1))) = some r := by first | (rw [hy121]; with_reducible exact H) | (have H2_ := (Option.bind_some _ _).symm.trans H; rw [hy121]; with_reducible exact H2_) | (have H2_ := (Option.bind_some _ _).symm.trans H; with_reducible exact H2_) | with_reducible exact H | (rw [hy121]; exact H) | exact H
                  have Ny121 := Aside0.mk hy121
                  clear hy121
                  have H' := Aside0.mk H
                  clear H
                  go_wp2_with (first | ((with_reducible refine gate_builtin (b := .append) (xs := #[.tmp 22, .tmp 29]) rfl ?_); at_builtin; refine Kd.R_append (Kd.int .u8) (w0 := w) w.heap.size rfl (.tmp 22) (.tmp 29) 78 5 (.int .u8 0) 1 rfl Tryz.underlying78 info5 rfl (by decide) (by omega) u3 x3_2 ((ji9) % 256) [.int .u8 ((ji9) % 256)] (fun _ => True) (fun _ => False) rfl rfl ?aP (fun _ hk => hk.elim) ?aF ?aO ?aB ?aS ?aL ?_; (case aP => exact rfl); (case aB => exact (by repeat (first | (with_reducible first | exact HB.out | apply below_alloc | apply pw_below_drewN | apply below_drew1) | exact HB.out))); (case aF => exact (fun _ _ => trivial)); (case aO => exact (by (with_reducible repeat (first | apply Kd.R_alloc | apply Kd.R_drewN | apply Kd.R_drew)); exact HO_3.out)); (case aS => exact (below_size (by repeat (first | (with_reducible first | exact HB.out | apply below_alloc | apply pw_below_drewN | apply below_drew1) | exact HB.out)))); (case aL => have := LMc10.out; omega); intro v122 w11 ho hb hg hat; rw [← Ny121.out] at ho; have n0_ := Aside0.mk (hb); have n1_ := Aside0.mk (ho); clear HB; clear HO_3; have HB := n0_; have HO123 := n1_; clear n0_ n1_; clear ho hb hg hat))
                  go_roundg k2
                  case measure => have := HK1.out; have := HK2.out; omega
                  case rel => exact ⟨(y121), (wrap64 (x19_2 + 1)), (by first | rfl | (simp; done) | (simp [*]; done)), H', ⟨by have := HK1.out; have := HK2.out; omega⟩, ⟨by (with_reducible repeat (first | apply Kd.R_alloc | apply Kd.R_drewN | apply Kd.R_drew)); exact HO123.out⟩, ⟨by repeat (first | (with_reducible first | exact HB.out | apply below_alloc | apply pw_below_drewN | apply below_drew1) | exact HB.out)⟩⟩
                · rw [if_neg c10] at H
                  exact absurd H (by simp)
              · rw [if_neg c8] at H
                exact absurd H (by simp)
            · rw [if_neg c6] at H
              have c6b0 : decide (x19_2 < 8) = false := decide_eq_false c6
              clear c6
              obtain rfl := Option.some.inj H
              have hcv12 := own_string (P := Tryz.prog) Tryz.underlying78 Tryz.underlying5 Tryz.underlying9 (Kd.own_of_R HO_3.out)
              go_wp2
              go_ret
              exact ⟨by first | rfl | (simp [errW_none, errW_some] <;> rfl) | (simp [*, errW_none, errW_some] <;> rfl), by repeat (first | (with_reducible first | exact HB.out | apply below_alloc | apply pw_below_drewN | apply below_drew1) | exact HB.out)⟩
      · rw [if_neg c4] at H
        have c4b0 : ((Int.tmod (wrap64 (a0 + (x3_1.length : Int))) 64) == 56) = false := beq_eq_false_iff_ne.mpr c4
        have c4b1 : ((Int.tmod (wrap64 (a0 + (x3_1.length : Int))) 64) != 56) = true := bne_iff_ne.mpr c4
        by_cases c13 : x3_1.length < 140737488355328
        · rw [if_pos c13] at H
          have LMc13 := Aside0.mk c13
          clear c13
          obtain ⟨y118, hy118⟩ : ∃ y_ : List Int, y_ = (x3_1 ++ [0]) := ⟨_, rfl⟩
          replace H : (digest_end.l0 k1 a0 y118) = some r := by first | (rw [hy118]; with_reducible exact H) | (have H2_ := (Option.bind_some _ _).symm.trans H; rw [hy118]; with_reducible exact H2_) | (have H2_ := (Option.bind_some _ _).symm.trans H; with_reducible exact H2_) | with_reducible exact H | (rw [hy118]; exact H) | exact H
          have Ny118 := Aside0.mk hy118
          clear hy118
          have H' := Aside0.mk H
          clear H
          obtain ⟨Ao14, co14, eo14⟩ := Kd.R_slice HO_3.out
          subst eo14
          go_wp2_with (first | ((with_reducible refine gate_builtin (b := .append) (xs := #[.tmp 13, .tmp 14]) rfl ?_); at_builtin; refine Kd.R_append (Kd.int .u8) (w0 := w) w.heap.size rfl (.tmp 13) (.tmp 14) 78 5 (.int .u8 0) 1 rfl Tryz.underlying78 info5 rfl (by decide) (by omega) (.slice Ao14 x3_1.length co14) x3_1 0 [.int .u8 0] (fun _ => True) (fun _ => False) rfl rfl ?aP (fun _ hk => hk.elim) ?aF ?aO ?aB ?aS ?aL ?_; (case aP => exact rfl); (case aB => exact (by repeat (first | (with_reducible first | exact HB.out | apply below_alloc | apply pw_below_drewN | apply below_drew1) | exact HB.out))); (case aF => exact (fun _ _ => trivial)); (case aO => exact (by (with_reducible repeat (first | apply Kd.R_alloc | apply Kd.R_drewN | apply Kd.R_drew)); exact HO_3.out)); (case aS => exact (below_size (by repeat (first | (with_reducible first | exact HB.out | apply below_alloc | apply pw_below_drewN | apply below_drew1) | exact HB.out)))); (case aL => have := LMc13.out; omega); intro v119 w15 ho hb hg hat; rw [← Ny118.out] at ho; have n0_ := Aside0.mk (hb); have n1_ := Aside0.mk (ho); clear HB; clear HO_3; have HB := n0_; have HO120 := n1_; clear n0_ n1_; clear ho hb hg hat))
          go_roundg k1
          case measure => have := HK1.out; omega
          case rel => exact ⟨(y118), H', ⟨by have := HK1.out; omega⟩, ⟨by (with_reducible repeat (first | apply Kd.R_alloc | apply Kd.R_drewN | apply Kd.R_drew)); exact HO120.out⟩, ⟨by repeat (first | (with_reducible first | exact HB.out | apply below_alloc | apply pw_below_drewN | apply below_drew1) | exact HB.out)⟩⟩
        · rw [if_neg c13] at H
          exact absurd H (by simp)

-- NOT PRINTED: function 65 (digest_state_bytes)

-- NOT PRINTED: function 43 (digest_Hash_Sum)

-- NOT PRINTED: function 22 (digest_Sum)

-- NOT PRINTED: function 8 (object_Id)

-- NOT PRINTED: function 13 (object_Check)

/-! ### cell_Num: function 49 -/
def cell_Num.f (a0 : Int) : Option (Int × Int × ByteArray × (List (S38))) := some (1, a0, (⟨#[]⟩ : ByteArray), ([] : List (S38)))
set_option maxHeartbeats 8000000 in
set_option maxRecDepth 100000 in
theorem cell_Num.calls (a0 : Int) (r1 : Int) (r2 : Int) (r3 : ByteArray) (r4 : List (S38)) (w : World) (h : cell_Num.f a0 = some (r1, r2, r3, r4)) :
    Calls Tryz.prog 49 #[.int .i64 a0] w fun e w' => ∃ v3_ : Value, e = .returned (.agg #[.int .i64 r1, .int .i64 r2, .string r3, v3_]) ∧ Kd.R k38 38 w' w.heap.size (fun _ => True) v3_ r4 ∧ Below w.heap.size w w' := by
  have hu38 := Tryz.underlying38
  have HB := Aside0.mk (Below.refl w.heap.size w)
  have H : (some (1, a0, (⟨#[]⟩ : ByteArray), ([] : List (S38)))) = some (r1, r2, r3, r4) := h
  clear h
  simp only [Option.some.injEq, Prod.mk.injEq] at H
  obtain ⟨rfl, rfl, rfl, rfl⟩ := H
  go_enter Tryz.func49, Tryz.ntmps49
  go_wp2_with (first | ((with_reducible refine gate_dst (N := 2) rfl ?_); refine box_event ?hg (N := 2) ?hd (cs := #[.int .i64 0, .int .i64 0, .string (⟨#[]⟩ : ByteArray), .slice none 0 0]) (t := 38) ?hr ?_; (case hd => rfl); (case hg => rfl); (case hr => first | (go_simp; done) | (go_simp; rfl)); intro gb126 hg w2 hbox hb; have n0_ := Aside0.mk (below_step (by repeat (first | (with_reducible first | exact HB.out | apply below_alloc | apply pw_below_drewN | apply below_drew1) | exact HB.out)) hb); have n1_ := Aside0.mk (hbox); have n2_ := Aside0.mk ((by rw [hg]; exact (below_size (by repeat (first | (with_reducible first | exact HB.out | apply below_alloc | apply pw_below_drewN | apply below_drew1) | exact HB.out))) : w.heap.size ≤ gb126)); have n3_ := Aside0.mk ((by rw [hg]; exact (below_size (by repeat (first | (with_reducible first | exact HB.out | apply below_alloc | apply pw_below_drewN | apply below_drew1) | exact HB.out))) : w.heap.size ≤ gb126)); clear HB; have HB := n0_; have BK126 := n1_; have GW126 := n2_; have GE126 := n3_; clear n0_ n1_ n2_ n3_; clear hb hbox hg; have hcz3_0 : w2.cell? ⟨gb126, 0, none⟩ = some (.int .i64 0) := (blk_cell BK126.out 0).trans rfl; have hcz3_1 : w2.cell? ⟨gb126, 1, none⟩ = some (.int .i64 0) := (blk_cell BK126.out 1).trans rfl; have hcz3_2 : w2.cell? ⟨gb126, 2, none⟩ = some (.string (⟨#[]⟩ : ByteArray)) := (blk_cell BK126.out 2).trans rfl; have hcz3_3 : w2.cell? ⟨gb126, 3, none⟩ = some (.slice none 0 0) := (blk_cell BK126.out 3).trans rfl; have hfz3_0 := blk_frozen BK126.out 0; have hfz3_1 := blk_frozen BK126.out 1; have hfz3_2 := blk_frozen BK126.out 2; have hfz3_3 := blk_frozen BK126.out 3))
  refine bodyPost_ret (results_cell_row rfl _ _ gb126 38 #[.int .i64 1, .int .i64 a0, .string (⟨#[]⟩ : ByteArray), .slice none 0 0] (0, 0) _ rfl (by (with_reducible repeat (first | refine blk_drewN ?_ _ | refine blk_drew ?_ | refine blk_alloc ?_ _)); refine blk_put (cs := #[.int .i64 1, .int .i64 a0, .string (⟨#[]⟩ : ByteArray), .slice none 0 0]) ?_ 3 _ rfl; (with_reducible repeat (first | refine blk_drewN ?_ _ | refine blk_drew ?_ | refine blk_alloc ?_ _)); refine blk_put (cs := #[.int .i64 1, .int .i64 a0, .string (⟨#[]⟩ : ByteArray), .slice none 0 0]) ?_ 2 _ rfl; (with_reducible repeat (first | refine blk_drewN ?_ _ | refine blk_drew ?_ | refine blk_alloc ?_ _)); refine blk_put (cs := #[.int .i64 1, .int .i64 0, .string (⟨#[]⟩ : ByteArray), .slice none 0 0]) ?_ 1 _ rfl; (with_reducible repeat (first | refine blk_drewN ?_ _ | refine blk_drew ?_ | refine blk_alloc ?_ _)); refine blk_put (cs := #[.int .i64 0, .int .i64 0, .string (⟨#[]⟩ : ByteArray), .slice none 0 0]) ?_ 0 _ rfl; (with_reducible repeat (first | refine blk_drewN ?_ _ | refine blk_drew ?_ | refine blk_alloc ?_ _)); exact BK126.out) Tryz.underlying38 rfl (by kernel_rfl)) rfl ?_
  exact ⟨_, by first | rfl | (simp [errW_none, errW_some] <;> rfl) | (simp [*, errW_none, errW_some] <;> rfl), by first | exact Kd.R_nil _ _ _ _ _ | exact Kd.N_nil _ _ _ _ _ | exact Kd.V_nil _ _ _ _ _ | exact Kd.Q_nil _ _ _ _ _ | exact Kd.S_nil _ _ _ _ _, by repeat (first | (with_reducible first | exact HB.out | apply below_alloc | apply pw_below_drewN | apply below_drew1 | refine below_set ?_ GE126.out) | exact HB.out)⟩

/-! ### cell_Text: function 50 -/
def cell_Text.f (a0 : ByteArray) : Option (Int × Int × ByteArray × (List (S38))) := some (2, 0, a0, ([] : List (S38)))
set_option maxHeartbeats 8000000 in
set_option maxRecDepth 100000 in
theorem cell_Text.calls (a0 : ByteArray) (r1 : Int) (r2 : Int) (r3 : ByteArray) (r4 : List (S38)) (w : World) (h : cell_Text.f a0 = some (r1, r2, r3, r4)) :
    Calls Tryz.prog 50 #[.string a0] w fun e w' => ∃ v3_ : Value, e = .returned (.agg #[.int .i64 r1, .int .i64 r2, .string r3, v3_]) ∧ Kd.R k38 38 w' w.heap.size (fun _ => True) v3_ r4 ∧ Below w.heap.size w w' := by
  have hu38 := Tryz.underlying38
  have HB := Aside0.mk (Below.refl w.heap.size w)
  have H : (some (2, 0, a0, ([] : List (S38)))) = some (r1, r2, r3, r4) := h
  clear h
  simp only [Option.some.injEq, Prod.mk.injEq] at H
  obtain ⟨rfl, rfl, rfl, rfl⟩ := H
  go_enter Tryz.func50, Tryz.ntmps50
  go_wp2_with (first | ((with_reducible refine gate_dst (N := 2) rfl ?_); refine box_event ?hg (N := 2) ?hd (cs := #[.int .i64 0, .int .i64 0, .string (⟨#[]⟩ : ByteArray), .slice none 0 0]) (t := 38) ?hr ?_; (case hd => rfl); (case hg => rfl); (case hr => first | (go_simp; done) | (go_simp; rfl)); intro gb127 hg w2 hbox hb; have n0_ := Aside0.mk (below_step (by repeat (first | (with_reducible first | exact HB.out | apply below_alloc | apply pw_below_drewN | apply below_drew1) | exact HB.out)) hb); have n1_ := Aside0.mk (hbox); have n2_ := Aside0.mk ((by rw [hg]; exact (below_size (by repeat (first | (with_reducible first | exact HB.out | apply below_alloc | apply pw_below_drewN | apply below_drew1) | exact HB.out))) : w.heap.size ≤ gb127)); have n3_ := Aside0.mk ((by rw [hg]; exact (below_size (by repeat (first | (with_reducible first | exact HB.out | apply below_alloc | apply pw_below_drewN | apply below_drew1) | exact HB.out))) : w.heap.size ≤ gb127)); clear HB; have HB := n0_; have BK127 := n1_; have GW127 := n2_; have GE127 := n3_; clear n0_ n1_ n2_ n3_; clear hb hbox hg; have hcz3_0 : w2.cell? ⟨gb127, 0, none⟩ = some (.int .i64 0) := (blk_cell BK127.out 0).trans rfl; have hcz3_1 : w2.cell? ⟨gb127, 1, none⟩ = some (.int .i64 0) := (blk_cell BK127.out 1).trans rfl; have hcz3_2 : w2.cell? ⟨gb127, 2, none⟩ = some (.string (⟨#[]⟩ : ByteArray)) := (blk_cell BK127.out 2).trans rfl; have hcz3_3 : w2.cell? ⟨gb127, 3, none⟩ = some (.slice none 0 0) := (blk_cell BK127.out 3).trans rfl; have hfz3_0 := blk_frozen BK127.out 0; have hfz3_1 := blk_frozen BK127.out 1; have hfz3_2 := blk_frozen BK127.out 2; have hfz3_3 := blk_frozen BK127.out 3))
  refine bodyPost_ret (results_cell_row rfl _ _ gb127 38 #[.int .i64 2, .int .i64 0, .string a0, .slice none 0 0] (0, 0) _ rfl (by (with_reducible repeat (first | refine blk_drewN ?_ _ | refine blk_drew ?_ | refine blk_alloc ?_ _)); refine blk_put (cs := #[.int .i64 2, .int .i64 0, .string a0, .slice none 0 0]) ?_ 3 _ rfl; (with_reducible repeat (first | refine blk_drewN ?_ _ | refine blk_drew ?_ | refine blk_alloc ?_ _)); refine blk_put (cs := #[.int .i64 2, .int .i64 0, .string (⟨#[]⟩ : ByteArray), .slice none 0 0]) ?_ 2 _ rfl; (with_reducible repeat (first | refine blk_drewN ?_ _ | refine blk_drew ?_ | refine blk_alloc ?_ _)); refine blk_put (cs := #[.int .i64 2, .int .i64 0, .string (⟨#[]⟩ : ByteArray), .slice none 0 0]) ?_ 1 _ rfl; (with_reducible repeat (first | refine blk_drewN ?_ _ | refine blk_drew ?_ | refine blk_alloc ?_ _)); refine blk_put (cs := #[.int .i64 0, .int .i64 0, .string (⟨#[]⟩ : ByteArray), .slice none 0 0]) ?_ 0 _ rfl; (with_reducible repeat (first | refine blk_drewN ?_ _ | refine blk_drew ?_ | refine blk_alloc ?_ _)); exact BK127.out) Tryz.underlying38 rfl (by kernel_rfl)) rfl ?_
  exact ⟨_, by first | rfl | (simp [errW_none, errW_some] <;> rfl) | (simp [*, errW_none, errW_some] <;> rfl), by first | exact Kd.R_nil _ _ _ _ _ | exact Kd.N_nil _ _ _ _ _ | exact Kd.V_nil _ _ _ _ _ | exact Kd.Q_nil _ _ _ _ _ | exact Kd.S_nil _ _ _ _ _, by repeat (first | (with_reducible first | exact HB.out | apply below_alloc | apply pw_below_drewN | apply below_drew1 | refine below_set ?_ GE127.out) | exact HB.out)⟩

-- NOT PRINTED: function 85 (cell_need)

-- NOT PRINTED: function 83 (cell_reader_bytes)

-- NOT PRINTED: function 84 (cell_first)

-- NOT PRINTED: function 72 (cell_reader_cell)

-- NOT PRINTED: function 54 (cell_Next)

-- NOT PRINTED: function 28 (cell_Take)

-- NOT PRINTED: function 95 (utf8_decodeRuneInStringSlow)

-- NOT PRINTED: function 94 (utf8_DecodeRuneInString)

-- NOT PRINTED: function 92 (value_each)

-- NOT PRINTED: function 80 (value_through)

-- NOT PRINTED: function 69 (value_Runes)

-- NOT PRINTED: function 48 (value_Check)

-- NOT PRINTED: function 24 (span_Check)

-- NOT PRINTED: function 87 (object_fields)

-- NOT PRINTED: function 86 (object_row)

-- NOT PRINTED: function 73 (object_taken)

-- NOT PRINTED: function 74 (object_kid)

-- NOT PRINTED: function 55 (object_nodeOf)

-- NOT PRINTED: function 56 (object_commitOf)

-- NOT PRINTED: function 29 (object_objectOf)

-- NOT PRINTED: function 30 (object_plain)

-- NOT PRINTED: function 15 (object_Take)

end Go.Proofs.YtgjlchcfdbmmlaaGreatDoor.PObjectPuts
namespace Go.Proofs.YtgjlchcfdbmmlaaGreatDoor.PObjectPuts
open Go.RowKit Go.Proofs.YtgjlchcfdbmmlaaGreatDoor.Ord Go.Proofs.YtgjlchcfdbmmlaaGreatDoor.Obj Go.Proofs.YtgjlchcfdbmmlaaGreatDoorW.PrintWords Go.Proofs.YtgjlchcfdbmmlaaGreatDoorW.PrintLast Go.Proofs.YtgjlchcfdbmmlaaGreatDoorW.PrintMore
attribute [local irreducible] OpGives

def isS (a b : Int) : Bool := decide (0 ≤ a) && (decide (a < b) && decide (b ≤ 1099511627776))
def sameV (x y : S48) : Bool := x.f0 == y.f0 && (x.f1 == y.f1 && (x.f2.toList == y.f2.toList))
/-- May a row stand behind another? -/
def nextOk (p : Option S50) (x : S50) : Bool := match p with
  | none => true
  | some q => !(decide (x.f0 < q.f1) || (x.f0 == q.f1 && sameV x.f2 q.f2))
theorem nextOk_some (q x : S50) : nextOk (some q) x = !(decide (x.f0 < q.f1) || (x.f0 == q.f1 && sameV x.f2 q.f2)) := rfl
def rowsFrom : Option S50 → List S50 → Bool
  | _, [] => true
  | p, x :: xs => (isS x.f0 x.f1 && okV x.f2) && (nextOk p x && rowsFrom (some x) xs)
/-- Are rows right? -/
def okRows (l : List S50) : Bool := decide (l.length ≤ 64) && rowsFrom none l
def prevOf (l : List S50) (i : Nat) : Option S50 := if i = 0 then none else l[i - 1]?
theorem rowsFrom_step {l : List S50} {i : Nat} {x : S50} (h : l[i]? = some x) : rowsFrom (prevOf l i) (l.drop i) = ((isS x.f0 x.f1 && okV x.f2) && (nextOk (prevOf l i) x && rowsFrom (prevOf l (i + 1)) (l.drop (i + 1)))) := by
  obtain ⟨hi, hx⟩ := List.getElem?_eq_some_iff.1 h
  rw [List.drop_eq_getElem_cons hi, rowsFrom, hx]
  unfold prevOf
  rw [if_neg (by omega : ¬ i + 1 = 0), show i + 1 - 1 = i from rfl, h]
theorem rowsFrom_end (l : List S50) (p : Option S50) : rowsFrom p (l.drop l.length) = true := by rw [List.drop_length]; cases p <;> rfl
set_option maxRecDepth 100000 in
theorem is_calls (a b : Int) (w : World) : Calls Tryz.prog 47 #[.int .i64 a, .int .i64 b] w fun e w' => e = .returned (.bool (isS a b)) ∧ w' = w := by
  unfold isS
  by_cases h0 : 0 ≤ a
  · by_cases h1 : a < b
    · by_cases h2 : b ≤ 1099511627776
      · rw [decide_eq_true h0, decide_eq_true h1, decide_eq_true h2]
        go_enter Tryz.func47, Tryz.ntmps47
        go_wp2
        go_ret
        exact ⟨rfl, rfl⟩
      · rw [decide_eq_true h0, decide_eq_true h1, decide_eq_false h2]
        go_enter Tryz.func47, Tryz.ntmps47
        go_wp2
        go_ret
        exact ⟨rfl, rfl⟩
    · rw [decide_eq_true h0, decide_eq_false h1]
      go_enter Tryz.func47, Tryz.ntmps47
      go_wp2
      go_ret
      exact ⟨rfl, rfl⟩
  · rw [decide_eq_false h0]
    go_enter Tryz.func47, Tryz.ntmps47
    go_wp2
    go_ret
    exact ⟨rfl, rfl⟩
theorem eqV_run (d : Nat) (w : World) (x0 y0 : Int) (x1 y1 : Int) (x2 y2 : ByteArray) :
    (Op.equalIn (d + 2) 48 (.agg #[.int .i64 x0, .int .i64 x1, .string x2]) (.agg #[.int .i64 y0, .int .i64 y1, .string y2])).run Tryz.prog w = .ok (x0 == y0 && (x1 == y1 && (x2.toList == y2.toList))) w := by
  refine eqA_of Tryz.underlying48 (by kernel_rfl) ?_
  refine eqf_cons (by rfl) (by go_simp; rfl) (by go_simp; rfl) (by go_simp) ?_
  refine eqf_cons (by rfl) (by go_simp; rfl) (by go_simp; rfl) (by go_simp) ?_
  exact eqf_last (by rfl) (by go_simp; rfl) (by go_simp; rfl) (by go_simp)
theorem box5 {W : World} {g : Nat} {a b c d e : Value} (h : W.heap[g]? = some (.cells #[a, b, c, d, e] 50 (0, 0))) :
    W.cell? ⟨g, 0, none⟩ = some a ∧ W.cell? ⟨g, 1, none⟩ = some b ∧ W.cell? ⟨g, 2, none⟩ = some c ∧ W.cell? ⟨g, 3, none⟩ = some d ∧ W.cell? ⟨g, 4, none⟩ = some e := by
  refine ⟨?_, ?_, ?_, ?_, ?_⟩ <;> (rw [Lib.cell_of_heap h]; rfl)
attribute [local go_sem high] eqV_run
theorem row_at {w : World} {A : Option Addr} {l : List S50} {i : Nat} {x : S50} (h : Kd.C k50 w A l.length l) (hx : l[i]? = some x) :
    ∃ ad, A = some ad ∧ w.cell? (ad.add (i * 5)) = some (.int .i64 x.f0) ∧ w.cell? ⟨(ad.add (i * 5)).block, (ad.add (i * 5)).off + 1, none⟩ = some (.int .i64 x.f1) ∧ w.cell? ⟨(ad.add (i * 5)).block, (ad.add (i * 5)).off + 2, none⟩ = some (.int .i64 x.f2.f0) ∧ w.cell? ⟨(ad.add (i * 5)).block, (ad.add (i * 5)).off + 3, none⟩ = some (.int .i64 x.f2.f1) ∧ w.cell? ⟨(ad.add (i * 5)).block, (ad.add (i * 5)).off + 4, none⟩ = some (.string x.f2.f2) ∧ (ad.add (i * 5)).block < w.heap.size := by
  have hi : i < l.length := (List.getElem?_eq_some_iff.1 hx).1
  obtain ⟨ad, e, c0, c1, c2, c3, c4⟩ := at_T50 h (i : Int) (by omega) (by omega)
  have hrd : rd_T50 l (i : Int) = x := by unfold rd_T50; rw [Int.toNat_natCast, List.getD_eq_getElem?_getD, hx]; rfl
  rw [hrd] at c0 c1 c2 c3 c4
  rw [Int.toNat_natCast] at c0 c1 c2 c3 c4
  exact ⟨ad, e, c0, c1, c2, c3, c4, block_lt_of_cell c0⟩
set_option maxHeartbeats 8000000 in
set_option maxRecDepth 100000 in
theorem scheck_calls (l : List S50) (A : Option Addr) (c : Nat) (w : World) (hA : Kd.C k50 w A l.length l) (hc : l.length ≤ c) (hT : Lib.Utf8Tabs 0 1 w) :
    Calls Tryz.prog 24 #[.slice A l.length c] w fun e w' => e = .returned (.int .i64 (if okRows l then 0 else 2)) ∧ Below w.heap.size w w' := by
  have HA := Lib.hid hA
  have HT := Lib.hid hT
  clear hA hT
  unfold okRows
  by_cases hl : l.length ≤ 64
  · have hl' : ¬ (64 : Int) < (l.length : Int) := by omega
    rw [decide_eq_true hl, Bool.true_and]
    obtain ⟨R, hR⟩ : ∃ R, R = rowsFrom none l := ⟨_, rfl⟩
    rw [← hR]
    have hrel0 : R = rowsFrom (prevOf l 0) (l.drop 0) := hR
    obtain ⟨RV, hRV⟩ : ∃ RV : Int, RV = if R then 0 else 2 := ⟨_, rfl⟩
    rw [← hRV]
    have HRV := Lib.hid hRV
    clear hRV
    have HR := Lib.hid hrel0
    clear hR hrel0
    go_enter Tryz.func24, Tryz.ntmps24
    go_wp2_with fail
    go_loopw [11] (fun v wr => ∃ i : Nat, v = .int .i64 (i : Int) ∧ i ≤ l.length ∧ Hid (R = rowsFrom (prevOf l i) (l.drop i)) ∧ Below w.heap.size w wr) (fun v _ => l.length - (intOf v).toNat)
    case atStart => exact ⟨0, rfl, Nat.zero_le _, HR, Below.refl _ _⟩
    case round =>
      obtain ⟨i, rfl, hi, hr, hbe⟩ := hrel
      have HBE := Lib.hid hbe
      clear hbe
      by_cases hil : i < l.length
      · obtain ⟨x, hx⟩ : ∃ x, l[i]? = some x := ⟨_, List.getElem?_eq_getElem hil⟩
        obtain ⟨ad, rfl, c0, c1, c2, c3, c4, hbk⟩ := row_at (Kd.C_below HA.out HBE.out) hx
        have hst := rowsFrom_step hx
        have hr2 := hr.out
        rw [hst] at hr2
        have HR2 := Lib.hid hr2
        have HX := Lib.hid hx
        clear hst hr2 hr hx
        go_wp2_with fail
        obtain ⟨W1, hW1⟩ : ∃ W1, W1 = wr.alloc (.cells #[.int .i64 x.f0, .int .i64 x.f1, .int .i64 x.f2.f0, .int .i64 x.f2.f1, .string x.f2.f2] 50) := ⟨_, rfl⟩
        rw [← hW1]
        have hn1 : Below wr.heap.size wr W1 := by rw [hW1]; exact (Below.refl _ _).alloc (Nat.le_refl _) _
        have hg1 : W1.heap[wr.heap.size]? = some (.cells #[.int .i64 x.f0, .int .i64 x.f1, .int .i64 x.f2.f0, .int .i64 x.f2.f1, .string x.f2.f2] 50 (0, 0)) := by rw [hW1]; exact alloc_lastV _ _
        have hb1 : Below w.heap.size w W1 := HBE.out.trans (hn1.mono HBE.out.size)
        have HB1 := Lib.hid hb1
        have HG1 := Lib.hid hg1
        have hv := vcheck_calls x.f2.f0 x.f2.f1 x.f2.f2 W1 (Utf8Tabs_below HT.out hb1)
        obtain ⟨d0, d1, d2, d3, d4⟩ := box5 hg1
        have HV := Lib.hid hv
        clear hW1 hn1 hg1 hb1 hv c0 c1 c2 c3 c4 hbk
        refine (is_calls x.f0 x.f1 W1).mono ?_
        rintro e W2 ⟨rfl, rfl⟩
        cases hIs : isS x.f0 x.f1 with
        | false =>
          have hR2 := HR2.out
          rw [hIs, Bool.false_and, Bool.false_and] at hR2
          have HR3 := Lib.hid hR2
          clear hR2
          go_wp2_with fail
          go_ret
          exact ⟨by rw [HRV.out, HR3.out]; rfl, HB1.out⟩
        | true =>
          have hR2 := HR2.out
          rw [hIs, Bool.true_and] at hR2
          have HR3 := Lib.hid hR2
          clear hR2 hIs
          go_wp2_with fail
          refine HV.out.mono ?_
          rintro e W3 ⟨rfl, hb3⟩
          have hB3 : Below w.heap.size w W3 := HB1.out.trans (hb3.mono HB1.out.size)
          have hg3 := (hb3.block _ (Array.getElem?_eq_some_iff.1 HG1.out).1).trans HG1.out
          have HB3 := Lib.hid hB3
          have HG3 := Lib.hid hg3
          clear d0 d1 d2 d3 d4 hb3
          obtain ⟨d0, d1, d2, d3, d4⟩ := box5 hg3
          clear hg3 hB3
          cases hOk : okV ⟨x.f2.f0, x.f2.f1, x.f2.f2⟩ with
          | false =>
            have hR3 := HR3.out
            rw [show okV x.f2 = false from hOk, Bool.false_and] at hR3
            have HR4 := Lib.hid hR3
            clear hR3
            go_wp2_with fail
            go_ret
            exact ⟨by rw [HRV.out, HR4.out]; rfl, HB3.out⟩
          | true =>
            have hR3 := HR3.out
            rw [show okV x.f2 = true from hOk, Bool.true_and] at hR3
            have HR4 := Lib.hid hR3
            clear hR3 hOk
            rcases Nat.eq_zero_or_pos i with hi0 | hi0
            · subst hi0
              go_wp2_with fail
              go_roundw
              case rel => exact ⟨1, rfl, hil, Lib.hid HR4.out, HB3.out⟩
              case measure => simp [intOf]; omega
            · obtain ⟨k, rfl⟩ : ∃ k, i = k + 1 := ⟨i - 1, by omega⟩
              obtain ⟨q, hq⟩ : ∃ q, l[k]? = some q := ⟨_, List.getElem?_eq_getElem (by omega)⟩
              obtain ⟨ad', e', b0, b1, b2, b3, b4, hbk'⟩ := row_at (Kd.C_below HA.out HB3.out) hq
              cases e'
              have hpv : prevOf l (k + 1) = some q := by unfold prevOf; rw [if_neg (by omega), show k + 1 - 1 = k from rfl, hq]
              have hR4 := HR4.out
              rw [hpv] at hR4
              have HR5 := Lib.hid hR4
              clear hR4 hq hpv
              obtain ⟨W4, hW4⟩ : ∃ W4, W4 = W3.alloc (.cells #[.int .i64 q.f0, .int .i64 q.f1, .int .i64 q.f2.f0, .int .i64 q.f2.f1, .string q.f2.f2] 50) := ⟨_, rfl⟩
              have hn4 : Below W3.heap.size W3 W4 := by rw [hW4]; exact (Below.refl _ _).alloc (Nat.le_refl _) _
              have hg4 : W4.heap[W3.heap.size]? = some (.cells #[.int .i64 q.f0, .int .i64 q.f1, .int .i64 q.f2.f0, .int .i64 q.f2.f1, .string q.f2.f2] 50 (0, 0)) := by rw [hW4]; exact alloc_lastV _ _
              have hg5 := (hn4.block _ (Array.getElem?_eq_some_iff.1 HG3.out).1).trans HG3.out
              obtain ⟨e0, e1, e2, e3, e4⟩ := box5 hg4
              obtain ⟨f0, f1, f2, f3, f4⟩ := box5 hg5
              have HB4 := Lib.hid (HB3.out.trans (hn4.mono HB3.out.size))
              rw [hW4] at e0 e1 e2 e3 e4 f0 f1 f2 f3 f4
              have HW4 := Lib.hid hW4
              clear hW4 hn4 hg4 hg5
              by_cases hlt : x.f0 < q.f1
              · have hR5 := HR5.out
                rw [show nextOk (some q) x = false from by rw [nextOk_some, decide_eq_true hlt]; rfl] at hR5
                have HR6 := Lib.hid hR5
                clear hR5
                go_wp2_with fail
                rw [← HW4.out]
                go_ret
                exact ⟨by rw [HRV.out, HR6.out]; rfl, HB4.out⟩
              · by_cases heq : x.f0 = q.f1
                · obtain ⟨sv, hsv⟩ : ∃ sv, sv = (x.f2.f0 == q.f2.f0 && (x.f2.f1 == q.f2.f1 && (x.f2.f2.toList == q.f2.f2.toList))) := ⟨_, rfl⟩
                  have hR5 := HR5.out
                  rw [show nextOk (some q) x = !sv from by rw [nextOk_some, decide_eq_false hlt, heq, hsv]; simp [sameV]] at hR5
                  have HR6 := Lib.hid hR5
                  have heqb : (x.f0 == q.f1) = true := by simpa using heq
                  clear hR5 heq
                  cases sv with
                  | true =>
                    have hsv' := hsv.symm
                    clear hsv
                    go_wp2_with fail
                    rw [← HW4.out]
                    go_ret
                    exact ⟨by rw [HRV.out, HR6.out]; rfl, HB4.out⟩
                  | false =>
                    have hsv' := hsv.symm
                    clear hsv
                    have hR6 := HR6.out
                    rw [Bool.not_false, Bool.true_and] at hR6
                    have HR7 := Lib.hid hR6
                    clear hR6
                    go_wp2_with fail
                    rw [← HW4.out]
                    go_roundw
                    case rel => exact ⟨k + 1 + 1, by go_num, hil, Lib.hid HR7.out, HB4.out⟩
                    case measure => simp [intOf]; omega
                · have hR5 := HR5.out
                  have heqb : (x.f0 == q.f1) = false := by simpa using heq
                  rw [show nextOk (some q) x = true from by rw [nextOk_some, decide_eq_false hlt, heqb]; rfl, Bool.true_and] at hR5
                  have HR6 := Lib.hid hR5
                  clear hR5
                  go_wp2_with fail
                  rw [← HW4.out]
                  go_roundw
                  case rel => exact ⟨k + 1 + 1, by go_num, hil, Lib.hid HR6.out, HB4.out⟩
                  case measure => simp [intOf]; omega
      · have hie : i = l.length := by omega
        have hR2 := hr.out
        rw [hie, rowsFrom_end] at hR2
        have HR3 := Lib.hid hR2
        clear hR2 hr hie
        go_wp2_with fail
        go_ret
        exact ⟨by rw [HRV.out, HR3.out]; rfl, HBE.out⟩
  · have hl' : (64 : Int) < (l.length : Int) := by omega
    rw [decide_eq_false hl]
    go_enter Tryz.func24, Tryz.ntmps24
    go_wp2_with fail
    go_ret
    exact ⟨rfl, Below.refl _ _⟩
end Go.Proofs.YtgjlchcfdbmmlaaGreatDoor.PObjectPuts
namespace Go.Proofs.YtgjlchcfdbmmlaaGreatDoor.PObjectPuts
open Go.RowKit Go.Proofs.YtgjlchcfdbmmlaaGreatDoor.Ord Go.Proofs.YtgjlchcfdbmmlaaGreatDoor.Obj Go.Proofs.YtgjlchcfdbmmlaaGreatDoorW.PrintWords Go.Proofs.YtgjlchcfdbmmlaaGreatDoorW.PrintLast Go.Proofs.YtgjlchcfdbmmlaaGreatDoorW.PrintMore
attribute [local irreducible] OpGives

/-- An object's parts. -/
structure Ob where
  kind : Int
  label : ByteArray
  rows : List S50
  kids : List S52
  parents : List ByteArray
  stamp : Int
  note : ByteArray
  root : ByteArray
/-- An object's cells. -/
def obV (o : Ob) (Ar : Option Addr) (cr : Nat) (Ak : Option Addr) (ck : Nat) (Ap : Option Addr) (cp : Nat) : Array Value :=
  #[.int .i64 o.kind, .string o.label, .slice Ar o.rows.length cr, .slice Ak o.kids.length ck, .slice Ap o.parents.length cp, .int .i64 o.stamp, .string o.note, .string o.root]
/-- An object's lists lie in memory. -/
structure ObAt (w : World) (o : Ob) (Ar : Option Addr) (cr : Nat) (Ak : Option Addr) (ck : Nat) (Ap : Option Addr) (cp : Nat) : Prop where
  r : Kd.C k50 w Ar o.rows.length o.rows
  lr : o.rows.length ≤ cr
  k : Kd.C k52 w Ak o.kids.length o.kids
  lk : o.kids.length ≤ ck
  p : Kd.C Kd.string w Ap o.parents.length o.parents
  lp : o.parents.length ≤ cp
theorem ObAt.below {w w' : World} {o : Ob} {Ar : Option Addr} {cr : Nat} {Ak : Option Addr} {ck : Nat} {Ap : Option Addr} {cp : Nat} (h : ObAt w o Ar cr Ak ck Ap cp) (hb : Below w.heap.size w w') : ObAt w' o Ar cr Ak ck Ap cp :=
  ⟨Kd.C_below h.r hb, h.lr, Kd.C_below h.k hb, h.lk, Kd.C_below h.p hb, h.lp⟩
def kidNext (p : Option S52) (x : S52) : Bool := match p with | none => true | some q => decide (q.f0 < x.f0)
def kidsFrom : Option S52 → List S52 → Bool
  | _, [] => true
  | p, x :: xs => decide (x.f1.size = 32) && (kidNext p x && kidsFrom (some x) xs)
def prevKid (l : List S52) (i : Nat) : Option S52 := if i = 0 then none else l[i - 1]?
theorem kidsFrom_step {l : List S52} {i : Nat} {x : S52} (h : l[i]? = some x) : kidsFrom (prevKid l i) (l.drop i) = (decide (x.f1.size = 32) && (kidNext (prevKid l i) x && kidsFrom (prevKid l (i + 1)) (l.drop (i + 1)))) := by
  obtain ⟨hi, hx⟩ := List.getElem?_eq_some_iff.1 h
  rw [List.drop_eq_getElem_cons hi, kidsFrom, hx]
  unfold prevKid
  rw [if_neg (by omega : ¬ i + 1 = 0), show i + 1 - 1 = i from rfl, h]
theorem kidsFrom_end (l : List S52) (p : Option S52) : kidsFrom p (l.drop l.length) = true := by rw [List.drop_length]; cases p <;> rfl
/-- Is a node right? -/
def okNode (o : Ob) : Bool :=
  decide (o.parents.length = 0) && (decide (o.stamp = 0) && (decide (o.note.size = 0) && (decide (o.root.size = 0) && (decide (o.label.size ≤ 24) && (okRows o.rows && kidsFrom none o.kids)))))
theorem box8 {W : World} {g : Nat} {t : TypeId} {a b c d e f h i : Value} (hg : W.heap[g]? = some (.cells #[a, b, c, d, e, f, h, i] t (0, 0))) :
    (W.cell? ⟨g, 0, none⟩ = some a ∧ W.cell? ⟨g, 1, none⟩ = some b ∧ W.cell? ⟨g, 2, none⟩ = some c ∧ W.cell? ⟨g, 3, none⟩ = some d) ∧ W.cell? ⟨g, 4, none⟩ = some e ∧ W.cell? ⟨g, 5, none⟩ = some f ∧ W.cell? ⟨g, 6, none⟩ = some h ∧ W.cell? ⟨g, 7, none⟩ = some i := by
  refine ⟨⟨?_, ?_, ?_, ?_⟩, ?_, ?_, ?_, ?_⟩ <;> (rw [Lib.cell_of_heap hg]; rfl)
theorem box4 {W : World} {g : Nat} {t : TypeId} {a b c d : Value} (hg : W.heap[g]? = some (.cells #[a, b, c, d] t (0, 0))) : (W.cell? ⟨g, 0, none⟩ = some a ∧ W.cell? ⟨g, 1, none⟩ = some b ∧ W.cell? ⟨g, 2, none⟩ = some c ∧ W.cell? ⟨g, 3, none⟩ = some d) ∧ W.frozen? ⟨g, 0, none⟩ = false ∧ W.frozen? ⟨g, 1, none⟩ = false ∧ W.frozen? ⟨g, 2, none⟩ = false ∧ W.frozen? ⟨g, 3, none⟩ = false := by
  refine ⟨⟨?_, ?_, ?_, ?_⟩, Lib.frozen_of_heap hg 0, Lib.frozen_of_heap hg 1, Lib.frozen_of_heap hg 2, Lib.frozen_of_heap hg 3⟩ <;> (rw [Lib.cell_of_heap hg]; rfl)
theorem box2 {W : World} {g : Nat} {t : TypeId} {a b : Value} (hg : W.heap[g]? = some (.cells #[a, b] t (0, 0))) : W.cell? ⟨g, 0, none⟩ = some a ∧ W.cell? ⟨g, 1, none⟩ = some b := by
  refine ⟨?_, ?_⟩ <;> (rw [Lib.cell_of_heap hg]; rfl)
theorem empty_str {s : ByteArray} (h : s.size = 0) : s = ⟨#[]⟩ := by
  rcases s with ⟨⟨l⟩⟩
  have : l.length = 0 := h
  rw [List.eq_nil_of_length_eq_zero this]
theorem full_str {s : ByteArray} (h : s.size ≠ 0) : (s.toList == ([] : List UInt8)) = false := by
  rw [beq_eq_false_iff_ne]; intro e; exact h (by rw [Lib.size_eq, ← Lib.toList_data, e]; rfl)
theorem kid_at {w : World} {A : Option Addr} {l : List S52} {i : Nat} {x : S52} (h : Kd.C k52 w A l.length l) (hx : l[i]? = some x) :
    ∃ ad, A = some ad ∧ w.cell? (ad.add (i * 2)) = some (.int .u8 x.f0) ∧ w.cell? ⟨(ad.add (i * 2)).block, (ad.add (i * 2)).off + 1, none⟩ = some (.string x.f1) ∧ (ad.add (i * 2)).block < w.heap.size := by
  have hi : i < l.length := (List.getElem?_eq_some_iff.1 hx).1
  obtain ⟨ad, e, c0, c1⟩ := at_T52 h (i : Int) (by omega) (by omega)
  have hrd : rd_T52 l (i : Int) = x := by unfold rd_T52; rw [Int.toNat_natCast, List.getD_eq_getElem?_getD, hx]; rfl
  rw [hrd] at c0 c1
  rw [Int.toNat_natCast] at c0 c1
  exact ⟨ad, e, c0, c1, block_lt_of_cell c0⟩
set_option maxHeartbeats 8000000 in
set_option maxRecDepth 100000 in
theorem nright_calls (o : Ob) (Ar : Option Addr) (cr : Nat) (Ak : Option Addr) (ck : Nat) (Ap : Option Addr) (cp : Nat) (w : World) (hO : ObAt w o Ar cr Ak ck Ap cp) (hT : Lib.Utf8Tabs 0 1 w) :
    Calls Tryz.prog 112 #[.agg (obV o Ar cr Ak ck Ap cp)] w fun e w' => e = .returned (.bool (okNode o)) ∧ Below w.heap.size w w' := by
  obtain ⟨RV, hRV⟩ : ∃ RV, RV = okNode o := ⟨_, rfl⟩
  rw [← hRV]
  obtain ⟨knd, lab, rws, kds, prs, stp, nte, rot⟩ := o
  unfold okNode at hRV
  unfold obV
  simp only at hRV hO ⊢
  have hOr := hO.r
  have hOlr := hO.lr
  have hOk := hO.k
  clear hO
  simp only at hOr hOlr hOk
  generalize prs.length = pl at hRV ⊢
  obtain ⟨W1, hW1⟩ : ∃ W1, W1 = w.alloc (.cells #[.int .i64 knd, .string lab, .slice Ar rws.length cr, .slice Ak kds.length ck, .slice Ap pl cp, .int .i64 stp, .string nte, .string rot] 73) := ⟨_, rfl⟩
  have hn1 : Below w.heap.size w W1 := by rw [hW1]; exact (Below.refl _ _).alloc (Nat.le_refl _) _
  have hg1 : W1.heap[w.heap.size]? = some (.cells #[.int .i64 knd, .string lab, .slice Ar rws.length cr, .slice Ak kds.length ck, .slice Ap pl cp, .int .i64 stp, .string nte, .string rot] 73 (0, 0)) := by rw [hW1]; exact alloc_lastV _ _
  obtain ⟨⟨b0, b1, b2, b3⟩, b4, b5, b6, b7⟩ := box8 hg1
  have hS := scheck_calls rws Ar cr W1 (Kd.C_below hOr hn1) hOlr (Utf8Tabs_below hT hn1)
  have HS := Lib.hid hS
  have HK := Lib.hid (Kd.C_below hOk hn1)
  have HN1 := Lib.hid hn1
  have HG1 := Lib.hid hg1
  have HRV := Lib.hid hRV
  rw [hW1] at b0 b1 b2 b3 b4 b5 b6 b7
  have HW1 := Lib.hid hW1
  clear hW1 hn1 hg1 hOr hOlr hOk hT hRV hS
  by_cases h1 : pl = 0
  · subst h1
    by_cases h2 : stp = 0
    · subst h2
      by_cases h3 : nte.size = 0
      · obtain rfl := empty_str h3
        by_cases h4 : rot.size = 0
        · obtain rfl := empty_str h4
          by_cases h5 : lab.size ≤ 24
          · have h5' : ¬ (24 : Int) < (lab.size : Int) := by omega
            have hRV2 := HRV.out
            rw [decide_eq_true h3, decide_eq_true h5] at hRV2
            simp only [decide_true, Bool.true_and] at hRV2
            have HRV2 := Lib.hid hRV2
            clear hRV2 HRV
            go_enter Tryz.func112, Tryz.ntmps112
            go_wp2_with fail
            rw [← HW1.out]
            clear b0 b1 b2 b3 b4 b5 b6 b7
            refine HS.out.mono ?_
            rintro e W2 ⟨rfl, hb2⟩
            have hg2 := (hb2.block _ (Array.getElem?_eq_some_iff.1 HG1.out).1).trans HG1.out
            have hB2 := HN1.out.trans (hb2.mono HN1.out.size)
            have hK2 := Kd.C_below HK.out hb2
            obtain ⟨⟨b0, b1, b2, b3⟩, b4, b5, b6, b7⟩ := box8 hg2
            have HB2 := Lib.hid hB2
            have HG2 := Lib.hid hg2
            have HK2 := Lib.hid hK2
            clear hb2 hg2 hB2 hK2
            cases hrw : okRows rws with
            | false =>
              have hRV3 := HRV2.out
              rw [hrw, Bool.false_and] at hRV3
              have HRV3 := Lib.hid hRV3
              clear hRV3 hrw
              go_wp2_with fail
              go_ret
              exact ⟨by rw [HRV3.out]; rfl, HB2.out⟩
            | true =>
              have hRV3 := HRV2.out
              rw [hrw, Bool.true_and] at hRV3
              have HRV3 := Lib.hid (show RV = kidsFrom (prevKid kds 0) (kds.drop 0) from hRV3)
              clear hRV3 hrw
              go_wp2_with fail
              clear b0 b1 b2 b3 b4 b5 b6 b7
              go_loopw [41] (fun v wr => ∃ i : Nat, v = .int .i64 (i : Int) ∧ i ≤ kds.length ∧ Hid (RV = kidsFrom (prevKid kds i) (kds.drop i)) ∧ Below W2.heap.size W2 wr) (fun v _ => kds.length - (intOf v).toNat)
              case atStart => exact ⟨0, rfl, Nat.zero_le _, HRV3, Below.refl _ _⟩
              case round =>
                obtain ⟨i, rfl, hi, hr, hbe⟩ := hrel
                have hgr := (hbe.block _ (Array.getElem?_eq_some_iff.1 HG2.out).1).trans HG2.out
                have hkr := Kd.C_below HK2.out hbe
                have HBE := Lib.hid (HB2.out.trans (hbe.mono HB2.out.size))
                have HBE2 := Lib.hid hbe
                by_cases hil : i < kds.length
                · obtain ⟨x, hx⟩ : ∃ x, kds[i]? = some x := ⟨_, List.getElem?_eq_getElem hil⟩
                  obtain ⟨ad, rfl, c0, c1, hbk⟩ := kid_at hkr hx
                  have hst := kidsFrom_step hx
                  have hr2 := hr.out
                  rw [hst] at hr2
                  have HR2 := Lib.hid hr2
                  obtain ⟨W3, hW3⟩ : ∃ W3, W3 = wr.alloc (.cells #[.int .u8 x.f0, .string x.f1] 52) := ⟨_, rfl⟩
                  have hn3 : Below wr.heap.size wr W3 := by rw [hW3]; exact (Below.refl _ _).alloc (Nat.le_refl _) _
                  have hg3 : W3.heap[wr.heap.size]? = some (.cells #[.int .u8 x.f0, .string x.f1] 52 (0, 0)) := by rw [hW3]; exact alloc_lastV _ _
                  have hgr3 := (hn3.block _ (Array.getElem?_eq_some_iff.1 hgr).1).trans hgr
                  have HB3 := Lib.hid (HBE.out.trans (hn3.mono HBE.out.size))
                  have HB32 := Lib.hid (HBE2.out.trans (hn3.mono HBE2.out.size))
                  have HK3 := Lib.hid (Kd.C_below hkr hn3)
                  obtain ⟨e0, e1⟩ := box2 hg3
                  have b3 : W3.cell? ⟨w.heap.size, 3, none⟩ = some (.slice (some ad) kds.length ck) := (box8 hgr3).1.2.2.2
                  have HW3 := Lib.hid hW3
                  clear hst hr2 hr hx hW3 hn3 hg3 hgr3 hgr hkr hbe
                  go_wp2_with fail
                  rw [← HW3.out]
                  clear c0 c1 hbk
                  by_cases h32 : x.f1.size = 32
                  · have h32' : ((x.f1.size : Int) == 32) = true := by rw [h32]; rfl
                    have hR2 := HR2.out
                    rw [decide_eq_true h32, Bool.true_and] at hR2
                    have HR3 := Lib.hid hR2
                    clear hR2
                    rcases Nat.eq_zero_or_pos i with hi0 | hi0
                    · subst hi0
                      have hR3 := HR3.out
                      rw [show kidNext (prevKid kds 0) x = true from rfl, Bool.true_and] at hR3
                      have HR4 := Lib.hid hR3
                      clear hR3
                      go_quiet (fail)
                      go_wp2_with fail
                      go_roundw
                      case rel => exact ⟨1, rfl, hil, Lib.hid HR4.out, pw_below_drewN HB32.out _⟩
                      case measure => simp [intOf]; omega
                    · obtain ⟨k, rfl⟩ : ∃ k, i = k + 1 := ⟨i - 1, by omega⟩
                      obtain ⟨q, hq⟩ : ∃ q, kds[k]? = some q := ⟨_, List.getElem?_eq_getElem (by omega)⟩
                      obtain ⟨ad', e', c0, c1, hbk'⟩ := kid_at HK3.out hq
                      cases e'
                      have hpv : prevKid kds (k + 1) = some q := by unfold prevKid; rw [if_neg (by omega), show k + 1 - 1 = k from rfl, hq]
                      have hR4 := HR3.out
                      rw [hpv, show kidNext (some q) x = decide (q.f0 < x.f0) from rfl] at hR4
                      have HR5 := Lib.hid hR4
                      clear hR4 hq hpv
                      have hgt : decide ((0 : Int) < (k : Int) + 1) = true := decide_eq_true (by omega)
                      have hlk : (k : Int) < (kds.length : Int) := by omega
                      have hmx := HK3.out.2.1
                      have hwk : IntKind.i64.wrap (k : Int) = (k : Int) := by rw [IntKind.wrap_i64]; omega
                      by_cases hlt : q.f0 < x.f0
                      · have hlt' : ¬ x.f0 ≤ q.f0 := by omega
                        have hR5 := HR5.out
                        rw [decide_eq_true hlt, Bool.true_and] at hR5
                        have HR6 := Lib.hid hR5
                        clear hR5
                        go_quiet (fail)
                        go_wp2_with fail
                        go_roundw
                        case rel => exact ⟨k + 1 + 1, by go_num, hil, Lib.hid HR6.out, pw_below_drewN HB32.out _⟩
                        case measure => simp [intOf]; omega
                      · have hlt' : x.f0 ≤ q.f0 := by omega
                        have hR5 := HR5.out
                        rw [decide_eq_false hlt, Bool.false_and] at hR5
                        have HR6 := Lib.hid hR5
                        clear hR5
                        go_quiet (fail)
                        go_wp2_with fail
                        go_ret
                        exact ⟨by rw [HR6.out]; rfl, pw_below_drewN HB3.out _⟩
                  · have h32n : ¬ (x.f1.size : Int) = 32 := by omega
                    have h32' : ((x.f1.size : Int) != 32) = true := by simpa using h32n
                    have hR2 := HR2.out
                    rw [decide_eq_false h32, Bool.false_and] at hR2
                    have HR3 := Lib.hid hR2
                    clear hR2
                    go_quiet (fail)
                    go_wp2_with fail
                    go_ret
                    exact ⟨by rw [HR3.out]; rfl, pw_below_drewN HB3.out _⟩
                · have hie : i = kds.length := by omega
                  have hR2 := hr.out
                  rw [hie, kidsFrom_end] at hR2
                  have HR3 := Lib.hid hR2
                  clear hR2 hr hie hbe hgr hkr
                  go_wp2_with fail
                  go_ret
                  exact ⟨by rw [HR3.out]; rfl, HBE.out⟩
          · have h5' : (24 : Int) < (lab.size : Int) := by omega
            go_enter Tryz.func112, Tryz.ntmps112
            go_wp2_with fail
            rw [← HW1.out]
            go_ret
            exact ⟨by rw [HRV.out, decide_eq_false h5]; simp, HN1.out⟩
        · have h4' := full_str h4
          go_enter Tryz.func112, Tryz.ntmps112
          go_wp2_with fail
          rw [← HW1.out]
          go_ret
          exact ⟨by rw [HRV.out, decide_eq_false h4]; simp, HN1.out⟩
      · have h3' := full_str h3
        go_enter Tryz.func112, Tryz.ntmps112
        go_wp2_with fail
        rw [← HW1.out]
        go_ret
        exact ⟨by rw [HRV.out, decide_eq_false h3]; simp, HN1.out⟩
    · have h2' : (stp == 0) = false := by simpa using h2
      go_enter Tryz.func112, Tryz.ntmps112
      go_wp2_with fail
      rw [← HW1.out]
      go_ret
      exact ⟨by rw [HRV.out, decide_eq_false h2]; simp, HN1.out⟩
  · have h1' : (0 : Int) < (pl : Int) := by omega
    go_enter Tryz.func112, Tryz.ntmps112
    go_wp2_with fail
    rw [← HW1.out]
    go_ret
    exact ⟨by rw [HRV.out, decide_eq_false h1]; rfl, HN1.out⟩
end Go.Proofs.YtgjlchcfdbmmlaaGreatDoor.PObjectPuts
namespace Go.Proofs.YtgjlchcfdbmmlaaGreatDoor.PObjectPuts
open Go.RowKit Go.Proofs.YtgjlchcfdbmmlaaGreatDoor.Ord Go.Proofs.YtgjlchcfdbmmlaaGreatDoor.Obj Go.Proofs.YtgjlchcfdbmmlaaGreatDoorW.PrintWords Go.Proofs.YtgjlchcfdbmmlaaGreatDoorW.PrintLast Go.Proofs.YtgjlchcfdbmmlaaGreatDoorW.PrintMore
attribute [local irreducible] OpGives

theorem str_at {w : World} {A : Option Addr} {l : List ByteArray} {i : Nat} {x : ByteArray} (h : Kd.C Kd.string w A l.length l) (hx : l[i]? = some x) :
    ∃ ad, A = some ad ∧ w.cell? (ad.add i) = some (.string x) ∧ (ad.add i).block < w.heap.size := by
  have hi : i < l.length := (List.getElem?_eq_some_iff.1 hx).1
  obtain ⟨ad, c, e, _, hK, hc0⟩ := Kd.C_get h ByteArray.empty (i : Int) (by omega) (by omega)
  have hrd : l.getD (i : Int).toNat ByteArray.empty = x := by rw [Int.toNat_natCast, List.getD_eq_getElem?_getD, hx]; rfl
  rw [hrd] at hK
  have hk : c = [.string x] := hK
  subst hk
  have h0 := hc0 0 (.string x) rfl
  rw [Int.toNat_natCast] at h0
  have h1 : w.cell? (ad.add i) = some (.string x) := by
    rw [show Kd.string.sz = 1 from rfl, Nat.mul_one, Nat.add_zero] at h0
    exact h0
  exact ⟨ad, e, h1, block_lt_of_cell h1⟩
def wideB (s : ByteArray) : Bool := !(decide (s.size = 32))
set_option maxRecDepth 100000 in
theorem narrow_calls (s : ByteArray) (w : World) : Calls Tryz.prog 115 #[.string s] w fun e w' => e = .returned (.bool (wideB s)) ∧ w' = w := by
  unfold wideB
  by_cases h : s.size = 32
  · have h' : ((s.size : Int) != 32) = false := by rw [h]; rfl
    rw [decide_eq_true h]
    go_enter Tryz.func115, Tryz.ntmps115
    go_wp2
    go_ret
    exact ⟨rfl, rfl⟩
  · have h2 : ¬ (s.size : Int) = 32 := by omega
    have h' : ((s.size : Int) != 32) = true := by simpa using h2
    rw [decide_eq_false h]
    go_enter Tryz.func115, Tryz.ntmps115
    go_wp2
    go_ret
    exact ⟨rfl, rfl⟩
/-- Where the first string that is not wide stands; -1: none. -/
def narrowAt (l : List ByteArray) (i : Nat) : Nat → Int
  | 0 => -1
  | f + 1 => match l[i]? with | none => -1 | some s => if wideB s then (i : Int) else narrowAt l (i + 1) f
theorem narrow_ge (l : List ByteArray) : ∀ (f i : Nat), l.length = i + f → (0 ≤ narrowAt l i f ↔ (l.drop i).any wideB = true)
  | 0, i, h => by
    rw [List.drop_of_length_le (by omega)]; simp [narrowAt]
  | f + 1, i, h => by
    have hi : i < l.length := by omega
    rw [narrowAt, List.getElem?_eq_getElem hi, List.drop_eq_getElem_cons hi, List.any_cons]
    by_cases hw : wideB l[i] = true
    · simp [hw]
    · have := narrow_ge l f (i + 1) (by omega)
      simp [hw, this]
set_option maxHeartbeats 4000000 in
set_option maxRecDepth 100000 in
theorem index_calls (l : List ByteArray) (A : Option Addr) (c : Nat) (w : World) (hA : Kd.C Kd.string w A l.length l) :
    Calls Tryz.prog 117 #[.slice A l.length c, .func (.func 115) #[] #[]] w fun e w' => e = .returned (.int .i64 (narrowAt l 0 l.length)) ∧ w' = w := by
  obtain ⟨RV, hRV⟩ : ∃ RV, RV = narrowAt l 0 l.length := ⟨_, rfl⟩
  rw [← hRV]
  have HRV := Lib.hid hRV
  have HA := Lib.hid hA
  have hmx := hA.2.1
  clear hA hRV
  go_enter Tryz.func117, Tryz.ntmps117
  go_wp2_with fail
  go_loopw [8] (fun v wr => ∃ i : Nat, v = .int .i64 (i : Int) ∧ i ≤ l.length ∧ Hid (RV = narrowAt l i (l.length - i)) ∧ wr = w) (fun v _ => l.length - (intOf v).toNat)
  case atStart => exact ⟨0, rfl, Nat.zero_le _, HRV, rfl⟩
  case round =>
    obtain ⟨i, rfl, hi, hr, rfl⟩ := hrel
    by_cases hil : i < l.length
    · obtain ⟨x, hx⟩ : ∃ x, l[i]? = some x := ⟨_, List.getElem?_eq_getElem hil⟩
      obtain ⟨ad, rfl, c0, hbk⟩ := str_at HA.out hx
      have hr2 := hr.out
      rw [show l.length - i = (l.length - (i + 1)) + 1 by omega, narrowAt, hx] at hr2
      simp only at hr2
      have HR2 := Lib.hid hr2
      clear hr2 hr hx
      cases hw : wideB x with
      | true =>
        have hR2 := HR2.out
        rw [hw, if_pos rfl] at hR2
        have HR3 := Lib.hid hR2
        have HN := Lib.hid (narrow_calls x wr)
        rw [hw] at HN
        clear hR2 hw HR2
        go_wp2_with fail
        refine HN.out.mono ?_
        rintro e _ ⟨rfl, rfl⟩
        go_wp2_with fail
        go_ret
        exact ⟨by rw [HR3.out]; rfl, rfl⟩
      | false =>
        have hR2 := HR2.out
        rw [hw, if_neg (by decide)] at hR2
        have HR3 := Lib.hid hR2
        have HN := Lib.hid (narrow_calls x wr)
        rw [hw] at HN
        clear hR2 hw HR2
        go_wp2_with fail
        refine HN.out.mono ?_
        rintro e _ ⟨rfl, rfl⟩
        go_wp2_with fail
        go_roundw
        case rel => exact ⟨i + 1, by go_num, hil, HR3, trivial⟩
        case measure => simp [intOf]; omega
    · have hie : l.length - i = 0 := by omega
      have hR2 := hr.out
      rw [hie] at hR2
      have HR3 := Lib.hid hR2
      clear hR2 hr hie
      go_wp2_with fail
      go_ret
      exact ⟨by rw [HR3.out]; rfl, rfl⟩
set_option maxHeartbeats 4000000 in
set_option maxRecDepth 100000 in
theorem contains_calls (l : List ByteArray) (A : Option Addr) (c : Nat) (w : World) (hA : Kd.C Kd.string w A l.length l) :
    Calls Tryz.prog 116 #[.slice A l.length c, .func (.func 115) #[] #[]] w fun e w' => e = .returned (.bool (l.any wideB)) ∧ w' = w := by
  have hge := narrow_ge l l.length 0 (by omega)
  rw [List.drop_zero] at hge
  have HI := Lib.hid (index_calls l A c w hA)
  generalize narrowAt l 0 l.length = n at hge HI
  have hv : decide (0 ≤ n) = l.any wideB := by rw [Bool.eq_iff_iff]; simpa using hge
  rw [← hv]
  clear hge hv
  go_enter Tryz.func116, Tryz.ntmps116
  go_wp2_with fail
  refine HI.out.mono ?_
  rintro e _ ⟨rfl, rfl⟩
  go_wp2_with fail
  go_ret
  exact ⟨rfl, rfl⟩
/-- Is a commit right? -/
def okCommit (o : Ob) : Bool :=
  decide (o.rows.length = 0) && (decide (o.kids.length = 0) && (decide (o.label.size = 0) && (decide (0 ≤ o.stamp) && (decide (o.stamp ≤ 1099511627776) && (decide (o.note.size ≤ 40) && (decide (o.root.size = 32) &&
    (decide (o.parents.length ≤ 2) && (!(o.parents.any wideB) && (decide (o.parents.length < 2) || !((o.parents.getD 0 ByteArray.empty).toList == (o.parents.getD 1 ByteArray.empty).toList))))))))))
set_option maxHeartbeats 16000000 in
set_option maxRecDepth 100000 in
theorem cright_calls (o : Ob) (Ar : Option Addr) (cr : Nat) (Ak : Option Addr) (ck : Nat) (Ap : Option Addr) (cp : Nat) (w : World) (hO : ObAt w o Ar cr Ak ck Ap cp) :
    Calls Tryz.prog 114 #[.agg (obV o Ar cr Ak ck Ap cp)] w fun e w' => e = .returned (.bool (okCommit o)) ∧ Below w.heap.size w w' := by
  obtain ⟨RV, hRV⟩ : ∃ RV, RV = okCommit o := ⟨_, rfl⟩
  rw [← hRV]
  obtain ⟨knd, lab, rws, kds, prs, stp, nte, rot⟩ := o
  unfold okCommit at hRV
  unfold obV
  simp only at hRV hO ⊢
  have hOp := hO.p
  clear hO
  simp only at hOp
  generalize rws.length = rl at hRV ⊢
  generalize kds.length = kl at hRV ⊢
  obtain ⟨W1, hW1⟩ : ∃ W1, W1 = w.alloc (.cells #[.int .i64 knd, .string lab, .slice Ar rl cr, .slice Ak kl ck, .slice Ap prs.length cp, .int .i64 stp, .string nte, .string rot] 74) := ⟨_, rfl⟩
  have hn1 : Below w.heap.size w W1 := by rw [hW1]; exact (Below.refl _ _).alloc (Nat.le_refl _) _
  have hg1 : W1.heap[w.heap.size]? = some (.cells #[.int .i64 knd, .string lab, .slice Ar rl cr, .slice Ak kl ck, .slice Ap prs.length cp, .int .i64 stp, .string nte, .string rot] 74 (0, 0)) := by rw [hW1]; exact alloc_lastV _ _
  obtain ⟨⟨b0, b1, b2, b3⟩, b4, b5, b6, b7⟩ := box8 hg1
  have HC := Lib.hid (contains_calls prs Ap cp W1 (Kd.C_below hOp hn1))
  have HP := Lib.hid (Kd.C_below hOp hn1)
  have HN1 := Lib.hid hn1
  have HG1 := Lib.hid hg1
  have HRV := Lib.hid hRV
  rw [hW1] at b0 b1 b2 b3 b4 b5 b6 b7
  have HW1 := Lib.hid hW1
  clear hW1 hn1 hg1 hOp hRV
  by_cases h1 : rl = 0
  · subst h1
    by_cases h2 : kl = 0
    · subst h2
      by_cases h3 : lab.size = 0
      · obtain rfl := empty_str h3
        by_cases h4 : 0 ≤ stp
        · have h4' : ¬ stp < 0 := by omega
          by_cases h5 : stp ≤ 1099511627776
          · have h5' : ¬ (1099511627776 : Int) < stp := by omega
            by_cases h6 : nte.size ≤ 40
            · have h6' : ¬ (40 : Int) < (nte.size : Int) := by omega
              by_cases h7 : rot.size = 32
              · have h7' : ((rot.size : Int) != 32) = false := by rw [h7]; rfl
                have H7 := Lib.hid h7
                clear h7
                by_cases h8 : prs.length ≤ 2
                · have h8' : ¬ (2 : Int) < (prs.length : Int) := by omega
                  have hRV2 := HRV.out
                  rw [decide_eq_true h4, decide_eq_true h5, decide_eq_true h6, decide_eq_true H7.out, decide_eq_true h8] at hRV2
                  simp only [decide_true, Bool.true_and, show decide ((ByteArray.mk #[]).size = 0) = true from rfl] at hRV2
                  have HRV2 := Lib.hid hRV2
                  clear hRV2 HRV
                  go_enter Tryz.func114, Tryz.ntmps114
                  go_wp2_with fail
                  rw [← HW1.out]
                  clear b0 b1 b2 b3 b5 b6 b7
                  refine HC.out.mono ?_
                  rintro e _ ⟨rfl, rfl⟩
                  obtain ⟨⟨b0, b1, b2, b3⟩, b4, b5, b6, b7⟩ := box8 HG1.out
                  cases han : prs.any wideB with
                  | true =>
                    have hRV3 := HRV2.out
                    rw [han, Bool.not_true, Bool.false_and] at hRV3
                    have HRV3 := Lib.hid hRV3
                    clear hRV3 han
                    go_wp2_with fail
                    go_ret
                    exact ⟨by rw [HRV3.out]; rfl, HN1.out⟩
                  | false =>
                    have hRV3 := HRV2.out
                    rw [han, Bool.not_false, Bool.true_and] at hRV3
                    have HRV3 := Lib.hid hRV3
                    clear hRV3 han
                    go_wp2_with fail
                    by_cases hl2 : prs.length < 2
                    · have hl2' : (prs.length : Int) < 2 := by omega
                      have hRV4 := HRV3.out
                      rw [decide_eq_true hl2, Bool.true_or] at hRV4
                      have HRV4 := Lib.hid hRV4
                      clear hRV4
                      go_quiet (fail)
                      go_wp2_with fail
                      go_ret
                      exact ⟨by rw [HRV4.out]; rfl, pw_below_drewN HN1.out _⟩
                    · have hl2' : ¬ (prs.length : Int) < 2 := by omega
                      have hRV4 := HRV3.out
                      obtain ⟨x, hx⟩ : ∃ x, prs[0]? = some x := ⟨_, List.getElem?_eq_getElem (by omega)⟩
                      obtain ⟨y, hy⟩ : ∃ y, prs[1]? = some y := ⟨_, List.getElem?_eq_getElem (by omega)⟩
                      obtain ⟨ad, rfl, c0, hb0⟩ := str_at HP.out hx
                      obtain ⟨ad', e', c1, hb1⟩ := str_at HP.out hy
                      cases e'
                      rw [decide_eq_false hl2, Bool.false_or, List.getD_eq_getElem?_getD, List.getD_eq_getElem?_getD, hx, hy] at hRV4
                      simp only [Option.getD_some] at hRV4
                      have HRV4 := Lib.hid hRV4
                      have hg0 : 0 < prs.length := by omega
                      have hg1 : 1 < prs.length := by omega
                      have hg1' : (1 : Int) < (prs.length : Int) := by omega
                      rw [show ad.add 0 = ad from by simp [Addr.add]] at c0
                      have ea : (⟨ad.block, ad.off + 1, none⟩ : Addr) = ad.add 1 := by
                        have := add_field ad 0 1 (by omega)
                        rw [show ad.add 0 = ad from by simp [Addr.add]] at this
                        exact this
                      rw [← ea] at c1
                      clear hRV4 hx hy hb0 hb1 ea
                      go_quiet (fail)
                      cases hxy : (x.toList == y.toList) with
                      | true =>
                        have hRV5 := HRV4.out
                        rw [hxy, Bool.not_true] at hRV5
                        have HRV5 := Lib.hid hRV5
                        clear hRV5
                        go_wp2_with fail
                        go_ret
                        exact ⟨by rw [HRV5.out]; rfl, pw_below_drewN HN1.out _⟩
                      | false =>
                        have hRV5 := HRV4.out
                        rw [hxy, Bool.not_false] at hRV5
                        have HRV5 := Lib.hid hRV5
                        clear hRV5
                        go_wp2_with fail
                        go_ret
                        exact ⟨by rw [HRV5.out]; rfl, pw_below_drewN HN1.out _⟩
                · have h8' : (2 : Int) < (prs.length : Int) := by omega
                  go_enter Tryz.func114, Tryz.ntmps114
                  go_wp2_with fail
                  rw [← HW1.out]
                  go_ret
                  exact ⟨by rw [HRV.out, decide_eq_false h8]; simp, HN1.out⟩
              · have h7n : ¬ (rot.size : Int) = 32 := by omega
                have h7' : ((rot.size : Int) != 32) = true := by simpa using h7n
                have H7 := Lib.hid h7
                clear h7
                go_enter Tryz.func114, Tryz.ntmps114
                go_wp2_with fail
                rw [← HW1.out]
                go_ret
                exact ⟨by rw [HRV.out, decide_eq_false H7.out]; simp, HN1.out⟩
            · have h6' : (40 : Int) < (nte.size : Int) := by omega
              go_enter Tryz.func114, Tryz.ntmps114
              go_wp2_with fail
              rw [← HW1.out]
              go_ret
              exact ⟨by rw [HRV.out, decide_eq_false h6]; simp, HN1.out⟩
          · have h5' : (1099511627776 : Int) < stp := by omega
            go_enter Tryz.func114, Tryz.ntmps114
            go_wp2_with fail
            rw [← HW1.out]
            go_ret
            exact ⟨by rw [HRV.out, decide_eq_false (show ¬ stp ≤ 1099511627776 by omega)]; simp, HN1.out⟩
        · have h4' : stp < 0 := by omega
          go_enter Tryz.func114, Tryz.ntmps114
          go_wp2_with fail
          rw [← HW1.out]
          go_ret
          exact ⟨by rw [HRV.out, decide_eq_false (show ¬ 0 ≤ stp by omega)]; simp, HN1.out⟩
      · have h3' := full_str h3
        go_enter Tryz.func114, Tryz.ntmps114
        go_wp2_with fail
        rw [← HW1.out]
        go_ret
        exact ⟨by rw [HRV.out, decide_eq_false h3]; simp, HN1.out⟩
    · have h2' : (0 : Int) < (kl : Int) := by omega
      go_enter Tryz.func114, Tryz.ntmps114
      go_wp2_with fail
      rw [← HW1.out]
      go_ret
      exact ⟨by rw [HRV.out, decide_eq_false h2]; simp, HN1.out⟩
  · have h1' : (0 : Int) < (rl : Int) := by omega
    go_enter Tryz.func114, Tryz.ntmps114
    go_wp2_with fail
    rw [← HW1.out]
    go_ret
    exact ⟨by rw [HRV.out, decide_eq_false h1]; simp, HN1.out⟩
end Go.Proofs.YtgjlchcfdbmmlaaGreatDoor.PObjectPuts
