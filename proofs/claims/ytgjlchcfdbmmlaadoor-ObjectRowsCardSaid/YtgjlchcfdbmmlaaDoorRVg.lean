/- Texts of one proof, joined: Va, Shelf, Vb. -/
import Derived.Lib.RuneCount
import Derived.Shelf.Unicode.DecodeSlow
import Derived.Shelf.Unicode.DecodeAny
import Derived.Ground.SlgfProg
import Derived.Shelf.SlicesE.IndexFunc
import Derived.Test.YtgjlchcfdbmmlaaDoorProg
import Derived.Test.YtgjlchcfdbmmlaaDoorRRg
import Derived.Lib.OthersKept
import Derived.Lib.RuneCountTail
import Derived.Defers
import Derived.Recover
import Derived.Laws.Pointers
import Derived.Tactics2
import Derived.WalkSmall
import Derived.Lib.Hide
import Derived.Lib.LaidU8
set_option linter.unusedSimpArgs false
set_option linter.unusedVariables false
/- Runes in plain terms: the width of the one that stands at a place, as the document has it, and Go's own decoding. -/
namespace Go.Proofs.YtgjlchcfdbmmlaaDoor.Obj
open Go
set_option linter.unusedVariables false
set_option linter.unusedSimpArgs false

def gb (s : ByteArray) (i : Nat) : Nat := (s.get! i).toNat
def contB (s : ByteArray) (i : Nat) : Bool := decide (i < s.size) && gb s i / 64 == 2
/-- A code point of so many bytes at least so great. -/
def okC (c least : Nat) : Bool := !(decide (c < least) || (decide (55296 ≤ c) && decide (c < 57344)) || decide (1114111 < c))
def widthN (s : ByteArray) (i : Nat) : Nat :=
  if s.size ≤ i then 0
  else if gb s i < 128 then 1
  else if 192 ≤ gb s i ∧ gb s i < 224 then (if contB s (i + 1) && okC ((gb s i - 192) * 64 + gb s (i + 1) % 64) 128 then 2 else 0)
  else if 224 ≤ gb s i ∧ gb s i < 240 then (if contB s (i + 1) && contB s (i + 2) && okC ((gb s i - 224) * 4096 + gb s (i + 1) % 64 * 64 + gb s (i + 2) % 64) 2048 then 3 else 0)
  else if 240 ≤ gb s i ∧ gb s i < 248 then (if contB s (i + 1) && contB s (i + 2) && contB s (i + 3) && okC ((gb s i - 240) * 262144 + gb s (i + 1) % 64 * 4096 + gb s (i + 2) % 64 * 64 + gb s (i + 3) % 64) 65536 then 4 else 0)
  else 0
theorem gb_lt (s : ByteArray) (i : Nat) : gb s i < 256 := (s.get! i).toNat_lt
theorem okC_valid (c least : Nat) : okC c least = (decide (least ≤ c) && Utf8.valid (c : Int)) := by
  unfold okC Utf8.valid
  rw [Bool.eq_iff_iff]
  simp only [Bool.not_eq_true', Bool.or_eq_false_iff, Bool.and_eq_false_iff, Bool.and_eq_true, Bool.or_eq_true, decide_eq_true_eq, decide_eq_false_iff_not]
  omega
theorem width_decode (s : ByteArray) (i : Nat) (hi : i < s.size) :
    (widthN s i = 0 ∧ Utf8.decode s i = (65533, 1)) ∨ (0 < widthN s i ∧ (Utf8.decode s i).2 = widthN s i ∧ ((Utf8.decode s i).1 = 65533 → 2 ≤ widthN s i)) := by
  have hb := gb_lt s i
  have h1 := gb_lt s (i + 1)
  have h2 := gb_lt s (i + 2)
  have h3 := gb_lt s (i + 3)
  unfold widthN Utf8.decode
  rw [if_neg (by omega)]
  simp only [Utf8.runeError]
  have e0 : (s.get! (i + 0)).toNat = gb s i := rfl
  have e1 : (s.get! (i + 1)).toNat = gb s (i + 1) := rfl
  have e2 : (s.get! (i + 2)).toNat = gb s (i + 2) := rfl
  have e3 : (s.get! (i + 3)).toNat = gb s (i + 3) := rfl
  simp only [e0, e1, e2, e3]
  have d1 : (decide (i + 1 < s.size) && gb s (i + 1) / 64 == 2) = contB s (i + 1) := rfl
  have d2 : (decide (i + 2 < s.size) && gb s (i + 2) / 64 == 2) = contB s (i + 2) := rfl
  have d3 : (decide (i + 3 < s.size) && gb s (i + 3) / 64 == 2) = contB s (i + 3) := rfl
  simp only [d1, d2, d3]
  generalize gb s (i + 1) = g1 at *
  generalize gb s (i + 2) = g2 at *
  generalize gb s (i + 3) = g3 at *
  generalize gb s i = g at *
  generalize contB s (i + 1) = k1 at *
  generalize contB s (i + 2) = k2 at *
  generalize contB s (i + 3) = k3 at *
  clear e0 e1 e2 e3 d1 d2 d3 hi
  by_cases a1 : g < 128
  · rw [if_pos a1, if_pos (show g < 0x80 from a1)]
    exact .inr ⟨by decide, rfl, fun h => by have : g = 65533 := h; omega⟩
  rw [if_neg a1, if_neg (show ¬ g < 0x80 from a1)]
  by_cases a2 : 192 ≤ g ∧ g < 224
  · have q : (g / 32 == 6) = true := by rw [beq_iff_eq]; omega
    have m : g % 32 = g - 192 := by omega
    have r3 : (g / 16 == 14) = false := by rw [beq_eq_false_iff_ne]; omega
    have r4 : (g / 8 == 30) = false := by rw [beq_eq_false_iff_ne]; omega
    rw [if_pos a2, q, m, Bool.true_and, okC_valid, r3, r4]
    simp only [Bool.false_and, Bool.false_eq_true, if_false]
    cases k1 with
    | false => exact .inl ⟨rfl, rfl⟩
    | true =>
      simp only [Bool.true_and, if_true]
      by_cases c : 0x80 ≤ (g - 192) * 64 + g1 % 64
      · have v : Utf8.valid (((g - 192) * 64 + g1 % 64 : Nat) : Int) = true := by
          unfold Utf8.valid
          simp only [Bool.or_eq_true, Bool.and_eq_true, decide_eq_true_eq]
          omega
        rw [v, decide_eq_true (show 128 ≤ (g - 192) * 64 + g1 % 64 from c), if_pos c]
        exact .inr ⟨by decide, rfl, fun _ => by decide⟩
      · rw [decide_eq_false (show ¬ 128 ≤ (g - 192) * 64 + g1 % 64 from c), if_neg c]
        exact .inl ⟨rfl, rfl⟩
  have q2 : (g / 32 == 6) = false := by rw [beq_eq_false_iff_ne]; omega
  rw [if_neg a2, q2]
  simp only [Bool.false_and, Bool.false_eq_true, if_false]
  by_cases a3 : 224 ≤ g ∧ g < 240
  · have q : (g / 16 == 14) = true := by rw [beq_iff_eq]; omega
    have m : g % 16 = g - 224 := by omega
    have r4 : (g / 8 == 30) = false := by rw [beq_eq_false_iff_ne]; omega
    rw [if_pos a3, q, m, Bool.true_and, okC_valid, r4]
    simp only [Bool.false_and, Bool.false_eq_true, if_false]
    cases k1 with
    | false => exact .inl ⟨rfl, rfl⟩
    | true =>
      cases k2 with
      | false => exact .inl ⟨rfl, rfl⟩
      | true =>
        simp only [Bool.true_and, if_true]
        generalize (g - 224) * 4096 + g1 % 64 * 64 + g2 % 64 = c at *
        by_cases h : (decide (2048 ≤ c) && Utf8.valid (c : Int)) = true
        · rw [if_pos h, if_pos (by simpa [ge_iff_le] using h)]
          exact .inr ⟨by decide, rfl, fun _ => by decide⟩
        · rw [if_neg h, if_neg (by simpa [ge_iff_le] using h)]
          exact .inl ⟨rfl, rfl⟩
  have q3 : (g / 16 == 14) = false := by rw [beq_eq_false_iff_ne]; omega
  rw [if_neg a3, q3]
  simp only [Bool.false_and, Bool.false_eq_true, if_false]
  by_cases a4 : 240 ≤ g ∧ g < 248
  · have q : (g / 8 == 30) = true := by rw [beq_iff_eq]; omega
    have m : g % 8 = g - 240 := by omega
    rw [if_pos a4, q, m, Bool.true_and, okC_valid]
    cases k1 with
    | false => exact .inl ⟨rfl, rfl⟩
    | true =>
      cases k2 with
      | false => exact .inl ⟨rfl, rfl⟩
      | true =>
        cases k3 with
        | false => exact .inl ⟨rfl, rfl⟩
        | true =>
          simp only [Bool.true_and, if_true]
          generalize (g - 240) * 262144 + g1 % 64 * 4096 + g2 % 64 * 64 + g3 % 64 = c at *
          by_cases h : (decide (65536 ≤ c) && Utf8.valid (c : Int)) = true
          · rw [if_pos h, if_pos (by simpa [ge_iff_le] using h)]
            exact .inr ⟨by decide, rfl, fun _ => by decide⟩
          · rw [if_neg h, if_neg (by simpa [ge_iff_le] using h)]
            exact .inl ⟨rfl, rfl⟩
  have q4 : (g / 8 == 30) = false := by rw [beq_eq_false_iff_ne]; omega
  rw [if_neg a4, q4]
  simp
end Go.Proofs.YtgjlchcfdbmmlaaDoor.Obj
/-
  DERIVED: THE SHELF's CONTRACTS AT THIS DUMP, IN PLAIN WORDS (tools/lay-plain.mjs out of 'YtgjlchcfdbmmlaaDoorShelf.lean', which tools/lay-shelf.mjs wrote): THE SAME DECLARATIONS UNDER THE SAME NAMES: 'import', 'namespace', 'open', 'def', 'theorem' AND NOTHING ELSE: no command of the shelf's: FOR A HAND-IN. Each laying: the table of numbers ('.._ren') and one theorem, a field a fact of the dump's own or the kernel's comparison; each contract: ONE APPLICATION.
-/
namespace Go.Proofs
open Go.Shelf
def Tryd.lays260_ren : Go.Shelf.Ren := ⟨fun | 260 => 90 | n => n, fun | 9 => 9 | 21 => 21 | 3 => 3 | 4 => 4 | 5 => 5 | 119 => 173 | 0 => 0 | 46 => 143 | 139 => 176 | 138 => 175 | n => n, fun | 3 => 0 | 4 => 1 | n => n⟩
theorem Tryd.lays260 : Go.Proofs.Lays.n260 Tryd.prog Tryd.lays260_ren := {
  mixed := by kernel_rfl
  f260 := Tryd.func90.trans (congrArg some (by kernel_rfl))
  t0 := Tryd.underlying0
  a0 := Tryd.isAgg0
  z0 := Tryd.sizeOf0
  v0 := Tryd.zeroValue0
  t3 := Tryd.underlying3
  a3 := Tryd.isAgg3
  z3 := Tryd.sizeOf3
  v3 := Tryd.zeroValue3
  t4 := Tryd.underlying4
  a4 := Tryd.isAgg4
  z4 := Tryd.sizeOf4
  v4 := Tryd.zeroValue4
  t5 := Tryd.underlying5
  a5 := Tryd.isAgg5
  z5 := Tryd.sizeOf5
  v5 := Tryd.zeroValue5
  t9 := Tryd.underlying9
  a9 := Tryd.isAgg9
  z9 := Tryd.sizeOf9
  v9 := Tryd.zeroValue9
  t21 := Tryd.underlying21
  a21 := Tryd.isAgg21
  z21 := Tryd.sizeOf21
  v21 := Tryd.zeroValue21
  t46 := Tryd.underlying143
  a46 := Tryd.isAgg143
  z46 := Tryd.sizeOf143
  v46 := Tryd.zeroValue143
  t119 := Tryd.underlying173
  a119 := Tryd.isAgg173
  z119 := Tryd.sizeOf173
  t138 := Tryd.underlying175
  a138 := Tryd.isAgg175
  z138 := Tryd.sizeOf175
  v138 := Tryd.zeroValue175
  t139 := Tryd.underlying176
  a139 := Tryd.isAgg176
  z139 := Tryd.sizeOf176
  v139 := Tryd.zeroValue176
  g3 := by kernel_rfl
  g4 := by kernel_rfl }
def Tryd.lays197_ren : Go.Shelf.Ren := ⟨fun | 197 => 89 | 260 => 90 | n => n, fun | 9 => 9 | 21 => 21 | 3 => 3 | 4 => 4 | 5 => 5 | 105 => 171 | 119 => 173 | 0 => 0 | 46 => 143 | 139 => 176 | 138 => 175 | n => n, fun | 3 => 0 | 4 => 1 | n => n⟩
theorem Tryd.lays197 : Go.Proofs.Lays.n197 Tryd.prog Tryd.lays197_ren := {
  mixed := by kernel_rfl
  f197 := Tryd.func89.trans (congrArg some (by kernel_rfl))
  f260 := Tryd.func90.trans (congrArg some (by kernel_rfl))
  t0 := Tryd.underlying0
  a0 := Tryd.isAgg0
  z0 := Tryd.sizeOf0
  v0 := Tryd.zeroValue0
  t3 := Tryd.underlying3
  a3 := Tryd.isAgg3
  z3 := Tryd.sizeOf3
  v3 := Tryd.zeroValue3
  t4 := Tryd.underlying4
  a4 := Tryd.isAgg4
  z4 := Tryd.sizeOf4
  v4 := Tryd.zeroValue4
  t5 := Tryd.underlying5
  a5 := Tryd.isAgg5
  z5 := Tryd.sizeOf5
  v5 := Tryd.zeroValue5
  t9 := Tryd.underlying9
  a9 := Tryd.isAgg9
  z9 := Tryd.sizeOf9
  v9 := Tryd.zeroValue9
  t21 := Tryd.underlying21
  a21 := Tryd.isAgg21
  z21 := Tryd.sizeOf21
  v21 := Tryd.zeroValue21
  t46 := Tryd.underlying143
  a46 := Tryd.isAgg143
  z46 := Tryd.sizeOf143
  v46 := Tryd.zeroValue143
  t105 := Tryd.underlying171
  a105 := Tryd.isAgg171
  z105 := Tryd.sizeOf171
  v105 := Tryd.zeroValue171
  t119 := Tryd.underlying173
  a119 := Tryd.isAgg173
  z119 := Tryd.sizeOf173
  t138 := Tryd.underlying175
  a138 := Tryd.isAgg175
  z138 := Tryd.sizeOf175
  v138 := Tryd.zeroValue175
  t139 := Tryd.underlying176
  a139 := Tryd.isAgg176
  z139 := Tryd.sizeOf176
  v139 := Tryd.zeroValue176
  g3 := by kernel_rfl
  g4 := by kernel_rfl }
open Go.RowKit Go.Lib in
/-- **unicode/utf8.DecodeRuneInString AT EVERY STRING.** (LAID: no walk: one application.) -/
theorem Tryd.utf8_DecodeRuneInString (s : ByteArray) (w : World) (hT : Lib.Utf8Tabs 0 1 w) :
    Calls Tryd.prog 89 #[.string s] w fun e w' => e = .returned (.tuple #[.int .i32 (Lib.decodeGo s).1, .int .i64 (Lib.decodeGo s).2]) ∧ Below w.heap.size w w' := Any.utf8_DecodeRuneInString Tryd.lays197 s w hT
end Go.Proofs
/- value.Check walked: a text's runes. -/
namespace Go.Proofs.YtgjlchcfdbmmlaaDoor.Obj
open Go.RowKit Go.Proofs.YtgjlchcfdbmmlaaDoor.Ord
set_option linter.unusedVariables false
set_option linter.unusedSimpArgs false

/-- From w to w' nothing that was there has turned but block b. -/
structure ModV (b : Nat) (w w' : World) : Prop where
  os : w'.os = w.os
  tape : w'.tape = w.tape
  output : w'.output = w.output
  size : w.heap.size ≤ w'.heap.size
  block : ∀ k, k < w.heap.size → k ≠ b → w'.heap[k]? = w.heap[k]?
theorem ModV.trans {b : Nat} {w w1 w2 : World} (h : ModV b w w1) (k : ModV b w1 w2) : ModV b w w2 :=
  ⟨k.os.trans h.os, k.tape.trans h.tape, k.output.trans h.output, Nat.le_trans h.size k.size, fun i hi hb => (k.block i (Nat.lt_of_lt_of_le hi h.size) hb).trans (h.block i hi hb)⟩
theorem ModV.of_below {b : Nat} {w w' : World} (h : Below w.heap.size w w') : ModV b w w' := ⟨h.os, h.tape, h.output, h.size, fun k hk _ => h.block k hk⟩
theorem ModV.below {b B : Nat} {w w' : World} (h : ModV b w w') (hB : B ≤ w.heap.size) (hb : B ≤ b) : Below B w w' := ⟨h.os, h.tape, h.output, h.size, fun k hk => h.block k (by omega) (by omega)⟩
theorem ModV.setCell (b : Nat) (w : World) (j : Nat) (v : Value) : ModV b w (w.setCell ⟨b, j, none⟩ v) :=
  ⟨rfl, rfl, rfl, by simp [World.setCell], fun k _ hb => Below.heap_setCell _ _ _ _ hb⟩
/-- How many runes there are from a place on; none: one does not stand. -/
def runesF (s : ByteArray) : Nat → Nat → Option Nat
  | 0, i => if s.size ≤ i then some 0 else none
  | f + 1, i => if s.size ≤ i then some 0 else if widthN s i = 0 then none else (runesF s f (i + widthN s i)).map (· + 1)
def runesN (s : ByteArray) : Option Nat := runesF s s.size 0
theorem runesF_end {s : ByteArray} {f i : Nat} (h : s.size ≤ i) : runesF s f i = some 0 := by
  cases f <;> simp [runesF, h]
theorem runesF_bad {s : ByteArray} {f i : Nat} (h : i < s.size) (hf : s.size ≤ i + f) (hw : widthN s i = 0) : runesF s f i = none := by
  cases f with
  | zero => omega
  | succ f => rw [runesF, if_neg (by omega), if_pos hw]
theorem runesF_step {s : ByteArray} {f i : Nat} (h : i < s.size) (hf : s.size ≤ i + f) (hw : 0 < widthN s i) : ∃ f', f = f' + 1 ∧ s.size ≤ (i + widthN s i) + f' ∧ runesF s f i = (runesF s f' (i + widthN s i)).map (· + 1) := by
  cases f with
  | zero => omega
  | succ f => exact ⟨f, rfl, by omega, by rw [runesF, if_neg (by omega), if_neg (by omega)]⟩
theorem alloc_lastV (w : World) (o : Obj) : (w.alloc o).heap[w.heap.size]? = some o := by show (w.heap.push o)[w.heap.size]? = _; exact Array.getElem?_push_size
def badP (v : Int) : List PanicEntry := [{ v := .iface 168 (.agg #[.int .i64 v]), recovered := false }]
def BoxV (B : Nat) (n : Int) (w : World) : Prop := w.heap[B]? = some (.cells #[.int .i64 n] 3 (0, 0))
theorem BoxV.kept {b : Nat} {n : Int} {w w' : World} (h : BoxV b n w) (hb : Below w.heap.size w w') : BoxV b n w' :=
  (hb.block b (Array.getElem?_eq_some_iff.1 h).1).trans h

set_option maxHeartbeats 4000000 in
set_option maxRecDepth 100000 in
theorem count_calls (B : Nat) (n : Nat) (p r : Int) (w : World) (h : BoxV B n w) (hn : n < 1000000) :
    Calls Tryd.prog 84 #[.int .i64 p, .int .i32 r, .pointer (some ⟨B, 0, none⟩)] w fun e w' => e = .returned (.tuple #[]) ∧ BoxV B ((n + 1 : Nat) : Int) w' ∧ ModV B w w' := by
  have c0 : w.cell? ⟨B, 0, none⟩ = some (.int .i64 (n : Int)) := by rw [Lib.cell_of_heap h]; rfl
  have f0 : w.frozen? ⟨B, 0, none⟩ = false := Lib.frozen_of_heap h 0
  have hfin : BoxV B ((n + 1 : Nat) : Int) (w.setCell ⟨B, 0, none⟩ (.int .i64 ((n : Int) + 1))) := by
    unfold BoxV; rw [heap_setCell_same _ _ _ _ _ _ h]; simp
  have H := Lib.hid hfin
  clear h hfin
  go_enter Tryd.func84, Tryd.ntmps84
  go_wp2
  exact ⟨rfl, _, results_none rfl _ _ _, rfl, H.out, ModV.setCell _ _ _ _⟩

/-- What each tells: every rune stands, and the box is counted up; or it panics. -/
def EachPost (s : ByteArray) (B n : Nat) (w0 : World) (e : Ending) (w' : World) : Prop :=
  match runesN s with
  | some k => e = .returned (.tuple #[]) ∧ BoxV B ((n + k : Nat) : Int) w' ∧ ModV B w0 w'
  | none => (∃ p, e = .panicked (badP p)) ∧ ModV B w0 w'
theorem tail_gb (s : ByteArray) (p j : Nat) : (s.extract p s.size).get! j = s.get! (p + j) := Lib.tail_get! s p j
theorem decode_tail (s : ByteArray) (p : Nat) (hp : p < s.size) : Lib.decodeGo (s.extract p s.size) = Utf8.decode s p := by
  have hz : (s.extract p s.size).size = s.size - p := by simp
  unfold Lib.decodeGo
  rw [if_neg (by omega), Lib.decode_at, Lib.decode_at s p, hz, tail_gb, tail_gb, tail_gb, tail_gb]
  simp
theorem width_one {s : ByteArray} {p : Nat} (hp : p < s.size) (h : (Utf8.decode s p).1 = 65533) : ((Utf8.decode s p).2 < 2 ↔ widthN s p = 0) := by
  rcases width_decode s p hp with ⟨h0, h1⟩ | ⟨h0, h1, h2⟩
  · rw [h1]; simp [h0]
  · have := h2 h; rw [h1]; omega
theorem width_any {s : ByteArray} {p : Nat} (hp : p < s.size) (h : widthN s p ≠ 0) : (Utf8.decode s p).2 = widthN s p := by
  rcases width_decode s p hp with ⟨h0, h1⟩ | ⟨h0, h1, h2⟩
  · exact absurd h0 h
  · exact h1
theorem width_err {s : ByteArray} {p : Nat} (hp : p < s.size) (h : (Utf8.decode s p).1 ≠ 65533) : widthN s p ≠ 0 := by
  rcases width_decode s p hp with ⟨h0, h1⟩ | ⟨h0, h1, h2⟩
  · rw [h1] at h; exact absurd rfl h
  · omega
/-- The iterator moved on: nothing else has turned. -/
theorem ModV.iter {B : Nat} {w wr : World} (h : ModV B w wr) {k : Nat} (hk : w.heap.size ≤ k) (s : ByteArray) (p : Nat) : ModV B w (wr.iterAt k s p) :=
  ⟨h.os, h.tape, h.output, by rw [Lib.iterAt_size]; exact h.size, fun i hi hb => (Lib.iterAt_other wr k i s p (by omega)).trans (h.block i hi hb)⟩
theorem iterPos_of {wr : World} {k : Nat} {s : ByteArray} {p : Nat} (h : wr.heap[k]? = some (.stringIter s p)) : wr.iterPos k = p := by
  simp only [World.iterPos, h]
set_option maxHeartbeats 8000000 in
set_option maxRecDepth 100000 in
theorem each_calls (s : ByteArray) (B : Nat) (w w0 : World) (hT : Lib.Utf8Tabs 0 1 w0) (h0 : Below w0.heap.size w0 w) (hB0 : w0.heap.size ≤ B) (h : BoxV B ((0 : Nat) : Int) w) (hs : s.size < 100000) :
    Calls Tryd.prog 88 #[.string s, .func (.func 84) #[] #[.pointer (some ⟨B, 0, none⟩)]] w (EachPost s B 0 w) := by
  have hBw : B < w.heap.size := (Array.getElem?_eq_some_iff.1 h).1
  have hdec : ∀ W, ModV B w W → ∀ p, p < s.size → Calls Tryd.prog 89 #[.string (s.extract p s.size)] W fun e w' => e = .returned (.tuple #[.int .i32 ((Utf8.decode s p).1 : Nat), .int .i64 ((Utf8.decode s p).2 : Nat)]) ∧ Below W.heap.size W w' := fun W hW p hp => by
    have h1 : Below w0.heap.size w0 W := h0.trans (hW.below (Nat.le_trans (Nat.le_of_lt (Nat.lt_of_le_of_lt hB0 hBw)) (Nat.le_refl _)) hB0)
    have := Tryd.utf8_DecodeRuneInString (s.extract p s.size) W (Utf8Tabs_below hT h1)
    rwa [decode_tail s p hp] at this
  have hcount : ∀ W (n : Nat) (p r : Int), BoxV B n W → n < 1000000 → Calls Tryd.prog 84 #[.int .i64 p, .int .i32 r, .pointer (some ⟨B, 0, none⟩)] W fun e w' => e = .returned (.tuple #[]) ∧ BoxV B ((n + 1 : Nat) : Int) w' ∧ ModV B W w' := fun W n p r h h' => count_calls B n p r W h h'
  have HD := Lib.hid hdec
  have HC := Lib.hid hcount
  clear hdec hcount
  go_enter Tryd.func88, Tryd.ntmps88
  go_wp2
  go_loopw [] (fun wr => ∃ (pos fuel n : Nat), wr.heap[w.heap.size]? = some (.stringIter s pos) ∧ BoxV B (n : Int) wr ∧ ModV B w wr ∧ s.size ≤ pos + fuel ∧ (runesF s fuel pos).map (n + ·) = runesN s ∧ n ≤ pos) (fun wr => s.size - wr.iterPos w.heap.size)
  case atStart =>
    have hn : Below w.heap.size w (w.iter s 0) := (Below.refl _ _).alloc (Nat.le_refl _) _
    refine ⟨0, s.size, 0, ?_, h.kept hn, ModV.of_below hn, by omega, by unfold runesN; simp, by omega⟩
    exact World.iter_heap w s 0
  case round =>
    obtain ⟨pos, fuel, n, hit, hbx, hm, hfu, hrn, hnp⟩ := hrel
    have hsz : w.heap.size < wr.heap.size := (Array.getElem?_eq_some_iff.1 hit).1
    by_cases hp : pos < s.size
    · have hnx : ∀ ty, (Instr.next (.pointer (some ⟨w.heap.size, 0, none⟩)) true ty).run Tryd.prog wr = _ := fun ty => Lib.run_next_any_at wr w.heap.size s pos ty hit hp
      have hm2 := hm.iter (k := w.heap.size) (Nat.le_refl _) s (pos + (Utf8.decode s pos).2)
      have hbx2 : BoxV B (n : Int) (wr.iterAt w.heap.size s (pos + (Utf8.decode s pos).2)) := (Lib.iterAt_other wr w.heap.size B s _ (by omega)).trans hbx
      have hit2 := Lib.iterAt_heap wr w.heap.size s pos (pos + (Utf8.decode s pos).2) hit
      obtain ⟨W1, hW1⟩ : ∃ W1, W1 = wr.iterAt w.heap.size s (pos + (Utf8.decode s pos).2) := ⟨_, rfl⟩
      rw [← hW1] at hnx hm2 hbx2 hit2
      have HW1 := Lib.hid hW1
      clear hW1
      have hpi : (0 : Int) ≤ (pos : Int) ∧ (pos : Int) ≤ (s.size : Int) := by omega
      by_cases h32 : (Utf8.decode s pos).1 = 65533
      · have h32' : ((Utf8.decode s pos).1 : Int) = 65533 := by rw [h32]; rfl
        have hlt2 := width_one hp h32
        have HD1 := Lib.hid (HD.out W1 hm2 pos hp)
        go_wp2_with fail
        refine HD1.out.mono ?_
        rintro e W2 ⟨rfl, hb2⟩
        have hm3 := hm2.trans (ModV.of_below hb2)
        have hbx3 := hbx2.kept hb2
        have hit3 : W2.heap[w.heap.size]? = some (.stringIter s (pos + (Utf8.decode s pos).2)) := (hb2.block _ (Array.getElem?_eq_some_iff.1 hit2).1).trans hit2
        by_cases hlt : (Utf8.decode s pos).2 < 2
        · have hlt' : ((Utf8.decode s pos).2 : Int) < 2 := by omega
          have hrn' := runesF_bad hp hfu (hlt2.1 hlt)
          rw [hrn'] at hrn
          go_wp2_with fail
          exact ⟨rfl, by unfold EachPost; rw [← hrn]; exact ⟨⟨_, rfl⟩, hm3⟩⟩
        · have hlt' : ¬ ((Utf8.decode s pos).2 : Int) < 2 := by omega
          have hwd : widthN s pos ≠ 0 := fun h => hlt (hlt2.2 h)
          have hd2 := width_any hp hwd
          obtain ⟨f', hf', hle', hst⟩ := runesF_step hp hfu (Nat.pos_of_ne_zero hwd)
          have HC1 := Lib.hid (HC.out W2 n pos 65533 hbx3 (by omega))
          have HF := Lib.hid (And.intro hd2 (And.intro hle' hst))
          clear hd2 hst hle'
          go_wp2_with fail
          refine HC1.out.mono ?_
          rintro e W3 ⟨rfl, hbx4, hm4⟩
          go_wp2_with fail
          go_roundw
          case rel => exact ⟨pos + (Utf8.decode s pos).2, f', n + 1, (hm4.block _ (Array.getElem?_eq_some_iff.1 hit3).1 (by omega)).trans hit3, hbx4, hm3.trans hm4, by rw [HF.out.1]; exact HF.out.2.1, by rw [HF.out.1, ← hrn, HF.out.2.2, Option.map_map]; congr 1; funext x; simp; omega, by rw [HF.out.1]; omega⟩
          case measure =>
            rw [iterPos_of ((hm4.block _ (Array.getElem?_eq_some_iff.1 hit3).1 (by omega)).trans hit3), iterPos_of hit, HF.out.1]
            omega
      · have h32' : ¬ ((Utf8.decode s pos).1 : Int) = 65533 := by omega
        have hwd := width_err hp h32
        have hd2 := width_any hp hwd
        obtain ⟨f', hf', hle', hst⟩ := runesF_step hp hfu (Nat.pos_of_ne_zero hwd)
        have HC1 := Lib.hid (HC.out W1 n pos (Utf8.decode s pos).1 hbx2 (by omega))
        have HF := Lib.hid (And.intro hd2 (And.intro hle' hst))
        clear hd2 hst hle'
        go_wp2_with fail
        refine HC1.out.mono ?_
        rintro e W3 ⟨rfl, hbx4, hm4⟩
        go_wp2_with fail
        go_roundw
        case rel => exact ⟨pos + (Utf8.decode s pos).2, f', n + 1, (hm4.block _ (Array.getElem?_eq_some_iff.1 hit2).1 (by omega)).trans hit2, hbx4, hm2.trans hm4, by rw [HF.out.1]; exact HF.out.2.1, by rw [HF.out.1, ← hrn, HF.out.2.2, Option.map_map]; congr 1; funext x; simp; omega, by rw [HF.out.1]; omega⟩
        case measure =>
          rw [iterPos_of ((hm4.block _ (Array.getElem?_eq_some_iff.1 hit2).1 (by omega)).trans hit2), iterPos_of hit, HF.out.1]
          omega
    · have hnx : ∀ ty, (Instr.next (.pointer (some ⟨w.heap.size, 0, none⟩)) true ty).run Tryd.prog wr = _ := fun ty => Lib.run_next_end_at wr w.heap.size s pos ty hit hp
      go_wp2_with fail
      refine bodyPost_ret (results_none rfl _ _ _) rfl ?_
      unfold EachPost
      rw [← hrn, runesF_end (by omega)]
      exact ⟨rfl, by simpa using hbx, hm⟩

def OkV (c : Nat) (b : Bool) (w : World) : Prop := w.heap[c]? = some (.cells #[.bool b] 4 (0, 0))
theorem as_bad (v : Value) (W : World) : (Instr.typeAssert (.iface 168 v) 20 168 true).run Tryd.prog W = .ok (.tuple #[v, .bool true]) W := by kernel_rfl
set_option maxHeartbeats 4000000 in
set_option maxRecDepth 100000 in
theorem catch_idle (v0 : Value) (w : World) :
    CallsD Tryd.prog 87 #[v0] .returning w fun e u' w' => e = .returned (.tuple #[]) ∧ u' = .returning ∧ w' = w := by
  refine callsD_of_wpS Tryd.func87 rfl fun c₀ cs hu => ?_
  apply wpS_seq
  apply wpS_region
  simp [wpOpsS, go_sem, recoverD, hu, Tryd.ntmps87, Exit.thenS]
  rw [show (#[v0] ++ ((Array.replicate 9 undef).setIfInBounds 1 Value.nilIface).setIfInBounds 0 Value.nilIface) = #[v0, .nilIface, .nilIface, undef, undef, undef, undef, undef, undef, undef] from rfl]
  refine wpS_of_wp ?_
  go_wp2
  cases c₀
  simp_all [bodyPostS, results, Tryd.results87]
set_option maxHeartbeats 4000000 in
set_option maxRecDepth 100000 in
theorem catch_bad (c : Nat) (p : Int) (older : List PanicEntry) (b : Bool) (w : World) (hc : OkV c b w) :
    CallsD Tryd.prog 87 #[.pointer (some ⟨c, 0, none⟩)] (.panicking ({ v := .iface 168 (.agg #[.int .i64 p]), recovered := false } :: older)) w fun e u' w' =>
      e = .returned (.tuple #[]) ∧ u' = .panicking ({ v := .iface 168 (.agg #[.int .i64 p]), recovered := true } :: older) ∧ OkV c false w' ∧ ModV c w w' := by
  have q1 := as_bad
  refine callsD_of_wpS Tryd.func87 rfl fun c₀ cs hu => ?_
  apply wpS_seq
  apply wpS_region
  simp [wpOpsS, go_sem, recoverD, hu, Tryd.ntmps87, Exit.thenS]
  rw [show ∀ (v0 v : Value), (#[v0] ++ ((Array.replicate 9 undef).setIfInBounds 1 v).setIfInBounds 0 v) = #[v0, v, v, undef, undef, undef, undef, undef, undef, undef] from fun _ _ => rfl]
  refine wpS_of_wp ?_
  have c0 : w.cell? ⟨c, 0, none⟩ = some (.bool b) := by rw [Lib.cell_of_heap hc]; rfl
  have f0 : w.frozen? ⟨c, 0, none⟩ = false := Lib.frozen_of_heap hc 0
  obtain ⟨W1, hW1⟩ : ∃ W1, W1 = w.setCell ⟨c, 0, none⟩ (.bool true) := ⟨_, rfl⟩
  have h1 : OkV c true W1 := by unfold OkV; rw [hW1, heap_setCell_same _ _ _ _ _ _ hc]; simp
  have c1 : W1.cell? ⟨c, 0, none⟩ = some (.bool true) := by rw [Lib.cell_of_heap h1]; rfl
  have f1 : W1.frozen? ⟨c, 0, none⟩ = false := Lib.frozen_of_heap h1 0
  have h2 : OkV c false (W1.setCell ⟨c, 0, none⟩ (.bool false)) := by unfold OkV; rw [heap_setCell_same _ _ _ _ _ _ h1]; simp
  have hm : ModV c w (W1.setCell ⟨c, 0, none⟩ (.bool false)) := by rw [hW1]; exact (ModV.setCell c w 0 _).trans (ModV.setCell c _ 0 _)
  rw [hW1] at c1 f1 h2 hm
  have H2 := Lib.hid h2
  have HM := Lib.hid hm
  clear hc hW1 h1 h2 hm
  go_wp2
  exact ⟨rfl, _, rfl, _, results_none rfl _ _ _, rfl, rfl, H2.out, HM.out⟩

theorem results_through (tmps : Array Value) (w : World) (c : Nat) (b : Bool) (h : tmps.getD 4 undef = .pointer (some ⟨c, 0, none⟩)) (hc : OkV c b w) :
    (results Tryd.f83 tmps).run Tryd.prog w = .ok (.bool b) w := by
  have h' : tmps[4]?.getD undef = .pointer (some ⟨c, 0, none⟩) := by simpa using h
  have k0 : w.cell? ⟨c, 0, none⟩ = some (.bool b) := by rw [Lib.cell_of_heap hc]; rfl
  simp [results, Tryd.results83, h', asAddr, k0, go_sem]
/-- What through tells. -/
def ThroughPost (s : ByteArray) (B : Nat) (w : World) (e : Ending) (w' : World) : Prop :=
  e = .returned (.bool (runesN s).isSome) ∧ ModV B w w' ∧ ∀ k, runesN s = some k → BoxV B (k : Int) w'
set_option maxHeartbeats 8000000 in
set_option maxRecDepth 100000 in
theorem through_calls (s : ByteArray) (B : Nat) (w w0 : World) (hT : Lib.Utf8Tabs 0 1 w0) (h0 : Below w0.heap.size w0 w) (hB0 : w0.heap.size ≤ B) (h : BoxV B ((0 : Nat) : Int) w) (hs : s.size < 100000) :
    Calls Tryd.prog 83 #[.string s, .func (.func 84) #[] #[.pointer (some ⟨B, 0, none⟩)]] w (ThroughPost s B w) := by
  have hmf : ∀ (fn : Fn) (first cap : Array Value) (w : World), (Instr.makeFunc fn first cap).run Tryd.prog w = .ok (.func fn first cap) w := fun _ _ _ _ => rfl
  obtain ⟨W1, hW1⟩ : ∃ W1, W1 = w.alloc (.cells #[.bool false] 4) := ⟨_, rfl⟩
  have hn1 : Below w.heap.size w W1 := by rw [hW1]; exact (Below.refl _ _).alloc (Nat.le_refl _) _
  have ho1 : OkV w.heap.size false W1 := by rw [hW1]; exact alloc_lastV _ _
  have hBw : B < w.heap.size := (Array.getElem?_eq_some_iff.1 h).1
  have hsz1 : w.heap.size < W1.heap.size := (Array.getElem?_eq_some_iff.1 ho1).1
  have HE := Lib.hid (each_calls s B W1 w0 hT (h0.trans (hn1.mono (Nat.le_of_lt (Nat.lt_of_le_of_lt hB0 hBw)))) hB0 (h.kept hn1) hs)
  have HW1 := Lib.hid hW1
  have HN1 := Lib.hid hn1
  have HO1 := Lib.hid ho1
  clear hW1 hn1 ho1 h
  go_enter_defers Tryd.func83, Tryd.ntmps83
  go_wp2_with fail
  rw [← HW1.out]
  refine HE.out.mono ?_
  intro e W2 hp
  unfold EachPost at hp
  cases hr : runesN s with
  | none =>
    rw [hr] at hp
    obtain ⟨⟨p, rfl⟩, hm⟩ := hp
    have ho2 : OkV w.heap.size false W2 := (hm.block _ hsz1 (by omega)).trans HO1.out
    refine leaves_cons (f := 87) (args := #[.pointer (some ⟨w.heap.size, 0, none⟩)]) (by simp) (by simp [go_sem]) ?_
    refine (catch_bad _ p [] false W2 ho2).mono ?_
    rintro e u' w'' ⟨rfl, rfl, ho3, hm3⟩
    refine ⟨_, results_through _ w'' _ _ rfl ho3, by rw [hr]; rfl, ?_, fun k hk => by rw [hr] at hk; cases hk⟩
    exact ⟨(hm3.os.trans hm.os).trans HN1.out.os, (hm3.tape.trans hm.tape).trans HN1.out.tape, (hm3.output.trans hm.output).trans HN1.out.output, Nat.le_trans HN1.out.size (Nat.le_trans hm.size hm3.size), fun k hk hkb => ((hm3.block k (by have := hm.size; omega) (by omega)).trans (hm.block k (by omega) hkb)).trans (HN1.out.block k hk)⟩
  | some k =>
    rw [hr] at hp
    obtain ⟨rfl, hbx, hm⟩ := hp
    have ho2 : OkV w.heap.size false W2 := (hm.block _ hsz1 (by omega)).trans HO1.out
    have c0 : W2.cell? ⟨w.heap.size, 0, none⟩ = some (.bool false) := by rw [Lib.cell_of_heap ho2]; rfl
    have f0 : W2.frozen? ⟨w.heap.size, 0, none⟩ = false := Lib.frozen_of_heap ho2 0
    obtain ⟨W3, hW3⟩ : ∃ W3, W3 = W2.setCell ⟨w.heap.size, 0, none⟩ (.bool true) := ⟨_, rfl⟩
    have ho3 : OkV w.heap.size true W3 := by unfold OkV; rw [hW3, heap_setCell_same _ _ _ _ _ _ ho2]; simp
    have hm3 : ModV w.heap.size W2 W3 := by rw [hW3]; exact ModV.setCell _ _ _ _
    have hbx3 : BoxV B (k : Int) W3 := (hm3.block _ (Array.getElem?_eq_some_iff.1 hbx).1 (by omega)).trans (by rw [show (0 + k) = k by omega] at hbx; exact hbx)
    have hmf : ModV B w W3 := ⟨(hm3.os.trans hm.os).trans HN1.out.os, (hm3.tape.trans hm.tape).trans HN1.out.tape, (hm3.output.trans hm.output).trans HN1.out.output, Nat.le_trans HN1.out.size (Nat.le_trans hm.size hm3.size), fun k hk hkb => ((hm3.block k (by have := hm.size; omega) (by omega)).trans (hm.block k (by omega) hkb)).trans (HN1.out.block k hk)⟩
    have HW3 := Lib.hid hW3
    have HO3 := Lib.hid ho3
    have HM := Lib.hid (And.intro hmf hbx3)
    clear hW3 ho3 hm3 hbx3 hmf hbx hm ho2
    go_wp2_with fail
    rw [← HW3.out]
    refine leaves_cons (f := 87) (args := #[.pointer (some ⟨w.heap.size, 0, none⟩)]) (by simp) (by simp [go_sem]) ?_
    refine (catch_idle _ W3).mono ?_
    rintro e u' w'' ⟨rfl, rfl, rfl⟩
    refine ⟨_, results_through _ _ _ _ rfl HO3.out, by rw [hr]; rfl, HM.out.1, fun j hj => by rw [hr] at hj; cases hj; exact HM.out.2⟩
/-- How many runes; -1: one does not stand. -/
def runesV (s : ByteArray) : Int := match runesN s with | some k => (k : Int) | none => -1
set_option maxHeartbeats 8000000 in
set_option maxRecDepth 100000 in
theorem runes_calls (s : ByteArray) (w : World) (hT : Lib.Utf8Tabs 0 1 w) (hs : s.size < 100000) :
    Calls Tryd.prog 73 #[.string s] w fun e w' => e = .returned (.int .i64 (runesV s)) ∧ Below w.heap.size w w' := by
  have hmf : ∀ (fn : Fn) (first cap : Array Value) (w : World), (Instr.makeFunc fn first cap).run Tryd.prog w = .ok (.func fn first cap) w := fun _ _ _ _ => rfl
  obtain ⟨W1, hW1⟩ : ∃ W1, W1 = w.alloc (.cells #[.int .i64 0] 3) := ⟨_, rfl⟩
  have hn1 : Below w.heap.size w W1 := by rw [hW1]; exact (Below.refl _ _).alloc (Nat.le_refl _) _
  have hb1 : BoxV w.heap.size ((0 : Nat) : Int) W1 := by rw [hW1]; exact alloc_lastV _ _
  have hth := through_calls s w.heap.size W1 w hT hn1 (Nat.le_refl _) hb1 hs
  unfold ThroughPost at hth
  unfold runesV
  generalize runesN s = rn at hth
  have HT := Lib.hid hth
  clear hth
  have HW1 := Lib.hid hW1
  have HN1 := Lib.hid hn1
  clear hW1 hn1 hb1
  go_enter Tryd.func73, Tryd.ntmps73
  go_wp2_with fail
  try rw [← HW1.out]
  refine HT.out.mono ?_
  rintro e W2 ⟨rfl, hm, hbx⟩
  have hfin : Below w.heap.size w W2 := HN1.out.trans (hm.below HN1.out.size (Nat.le_refl _))
  have HF := Lib.hid hfin
  clear hfin
  cases rn with
  | none =>
    clear hbx
    go_wp2_with fail
    go_ret
    exact ⟨rfl, HF.out⟩
  | some k =>
    have hbx2 := hbx k rfl
    have c0 : W2.cell? ⟨w.heap.size, 0, none⟩ = some (.int .i64 (k : Int)) := by rw [Lib.cell_of_heap hbx2]; rfl
    clear hbx hbx2
    go_wp2_with fail
    go_ret
    exact ⟨rfl, HF.out⟩
end Go.Proofs.YtgjlchcfdbmmlaaDoor.Obj
