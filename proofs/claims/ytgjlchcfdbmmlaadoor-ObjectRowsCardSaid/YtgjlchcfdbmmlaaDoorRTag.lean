/- Texts of one proof, joined: TA, TB, TC, TD, TE, TF, TG. -/
import Derived.Test.YtgjlchcfdbmmlaaDoorRXg
import Derived.Lib.Strings
import Derived.Lib.Walk
import Derived.Lib.Builder
import Derived.Lib.AppendStr
import Derived.Lib.UnsafeStr
import Derived.Laws.Externs
import Derived.Lib.Hide
import Derived.Deep.WholeRow
import Derived.Laws.DeepNot64
import Derived.WalkSmall
import Derived.WalkLawsBesides
import Derived.Test.YtgjlchcfdbmmlaaDoorRRg
import Derived.Maps.RangeWalk
import Derived.Laws.Strings2
set_option linter.unusedSimpArgs false
set_option linter.unusedVariables false
/- A strings.Builder that lies at a writer's head: what its methods do. The walks follow the library's proofs over its own type (Derived/Shelf/Strings/Builder1); here the block is of the writer's type. -/
namespace Go.Proofs.YtgjlchcfdbmmlaaDoor.PObjectTakes
open Go.RowKit Go.Proofs.YtgjlchcfdbmmlaaDoorW.PrintWords Go.Proofs.YtgjlchcfdbmmlaaDoorW.PrintLast Go.Proofs.YtgjlchcfdbmmlaaDoorW.PrintMore
set_option linter.unusedVariables false
set_option linter.unusedSimpArgs false

/-- The writer in block b holds these bytes. -/
abbrev Wr (B b : Nat) (p : Value) (bs : List Value) (w : World) : Prop := Lib.BuilderAt 94 5 B b p bs w
abbrev IsWr (B b : Nat) (bs : List Value) (w : World) : Prop := Lib.IsBuilder 94 5 B b bs w
theorem sizeBuilder : (Tryd.prog.info? 92).map (·.size) = some 2 := by kernel_rfl
theorem liesWriter : liesAt Tryd.prog Tryd.prog.depth 94 (2 / Tryd.prog.cellsOf 94) 0 92 1 = true := by kernel_rfl
theorem infoByte : (Tryd.prog.info? 5).map (fun i => (i.zero, i.size, i.bytes)) = some (some (.int .u8 0), 1, 1) := by kernel_rfl

/-- From w to w' nothing that was there has turned but block b and rows of bytes. -/
structure ModW (b : Nat) (w w' : World) : Prop where
  size : w.heap.size ≤ w'.heap.size
  block : ∀ k, k < w.heap.size → k ≠ b → (∀ c f, w.heap[k]? ≠ some (.cells c 5 f)) → w'.heap[k]? = w.heap[k]?
theorem ModW.refl (b : Nat) (w : World) : ModW b w w := ⟨Nat.le_refl _, fun _ _ _ _ => rfl⟩
theorem ModW.trans {b : Nat} {w w1 w2 : World} (h : ModW b w w1) (k : ModW b w1 w2) : ModW b w w2 :=
  ⟨Nat.le_trans h.size k.size, fun i hi hb ht => by
    have e := h.block i hi hb ht
    exact (k.block i (Nat.lt_of_lt_of_le hi h.size) hb (by rw [e]; exact ht)).trans e⟩
theorem ModW.of_grown {b : Nat} {w w' : World} {row : Option Nat} (h : w.grownBy w' row) (ht : ∀ k, row = some k → ∃ c, w.heap[k]? = some (.cells c 5 (0, 0))) : ModW b w w' :=
  ⟨h.size, fun k hk _ hn => h.block k hk (fun e => by obtain ⟨c, hc⟩ := ht k e.symm; exact hn _ _ hc)⟩
theorem ModW.setCell (b : Nat) (w : World) (j : Nat) (v : Value) : ModW b w (w.setCell ⟨b, j, none⟩ v) :=
  ⟨by simp [World.setCell], fun k _ hb _ => Below.heap_setCell _ _ _ _ hb⟩
theorem ModW.of_below {b : Nat} {w w' : World} (h : Below w.heap.size w w') : ModW b w w' := ⟨h.size, fun k hk _ _ => h.block k hk⟩
theorem ModW.drew {b : Nat} {w w' : World} (h : ModW b w w') : ModW b w w'.drew := ⟨h.size, h.block⟩

set_option maxHeartbeats 1000000 in
set_option maxRecDepth 100000 in
theorem copyCheck_used (b : Nat) (w : World) (h0 : w.cell? ⟨b, 0, none⟩ = some (.pointer (some ⟨b, 0, none⟩))) :
    Calls Tryd.prog 75 #[.pointer (some ⟨b, 0, none⟩)] w fun e w' => e = .returned (.tuple #[]) ∧ w' = w := by
  obtain ⟨j, hj, _⟩ := Option.map_eq_some_iff.1 sizeBuilder
  go_enter Tryd.func75, Tryd.ntmps75
  go_wp2
  rw [Lib.run_neq_ptr_same w _ Tryd.underlying89 hj]
  go_wp2
  go_end0
  exact ⟨rfl, rfl⟩

set_option maxHeartbeats 1000000 in
set_option maxRecDepth 100000 in
theorem copyCheck_fresh (b : Nat) (w : World) (h0 : w.cell? ⟨b, 0, none⟩ = some (.pointer none)) (hsh : w.shape? b = some (94, 2)) (hfz : w.frozen? ⟨b, 0, none⟩ = false) :
    Calls Tryd.prog 75 #[.pointer (some ⟨b, 0, none⟩)] w fun e w' => e = .returned (.tuple #[]) ∧ w' = w.setCell ⟨b, 0, none⟩ (.pointer (some ⟨b, 0, none⟩)) := by
  obtain ⟨j, hj, hjs⟩ := Option.map_eq_some_iff.1 sizeBuilder
  go_enter Tryd.func75, Tryd.ntmps75
  go_wp2
  rw [Lib.run_to_unsafe w ⟨b, 0, none⟩ Tryd.underlying89 Tryd.underlying164 hj (by rw [hjs]; decide) hsh (Nat.zero_lt_succ 1)]
  simp only [Result.andThen]
  rw [Oper.upon_value]
  go_wp2
  rw [run_callFunc_extern Tryd.func85 (by kernel_rfl) (by kernel_rfl) (by kernel_rfl) (e := Extern.AbiNoEscape.same) (by kernel_rfl)]
  rw [Lib.run_noEscape]
  simp only [Result.andThen]
  rw [Oper.upon_value]
  go_wp2
  rw [Lib.run_from_unsafe w ⟨b, 0, none⟩ Tryd.underlying164 Tryd.underlying89 hj hsh liesWriter]
  simp only [Result.andThen]
  rw [Oper.upon_value]
  go_wp2
  go_end0
  exact ⟨rfl, rfl⟩

theorem copyCheck (B b : Nat) (bs : List Value) (w : World) (h : IsWr B b bs w) :
    Calls Tryd.prog 75 #[.pointer (some ⟨b, 0, none⟩)] w fun e w' => e = .returned (.tuple #[]) ∧ (Wr B b (.pointer (some ⟨b, 0, none⟩)) bs w' ∧ Below B w w' ∧ ModW b w w') := by
  rcases h with h | h
  · refine (copyCheck_fresh b w h.cell0 h.shape h.frozen0).mono ?_
    rintro e w' ⟨rfl, rfl⟩
    exact ⟨rfl, h.used _, (Below.refl B w).setCell (p := ⟨b, 0, none⟩) h.1 _, ModW.setCell b w 0 _⟩
  · refine (copyCheck_used b w h.cell0).mono ?_
    rintro e w' ⟨rfl, rfl⟩
    exact ⟨rfl, h, Below.refl B _, ModW.refl b _⟩

set_option maxHeartbeats 2000000 in
set_option maxRecDepth 100000 in
theorem writeByte (B b : Nat) (bs : List Value) (c : Int) (w : World) (h : IsWr B b bs w) (hlen : bs.length + 1 ≤ 140737488355328) (hBw : B ≤ w.heap.size) :
    Calls Tryd.prog 74 #[.pointer (some ⟨b, 0, none⟩), .int .u8 c] w fun e w' => e = .returned .nilIface ∧ (Wr B b (.pointer (some ⟨b, 0, none⟩)) (bs ++ [.int .u8 c]) w' ∧ Below B w w' ∧ ModW b w w') := by
  obtain ⟨i0, hi, hz0, hz1, hz2⟩ := info_parts infoByte
  have HC := Lib.hid (copyCheck B b bs w h)
  go_enter Tryd.func74, Tryd.ntmps74
  go_wp2_with (go_at_call 75; refine HC.out.mono ?_)
  rintro e w1 ⟨rfl, h1, hb1, hm1⟩
  obtain ⟨hB, v, hbk, hown, hne⟩ := h1
  have c0 : w1.cell? ⟨b, 0, none⟩ = some (.pointer (some ⟨b, 0, none⟩)) := by rw [Lib.cell_of_heap hbk]; rfl
  have c1 : w1.cell? ⟨b, 1, none⟩ = some v := by rw [Lib.cell_of_heap hbk]; rfl
  go_wp2_with (at_builtin; refine wpList_append_own _ rfl _ _ 90 rfl B 5 i0 (.int .u8 0) 1 1 Tryd.underlying90 hi hz0 hz1 hz2 rfl (by decide) _ _ _ rfl (hown.alloc _) ⟨w1.heap.size, 0, none⟩ 1 1 [.int .u8 c] rfl rfl ?c1 ?c2 ?c3 ?c4 ?c5 ?_)
  case c1 =>
    intro j u hj
    match j, hj with
    | 0, hj => simp at hj; subst hj; simp [Addr.add]
  case c2 => intro u hu; simp at hu; subst hu; rfl
  case c3 => unfold maxLen; omega
  case c4 => omega
  case c5 => have := hb1.size; simp; omega
  intro v' w2 hown' hgrow _
  have hlt : b < w1.heap.size := by
    rcases Nat.lt_or_ge b w1.heap.size with h' | h'
    · exact h'
    · simp [Array.getElem?_eq_none h'] at hbk
  have hb2 : w2.heap[b]? = some (.cells #[.pointer (some ⟨b, 0, none⟩), v] 94 (0, 0)) := by
    rw [hgrow.block b (by simp; omega) (fun e => hne e.symm), Lib.alloc_old w1 _ b hlt]
    exact hbk
  have d0 : w2.cell? ⟨b, 0, none⟩ = some (.pointer (some ⟨b, 0, none⟩)) := by rw [Lib.cell_of_heap hb2]; rfl
  have d1 : w2.cell? ⟨b, 1, none⟩ = some v := by rw [Lib.cell_of_heap hb2]; rfl
  have f1 : w2.frozen? ⟨b, 1, none⟩ = false := Lib.frozen_of_heap hb2 1
  obtain ⟨g, cap, rfl⟩ : ∃ g cap, v' = .slice (some ⟨g, 0, none⟩) (bs.length + 1) cap := by
    rcases hown'.2 with ⟨_, h0⟩ | ⟨g, cap, cur, hv, _⟩
    · omega
    · exact ⟨g, cap, hv⟩
  go_wp2
  go_ret
  refine ⟨rfl, ?_, ?_, ?_⟩
  · exact Lib.BuilderAt.put (T := 94) (e := 5) hB hb2 (bs' := bs ++ [.int .u8 c]) (by simpa using hown') (by decide)
  · exact ((hb1.alloc (by have := hb1.size; omega) _).grown hgrow (by have := hb1.size; simp; omega) (fun k hk => (hown.lt k hk).1)).setCell (p := ⟨b, 1, none⟩) hB _
  · exact ((hm1.trans (ModW.of_below ((Below.refl _ _).alloc (Nat.le_refl _) _))).trans (ModW.of_grown hgrow (fun k hk => own_typed (hown.alloc _) k hk))).trans (ModW.setCell b _ 1 _)

set_option maxHeartbeats 2000000 in
set_option maxRecDepth 100000 in
theorem writeString (B b : Nat) (bs : List Value) (s : ByteArray) (w : World) (h : IsWr B b bs w) (hlen : bs.length + s.size ≤ 140737488355328) (hBw : B ≤ w.heap.size) :
    Calls Tryd.prog 64 #[.pointer (some ⟨b, 0, none⟩), .string s] w fun e w' => e = .returned (.tuple #[.int .i64 s.size, .nilIface]) ∧ (Wr B b (.pointer (some ⟨b, 0, none⟩)) (bs ++ Lib.strCells s) w' ∧ Below B w w' ∧ ModW b w w') := by
  obtain ⟨i0, hi, hz0, hz1, hz2⟩ := info_parts infoByte
  have HC := Lib.hid (copyCheck B b bs w h)
  go_enter Tryd.func64, Tryd.ntmps64
  go_wp2_with (go_at_call 75; refine HC.out.mono ?_)
  rintro e w1 ⟨rfl, h1, hb1, hm1⟩
  obtain ⟨hB, v, hbk, hown, hne⟩ := h1
  have c0 : w1.cell? ⟨b, 0, none⟩ = some (.pointer (some ⟨b, 0, none⟩)) := by rw [Lib.cell_of_heap hbk]; rfl
  have c1 : w1.cell? ⟨b, 1, none⟩ = some v := by rw [Lib.cell_of_heap hbk]; rfl
  go_wp2_with (at_builtin; refine Lib.wpList_append_own_string _ rfl _ _ 90 9 rfl B 5 i0 Tryd.underlying90 Tryd.underlying9 hi hz0 hz1 hz2 _ _ _ rfl hown s rfl ?c3 ?c4 ?c5 ?_)
  case c3 => unfold maxLen; omega
  case c4 => omega
  case c5 => have := hb1.size; omega
  intro v' w2 hown' hgrow _
  have hlt : b < w1.heap.size := by
    rcases Nat.lt_or_ge b w1.heap.size with h' | h'
    · exact h'
    · simp [Array.getElem?_eq_none h'] at hbk
  have hb2 : w2.heap[b]? = some (.cells #[.pointer (some ⟨b, 0, none⟩), v] 94 (0, 0)) := by
    rw [hgrow.block b hlt (fun e => hne e.symm)]
    exact hbk
  have d0 : w2.cell? ⟨b, 0, none⟩ = some (.pointer (some ⟨b, 0, none⟩)) := by rw [Lib.cell_of_heap hb2]; rfl
  have d1 : w2.cell? ⟨b, 1, none⟩ = some v := by rw [Lib.cell_of_heap hb2]; rfl
  have f1 : w2.frozen? ⟨b, 1, none⟩ = false := Lib.frozen_of_heap hb2 1
  obtain ⟨ao, n', cap, rfl⟩ : ∃ ao n' cap, v' = .slice ao n' cap := by
    rcases hown'.2 with ⟨hv, _⟩ | ⟨g, cap, cur, hv, _⟩
    · exact ⟨_, _, _, hv⟩
    · exact ⟨_, _, _, hv⟩
  go_wp2
  go_ret2
  refine ⟨rfl, ?_, ?_, ?_⟩
  · exact Lib.BuilderAt.put (T := 94) (e := 5) hB hb2 (bs' := bs ++ Lib.strCells s) (by simpa [Lib.strCells_length] using hown') (by decide)
  · exact (hb1.grown hgrow (by have := hb1.size; omega) (fun k hk => (hown.lt k hk).1)).setCell (p := ⟨b, 1, none⟩) hB _
  · exact (hm1.trans (ModW.of_grown hgrow (fun k hk => own_typed hown k hk))).trans (ModW.setCell b _ 1 _)

set_option maxHeartbeats 1000000 in
set_option maxRecDepth 100000 in
theorem builderString (B b : Nat) (l : List UInt8) (w : World) (h : IsWr B b (Lib.byteCells l) w) (h0 : l ≠ []) :
    Calls Tryd.prog 39 #[.pointer (some ⟨b, 0, none⟩)] w fun e w' => e = .returned (.string ⟨l.toArray⟩) ∧ Below B w w' := by
  obtain ⟨p, hB, v, hbk, hown, hne⟩ : ∃ p, Wr B b p (Lib.byteCells l) w := by
    rcases h with h | h
    · exact ⟨_, h⟩
    · exact ⟨_, h⟩
  have hl0 : l.length ≠ 0 := by simpa using h0
  rw [Lib.byteCells_length] at hown
  obtain ⟨g, cap, cur, rfl, hbg, hg, hnc, hcm, hcs, htake⟩ : ∃ g cap cur, v = .slice (some ⟨g, 0, none⟩) l.length cap ∧ B ≤ g ∧ w.heap[g]? = some (.cells cur 5 (0, 0)) ∧ l.length ≤ cap ∧ cap ≤ maxLen ∧ cur.size = cap * 1 ∧ cur.toList.take (l.length * 1) = Lib.byteCells l := by
    rcases hown.2 with ⟨_, hz⟩ | ⟨g, cap, cur, hv, r⟩
    · exact absurd hz hl0
    · exact ⟨g, cap, cur, hv, r⟩
  have c1 : w.drew.cell? ⟨b, 1, none⟩ = some (.slice (some ⟨g, 0, none⟩) l.length cap) := by
    have : w.drew.heap[b]? = some (.cells #[p, .slice (some ⟨g, 0, none⟩) l.length cap] 94 (0, 0)) := hbk
    rw [Lib.cell_of_heap this]; rfl
  have hSD : (Builtin.unsafeSliceData_ #[90] 130 #[.slice (some ⟨g, 0, none⟩) l.length cap]).run Tryd.prog w.drew = .ok (.pointer (some ⟨g, 0, none⟩)) w.drew :=
    Lib.run_unsafeSliceData_row _ _ _ _ _ _ (by omega)
  have hUS : (Builtin.unsafeString_ #[130, 3] 9 #[.pointer (some ⟨g, 0, none⟩), .int .i64 l.length]).run Tryd.prog w.drew = .ok (.string ⟨l.toArray⟩) (w.drew.freeze ⟨g, 0, none⟩ l.length) := by
    refine Lib.run_unsafeString_row w.drew 130 3 9 5 Tryd.underlying130 (by kernel_rfl) g cur.size (by have hg' : w.drew.heap[g]? = some (.cells cur 5 (0, 0)) := hg; simp [World.shape?, hg']) l h0 (by omega) (by unfold maxLen at hcm; omega) ?_
    intro j x hx
    have := hown.cells (g := g) rfl j (.int .u8 x.toNat) (by simp [Lib.byteCells, hx])
    exact this
  go_enter Tryd.func39, Tryd.ntmps39
  go_wp2
  go_region
  all_goals (go_wp2; go_ret; exact ⟨rfl, Lib.below_freeze (Below.drew (Below.refl B w)) (p := ⟨g, 0, none⟩) hbg _⟩)
end Go.Proofs.YtgjlchcfdbmmlaaDoor.PObjectTakes
/- (*writer).head: a number's bytes, and how many. -/
namespace Go.Proofs.YtgjlchcfdbmmlaaDoor.PObjectTakes
open Go.RowKit Go.Proofs.YtgjlchcfdbmmlaaDoorW.PrintWords Go.Proofs.YtgjlchcfdbmmlaaDoorW.PrintLast Go.Proofs.YtgjlchcfdbmmlaaDoorW.PrintMore
set_option linter.unusedVariables false
set_option linter.unusedSimpArgs false

/-- A number's bytes, the first not zero. -/
def bes (n : Nat) : List UInt8 := if h : n = 0 then [] else bes (n / 256) ++ [UInt8.ofNat (n % 256)]
theorem bes_zero : bes 0 = [] := by unfold bes; simp
theorem bes_pos {n : Nat} (h : 0 < n) : bes n = bes (n / 256) ++ [UInt8.ofNat (n % 256)] := by
  rw [bes]; rw [dif_neg (by omega)]
theorem bes_len : ∀ (k n : Nat), n < 256 ^ k → (bes n).length ≤ k
  | 0, n, h => by
    have : n = 0 := by simp at h; exact h
    rw [this, bes_zero]; exact Nat.le_refl _
  | k + 1, n, h => by
    rcases Nat.eq_zero_or_pos n with rfl | h0
    · rw [bes_zero]; exact Nat.zero_le _
    · rw [bes_pos h0, List.length_append]
      have := bes_len k (n / 256) (by rw [Nat.pow_succ] at h; exact Nat.div_lt_of_lt_mul (by omega))
      simp only [List.length_singleton]; omega
theorem bes_len8 {n : Nat} (h : n < 18446744073709551616) : (bes n).length ≤ 8 := bes_len 8 n (by simpa using h)
theorem bes_at : ∀ (k n i : Nat), (bes n).length = k → i < k → (bes n)[i]? = some (UInt8.ofNat (n / 256 ^ (k - 1 - i) % 256))
  | 0, n, i, _, h => by omega
  | k + 1, n, i, hl, hi => by
    rcases Nat.eq_zero_or_pos n with rfl | h0
    · rw [bes_zero] at hl; cases hl
    · rw [bes_pos h0] at hl ⊢
      have hl' : (bes (n / 256)).length = k := by simpa using hl
      rcases Nat.lt_or_ge i k with h | h
      · rw [List.getElem?_append_left (by omega), bes_at k (n / 256) i hl' h, Nat.div_div_eq_div_mul]
        rw [show k + 1 - 1 - i = (k - 1 - i) + 1 by omega, Nat.pow_succ, Nat.mul_comm (256 ^ (k - 1 - i)) 256]
      · have : i = k := by omega
        subst this
        rw [List.getElem?_append_right (by omega), hl']
        simp
/-- What 'head' writes. -/
def headB (kind n : Nat) : List UInt8 := UInt8.ofNat (kind * 16 + (bes n).length) :: bes n

theorem byteCells_append (a b : List UInt8) : Lib.byteCells (a ++ b) = Lib.byteCells a ++ Lib.byteCells b := by simp [Lib.byteCells]
theorem bits_or_head' : ∀ k : Fin 5, ∀ j : Fin 9, bits BinOp.or IntKind.u8 (((k : Nat) : Int) * 16) ((j : Nat) : Int) = ((k : Nat) : Int) * 16 + ((j : Nat) : Int) := by decide
theorem bits_or_head (k j : Nat) (hk : k ≤ 4) (hj : j ≤ 8) : bits BinOp.or IntKind.u8 ((k : Int) * 16) (j : Int) = (k : Int) * 16 + (j : Int) := bits_or_head' ⟨k, by omega⟩ ⟨j, by omega⟩
/-- All but the last i bytes are written. -/
def HeadAt (B b : Nat) (bs : List Value) (kind n : Nat) (w : World) (i : Nat) (W : World) : Prop :=
  i ≤ (bes n).length ∧ Wr B b (.pointer (some ⟨b, 0, none⟩)) (bs ++ Lib.byteCells ((headB kind n).take ((bes n).length - i + 1))) W ∧ Below B w W ∧ ModW b w W

set_option maxHeartbeats 4000000 in
set_option maxRecDepth 100000 in
theorem head_calls (B b : Nat) (bs : List Value) (kind n : Nat) (w : World) (h : IsWr B b bs w) (hk : kind ≤ 4) (hn : n < 18446744073709551616) (hlen : bs.length + 9 ≤ 140737488355328) (hBw : B ≤ w.heap.size) :
    Calls Tryd.prog 63 #[.pointer (some ⟨b, 0, none⟩), .int .u8 (kind : Int), .int .u64 (n : Int)] w fun e w' => e = .returned (.tuple #[]) ∧ (Wr B b (.pointer (some ⟨b, 0, none⟩)) (bs ++ Lib.byteCells (headB kind n)) w' ∧ Below B w w' ∧ ModW b w w') := by
  have HL := Lib.hid (bes_len8 hn)
  have H := Lib.hid h
  clear h
  go_enter Tryd.func63, Tryd.ntmps63
  go_wp2_with fail
  go_loopw [6, 7] (fun k m wr => w = wr ∧ ∃ j mm : Nat, k = .int .u8 (j : Int) ∧ m = .int .u64 (mm : Int) ∧ mm ≤ n ∧ j + (bes mm).length = (bes n).length) (fun _ m _ => (intOf m).toNat)
  case atStart => exact ⟨rfl, 0, n, rfl, rfl, Nat.le_refl _, by simp⟩
  case round =>
    obtain ⟨rfl, j, mm, rfl, rfl, hle, hj⟩ := hrel
    by_cases h0 : 0 < mm
    · have h1 := bes_pos h0
      go_wp2_with fail
      have HLo := HL.out
      have h2 : (bes mm).length = (bes (mm / 256)).length + 1 := by rw [h1]; simp
      go_roundw
      case rel => exact ⟨trivial, j + 1, mm / 256, by congr 1; omega, by congr 1, by omega, by omega⟩
      case measure => simp [intOf]; omega
    · have hm0 : mm = 0 := by omega
      rw [hm0, bes_zero] at hj
      clear hm0
      have hj' : j = (bes n).length := by simpa using hj
      have hj8 : j ≤ 8 := by rw [hj']; exact HL.out
      have hor := bits_or_head kind j hk hj8
      have HJ := Lib.hid hj'
      have HX := Lib.hid (writeByte B b bs ((kind : Int) * 16 + (j : Int)) w H.out (by omega) hBw)
      clear hj hj'
      go_wp2_with fail
      refine HX.out.mono ?_
      rintro e W1 ⟨rfl, hw, hb, hm⟩
      have hi : HeadAt B b bs kind n w j W1 := ⟨by rw [← HJ.out]; exact Nat.le_refl _, by
        rw [HJ.out, Nat.sub_self, Nat.zero_add]
        have e1 : Lib.byteCells ((headB kind n).take 1) = [.int .u8 ((kind : Int) * 16 + (j : Int))] := by
          simp only [headB, List.take_succ_cons, List.take_zero, Lib.byteCells, List.map_cons, List.map_nil]
          rw [← HJ.out, UInt8.toNat_ofNat']
          congr 1
          congr 1
          omega
        rw [e1]; exact hw, hb, hm⟩
      have HI := Lib.hid hi
      clear hw hb HX hi hm
      go_wp2_with fail
      go_loopw [6] (fun k wx => ∃ i : Nat, k = .int .u8 (i : Int) ∧ HeadAt B b bs kind n w i wx) (fun k _ => (intOf k).toNat)
      case atStart => exact ⟨j, rfl, HI.out⟩
      case round =>
        obtain ⟨i, rfl, hle, hw, hb, hm⟩ := hrel
        have HM := Lib.hid hm
        clear hm
        have hi8 : i ≤ 8 := Nat.le_trans hle HL.out
        by_cases h0 : 0 < i
        · have hat := bes_at (bes n).length n ((bes n).length - i) rfl (by omega)
          rw [show (bes n).length - 1 - ((bes n).length - i) = i - 1 by omega] at hat
          have HAT := Lib.hid hat
          have hlt : (bs ++ Lib.byteCells ((headB kind n).take ((bes n).length - i + 1))).length + 1 ≤ 140737488355328 := by
            rw [List.length_append, Lib.byteCells_length, List.length_take]
            have := HL.out; omega
          have HX := Lib.hid (fun c => writeByte B b _ c wr (.inr hw) hlt (Nat.le_trans hBw hb.size))
          have HB := Lib.hid hb
          clear hat hlt hw hb
          go_wp2_with fail
          refine (HX.out _).mono ?_
          rintro e W2 ⟨rfl, hw2, hb2, hm2⟩
          have hn2 : HeadAt B b bs kind n w (i - 1) W2 := by
            refine ⟨by omega, ?_, HB.out.trans hb2, HM.out.trans hm2⟩
            rw [show (bes n).length - (i - 1) + 1 = ((bes n).length - i + 1) + 1 by omega, List.take_add_one]
            have h2 : (headB kind n)[(bes n).length - i + 1]? = some (UInt8.ofNat (n / 256 ^ (i - 1) % 256)) := HAT.out
            rw [h2, Option.toList_some]
            have h3 : Lib.byteCells [UInt8.ofNat (n / 256 ^ (i - 1) % 256)] = [.int .u8 ((n : Int) / 2 ^ (8 * (i - 1)) % 256)] := by
              simp only [Lib.byteCells, List.map_cons, List.map_nil]
              rw [UInt8.toNat_ofNat']
              congr 1
              congr 1
              rw [show (256 : Nat) = 2 ^ 8 from rfl, ← Nat.pow_mul]
              simp
            rw [byteCells_append, h3, ← List.append_assoc]
            exact hw2
          have HN := Lib.hid hn2
          clear hw2 hb2 hn2 HX hm2
          go_wp2_with fail
          go_roundw
          case rel => exact ⟨i - 1, by congr 1; omega, HN.out⟩
          case measure => simp [intOf]; omega
        · have hi0 : i = 0 := by omega
          have hfin : Wr B b (.pointer (some ⟨b, 0, none⟩)) (bs ++ Lib.byteCells (headB kind n)) wr := by
            rw [hi0, Nat.sub_zero] at hw
            rw [List.take_of_length_le (by simp [headB])] at hw
            exact hw
          have HF := Lib.hid hfin
          have HB := Lib.hid hb
          clear hw hb hfin hi0
          go_wp2_with fail
          go_end0
          exact ⟨rfl, HF.out, HB.out, HM.out⟩
end Go.Proofs.YtgjlchcfdbmmlaaDoor.PObjectTakes
/- (*writer).put: a cell's bytes. -/
namespace Go.Proofs.YtgjlchcfdbmmlaaDoor.PObjectTakes
open Go.RowKit Go.Proofs.YtgjlchcfdbmmlaaDoorW.PrintWords Go.Proofs.YtgjlchcfdbmmlaaDoorW.PrintLast Go.Proofs.YtgjlchcfdbmmlaaDoorW.PrintMore
set_option linter.unusedVariables false
set_option linter.unusedSimpArgs false

mutual
/-- A cell's bytes. -/
def encS : S42 → List UInt8
  | ⟨k, n, s, l⟩ => if k = 1 then (if n < 0 then headB 2 (-(n + 1)).toNat else headB 1 n.toNat) else if k = 2 then headB 3 s.size ++ s.data.toList else headB 4 l.length ++ encL l
def encL : List S42 → List UInt8
  | [] => []
  | x :: xs => encS x ++ encL xs
end
mutual
/-- Its numbers are of their kind. -/
def wfS : S42 → Prop
  | ⟨k, n, s, l⟩ => -9223372036854775808 ≤ n ∧ n ≤ 9223372036854775807 ∧ s.size ≤ 140737488355328 ∧ l.length ≤ 140737488355328 ∧ wfL l
def wfL : List S42 → Prop
  | [] => True
  | x :: xs => wfS x ∧ wfL xs
end
theorem wfL_at : ∀ {l : List S42}, wfL l → ∀ {i : Nat} {x : S42}, l[i]? = some x → wfS x
  | [], _, i, x, h => by simp at h
  | y :: ys, hw, i, x, h => by
    rw [wfL] at hw
    cases i with
    | zero => simp at h; exact h ▸ hw.1
    | succ i => exact wfL_at hw.2 (by simpa using h)
theorem encL_snoc : ∀ (l : List S42) (x : S42), encL (l ++ [x]) = encL l ++ encS x
  | [], x => by simp [encL]
  | y :: ys, x => by simp [encL, encL_snoc ys x]
theorem encL_take_le : ∀ (l : List S42) (i : Nat), (encL (l.take i)).length ≤ (encL l).length
  | [], i => by simp
  | y :: ys, 0 => by simp [encL]
  | y :: ys, i + 1 => by
    have := encL_take_le ys i
    simp [encL]; exact this

theorem IsWr.far {B b : Nat} {bs : List Value} {w w' : World} (h : IsWr B b bs w) (hb : Below w.heap.size w w') : IsWr B b bs w' := by
  have f : ∀ p, Wr B b p bs w → Wr B b p bs w' := fun p ⟨h1, v, h2, h3, h4⟩ =>
    ⟨h1, v, (hb.block b (Array.getElem?_eq_some_iff.1 h2).1).trans h2, own_move h3 (fun k hk => hb.block k (own_lt h3 k hk)), h4⟩
  exact h.elim (fun x => .inl (f _ x)) (fun x => .inr (f _ x))
/-- The first i elements are written. -/
def PutAt (w0 : World) (b : Nat) (bs : List Value) (w : World) (g : Nat) (cs : Array Value) (l : List S42) (i : Nat) (W : World) : Prop :=
  i ≤ l.length ∧ Wr w0.heap.size b (.pointer (some ⟨b, 0, none⟩)) (bs ++ Lib.byteCells (headB 4 l.length ++ encL (l.take i))) W ∧ Below w0.heap.size w0 W ∧ ModW b w W
theorem i64_not_neg (n : Int) (h0 : -9223372036854775808 ≤ n) (h1 : n < 0) : bits .xor .i64 (-1) n = -1 - n := by
  show IntKind.i64.wrap ((BitVec.ofInt 64 (-1) ^^^ BitVec.ofInt 64 n).toNat : Int) = _
  have h2 : BitVec.ofInt 64 (-1) = BitVec.allOnes 64 := by decide
  rw [h2, BitVec.allOnes_xor, BitVec.toNat_not, BitVec.toNat_ofInt]
  simp [IntKind.wrap, IntKind.bits, IntKind.signed]
  omega
theorem headB_len (k n : Nat) (h : n < 18446744073709551616) : (headB k n).length ≤ 9 := by
  have := bes_len8 h
  simp only [headB, List.length_cons]; omega
theorem strCells_bytes (s : ByteArray) : Lib.strCells s = Lib.byteCells s.data.toList := by simp [Lib.strCells, Lib.byteCells]
set_option maxHeartbeats 8000000 in
set_option maxRecDepth 100000 in
theorem put_calls (m : Nat) : ∀ (x : S42) (hm : SizeOf.sizeOf x < m) (w0 : World) (b : Nat) (bs : List Value) (A : Option Addr) (c : Nat) (w : World) (h : IsWr w0.heap.size b bs w) (hA : Kd.C k42 w0 A x.f3.length x.f3) (hx : wfS x)
    (hlen : bs.length + (encS x).length + 16 ≤ 140737488355328) (hb0 : Below w0.heap.size w0 w),
    Calls Tryd.prog 38 #[.pointer (some ⟨b, 0, none⟩), .agg #[.int .i64 x.f0, .int .i64 x.f1, .string x.f2, .slice A x.f3.length c]] w fun e w' => e = .returned (.tuple #[]) ∧ (Wr w0.heap.size b (.pointer (some ⟨b, 0, none⟩)) (bs ++ Lib.byteCells (encS x)) w' ∧ Below w0.heap.size w0 w' ∧ ModW b w w') := by
  induction m with
  | zero => intro x hm; omega
  | succ m ih =>
    rintro ⟨k, n, s, l⟩ hm w0 b bs A c w h hA hx hlen hb0
    simp only at hA ⊢
    rw [wfS] at hx
    obtain ⟨hn0, hn1, hss, hll, hwl⟩ := hx
    rw [encS] at hlen ⊢
    have H := Lib.hid h
    have HA := Lib.hid hA
    have HB := Lib.hid hb0
    have HW := Lib.hid hwl
    have hlt := h.elim (fun e => e.lt) (fun e => e.lt)
    have HIH := Lib.hid ih
    clear h hA hb0 hwl ih
    by_cases hk1 : k = 1
    · rw [if_pos hk1] at hlen
      rw [if_pos hk1]
      by_cases hneg : n < 0
      · rw [if_pos hneg] at hlen
        rw [if_pos hneg]
        obtain ⟨q, hq⟩ : ∃ q : Nat, (-(n + 1)).toNat = q := ⟨_, rfl⟩
        rw [hq] at hlen ⊢
        go_enter Tryd.func38, Tryd.ntmps38
        go_wp2_with fail
        obtain ⟨W1, hW1⟩ : ∃ W1, W1 = w.alloc (.cells #[.int .i64 1, .int .i64 n, .string s, .slice A l.length c] 42) := ⟨_, rfl⟩
        rw [← hW1]
        have hn1 : Below w.heap.size w W1 := by rw [hW1]; exact (Below.refl _ _).alloc (Nat.le_refl _) _
        clear hW1
        have hB1 : Below w0.heap.size w0 W1 := HB.out.trans (hn1.mono HB.out.size)
        rw [i64_not_neg n hn0 hneg, show IntKind.u64.wrap (-1 - n) = (q : Int) by rw [IntKind.wrap_u64]; omega]
        have hhl := headB_len 2 q (by omega)
        refine (head_calls w0.heap.size b bs 2 q W1 (H.out.far hn1) (by decide) (by omega) (by omega) hB1.size).mono ?_
        rintro e W2 ⟨rfl, hw2, hb2, hm2⟩
        have HD := Lib.hid (And.intro hw2 (And.intro (hB1.trans hb2) ((ModW.of_below hn1).trans hm2)))
        clear hw2 hb2 hm2 hB1 hn1
        go_wp2_with fail
        go_end0
        exact ⟨rfl, HD.out⟩
      · rw [if_neg hneg] at hlen
        rw [if_neg hneg]
        obtain ⟨q, rfl⟩ : ∃ q : Nat, n = (q : Int) := ⟨n.toNat, by omega⟩
        rw [Int.toNat_natCast] at hlen ⊢
        go_enter Tryd.func38, Tryd.ntmps38
        go_wp2_with fail
        obtain ⟨W1, hW1⟩ : ∃ W1, W1 = w.alloc (.cells #[.int .i64 1, .int .i64 (q : Int), .string s, .slice A l.length c] 42) := ⟨_, rfl⟩
        rw [← hW1]
        have hn1 : Below w.heap.size w W1 := by rw [hW1]; exact (Below.refl _ _).alloc (Nat.le_refl _) _
        clear hW1
        have hB1 : Below w0.heap.size w0 W1 := HB.out.trans (hn1.mono HB.out.size)
        have hhl := headB_len 1 q (by omega)
        refine (head_calls w0.heap.size b bs 1 q W1 (H.out.far hn1) (by decide) (by omega) (by omega) hB1.size).mono ?_
        rintro e W2 ⟨rfl, hw2, hb2, hm2⟩
        have HD := Lib.hid (And.intro hw2 (And.intro (hB1.trans hb2) ((ModW.of_below hn1).trans hm2)))
        clear hw2 hb2 hm2 hB1 hn1
        go_wp2_with fail
        go_end0
        exact ⟨rfl, HD.out⟩
    · by_cases hk2 : k = 2
      · rw [if_neg hk1, if_pos hk2] at hlen
        rw [if_neg hk1, if_pos hk2]
        go_enter Tryd.func38, Tryd.ntmps38
        go_wp2_with fail
        obtain ⟨W1, hW1⟩ : ∃ W1, W1 = w.alloc (.cells #[.int .i64 2, .int .i64 n, .string s, .slice A l.length c] 42) := ⟨_, rfl⟩
        rw [← hW1]
        have hn1 : Below w.heap.size w W1 := by rw [hW1]; exact (Below.refl _ _).alloc (Nat.le_refl _) _
        have hg1 : W1.heap[w.heap.size]? = some (.cells #[.int .i64 2, .int .i64 n, .string s, .slice A l.length c] 42 (0, 0)) := by rw [hW1]; exact heap_alloc_last _ _
        have hgs : w.heap.size < W1.heap.size := (Array.getElem?_eq_some_iff.1 hg1).1
        have hB1 : Below w0.heap.size w0 W1 := HB.out.trans (hn1.mono HB.out.size)
        have hhl := headB_len 3 s.size (by omega)
        refine (head_calls w0.heap.size b bs 3 s.size W1 (H.out.far hn1) (by decide) (by omega) (by omega) hB1.size).mono ?_
        rintro e W2 ⟨rfl, hw2, hb2, hm2⟩
        have hc2 : W2.drew.cell? ⟨w.heap.size, 2, none⟩ = some (.string s) := by
          have hh : W2.drew.heap[w.heap.size]? = _ := (hm2.block _ hgs (by omega) (by rw [hg1]; intro c f e; injection e with e; injection e with _ e _; cases e)).trans hg1
          rw [Lib.cell_of_heap hh]; rfl
        have hws := writeString w0.heap.size b _ s W2.drew (IsWr.far (.inr hw2) ((Below.refl _ _).drew)) (by
          simp only [List.length_append, Lib.byteCells_length] at hlen ⊢
          have : s.data.toList.length = s.size := by rw [Array.length_toList]; rfl
          omega) (Nat.le_trans hB1.size hb2.size)
        rw [List.append_assoc, strCells_bytes, ← byteCells_append] at hws
        have HWS := Lib.hid hws
        have HD := Lib.hid (And.intro (hB1.trans hb2) ((ModW.of_below hn1).trans hm2))
        clear hw2 hb2 hm2 hn1 hW1 hg1 hgs hB1 hws
        go_wp2_with fail
        go_region_with (refine HWS.out.mono ?_; rintro e W3 ⟨rfl, hw3, hb3, hm3⟩)
        all_goals (go_wp2_with fail; go_end0; exact ⟨rfl, hw3, HD.out.1.trans (Below.trans ((Below.refl _ _).drew) hb3), HD.out.2.trans (ModW.trans (ModW.refl b _).drew hm3)⟩)
      · rw [if_neg hk1, if_neg hk2] at hlen
        rw [if_neg hk1, if_neg hk2]
        go_enter Tryd.func38, Tryd.ntmps38
        go_wp2_with fail
        obtain ⟨W1, hW1⟩ : ∃ W1, W1 = w.alloc (.cells #[.int .i64 k, .int .i64 n, .string s, .slice A l.length c] 42) := ⟨_, rfl⟩
        rw [← hW1]
        have hn1 : Below w.heap.size w W1 := by rw [hW1]; exact (Below.refl _ _).alloc (Nat.le_refl _) _
        have hg1 : W1.heap[w.heap.size]? = some (.cells #[.int .i64 k, .int .i64 n, .string s, .slice A l.length c] 42 (0, 0)) := by rw [hW1]; exact heap_alloc_last _ _
        have hgs : w.heap.size < W1.heap.size := (Array.getElem?_eq_some_iff.1 hg1).1
        have hB1 : Below w0.heap.size w0 W1 := HB.out.trans (hn1.mono HB.out.size)
        have hlen1 : (headB 4 l.length).length ≤ 9 := by
          have := bes_len8 (n := l.length) (by omega)
          simp only [headB, List.length_cons]; omega
        refine (head_calls w0.heap.size b bs 4 l.length W1 (H.out.far hn1) (by decide) (by omega) (by omega) hB1.size).mono ?_
        rintro e W2 ⟨rfl, hw2, hb2, hm2⟩
        have hc2 : W2.cell? ⟨w.heap.size, 3, none⟩ = some (.slice A l.length c) := by
          rw [Lib.cell_of_heap ((hm2.block _ hgs (by omega) (by rw [hg1]; intro c f e; injection e with e; injection e with _ e _; cases e)).trans hg1)]; rfl
        have hpa : PutAt w0 b bs w w.heap.size #[] l 0 W2 := ⟨Nat.zero_le _, by simpa [encL] using hw2, hB1.trans hb2, (ModW.of_below hn1).trans hm2⟩
        have HPA := Lib.hid hpa
        clear hW1 hg1 hgs hB1 hw2 hb2 hm2 hpa
        go_wp2_with fail
        go_loopw [17] (fun v wr => ∃ i : Nat, v = .int .i64 (i : Int) ∧ PutAt w0 b bs w w.heap.size #[] l i wr) (fun v _ => l.length - (intOf v).toNat)
        case atStart => exact ⟨0, rfl, HPA.out⟩
        case round =>
          obtain ⟨i, rfl, hi, hwr, hbe, hmo⟩ := hrel
          have HWR := Lib.hid hwr
          have HBE := Lib.hid hbe
          have HMO := Lib.hid hmo
          clear hwr hbe hmo
          by_cases hil : i < l.length
          · obtain ⟨ad, A3, c3, rfl, c0, c1, c2, c3', l3, g3⟩ := at_T42 HA.out (i : Int) (by omega) (by omega)
            obtain ⟨x, hx⟩ : ∃ x, l[i]? = some x := ⟨_, List.getElem?_eq_getElem hil⟩
            have hrd : rd_T42 l (i : Int) = x := by unfold rd_T42; rw [Int.toNat_natCast, List.getD_eq_getElem?_getD, hx]; rfl
            rw [hrd] at c0 c1 c2 c3' l3 g3
            rw [Int.toNat_natCast] at c0 c1 c2 c3'
            have hbk := block_lt_of_cell c0
            have c0 := (HBE.out.cell hbk).trans c0
            have c1 := (HBE.out.cell (p := ⟨(ad.add (i * 4)).block, (ad.add (i * 4)).off + 1, none⟩) hbk).trans c1
            have c2 := (HBE.out.cell (p := ⟨(ad.add (i * 4)).block, (ad.add (i * 4)).off + 2, none⟩) hbk).trans c2
            have c3' := (HBE.out.cell (p := ⟨(ad.add (i * 4)).block, (ad.add (i * 4)).off + 3, none⟩) hbk).trans c3'
            have HX := Lib.hid hx
            have HG3 := Lib.hid g3
            clear hx hrd g3 hbk
            go_wp2_with fail
            obtain ⟨W3, hW3⟩ : ∃ W3, W3 = wr.alloc (.cells #[.int .i64 x.f0, .int .i64 x.f1, .string x.f2, .slice A3 x.f3.length c3] 42) := ⟨_, rfl⟩
            rw [← hW3]
            have hn3 : Below wr.heap.size wr W3 := by rw [hW3]; exact (Below.refl _ _).alloc (Nat.le_refl _) _
            clear hW3
            have hsz : SizeOf.sizeOf x < m := by
              have := List.sizeOf_lt_of_mem (List.mem_of_getElem? HX.out)
              simp at hm; omega
            have hxl : (l.take (i + 1)) = l.take i ++ [x] := by rw [List.take_add_one, HX.out]; rfl
            have hle : (bs ++ Lib.byteCells (headB 4 l.length ++ encL (l.take i))).length + (encS x).length + 16 ≤ 140737488355328 := by
              have := encL_take_le l (i + 1)
              rw [hxl, encL_snoc] at this
              simp only [List.length_append, Lib.byteCells_length] at this hlen ⊢
              omega
            refine (HIH.out x hsz w0 b _ A3 c3 W3 (IsWr.far (.inr HWR.out) hn3) HG3.out (wfL_at HW.out HX.out) hle (HBE.out.trans (hn3.mono HBE.out.size))).mono ?_
            rintro e W4 ⟨rfl, hw4, hb4, hm4⟩
            have hp4 : PutAt w0 b bs w w.heap.size #[] l (i + 1) W4 := ⟨hil, by
              rw [hxl, encL_snoc, ← List.append_assoc, byteCells_append, ← List.append_assoc]; exact hw4, hb4, (HMO.out.trans (ModW.of_below hn3)).trans hm4⟩
            have HP4 := Lib.hid hp4
            clear hw4 hb4 hm4 hp4 hxl hle hsz
            go_wp2_with fail
            go_roundw
            case rel => exact ⟨i + 1, by go_num, HP4.out⟩
            case measure => simp [intOf]; omega
          · have hie : i = l.length := by omega
            have hfin : Wr w0.heap.size b (.pointer (some ⟨b, 0, none⟩)) (bs ++ Lib.byteCells (headB 4 l.length ++ encL l)) wr := by
              have := HWR.out; rw [hie, List.take_length] at this; exact this
            have HF := Lib.hid hfin
            clear hfin hie
            go_wp2_with fail
            go_end0
            exact ⟨rfl, HF.out, HBE.out, HMO.out⟩
end Go.Proofs.YtgjlchcfdbmmlaaDoor.PObjectTakes
/- cell.Put and cell.Size over a cell in memory. -/
namespace Go.Proofs.YtgjlchcfdbmmlaaDoor.PObjectTakes
open Go.RowKit Go.Proofs.YtgjlchcfdbmmlaaDoorW.PrintWords Go.Proofs.YtgjlchcfdbmmlaaDoorW.PrintLast Go.Proofs.YtgjlchcfdbmmlaaDoorW.PrintMore
set_option linter.unusedVariables false
set_option linter.unusedSimpArgs false

/-- What Put answers, r being what Check does. -/
def putB (r : Int) (x : S42) : List UInt8 := if r = 0 then encS x else []
theorem headB_ne (k n : Nat) : headB k n ≠ [] := by simp [headB]
theorem encS_ne : ∀ x : S42, encS x ≠ []
  | ⟨k, n, s, l⟩ => by
    rw [encS]
    split
    · split <;> exact headB_ne _ _
    · split <;> simp [headB]

set_option maxHeartbeats 4000000 in
set_option maxRecDepth 100000 in
theorem Put_calls (fuel : Nat) (x : S42) (A : Option Addr) (c : Nat) (r : Int) (w : World) (hA : Kd.C k42 w A x.f3.length x.f3) (hc : x.f3.length ≤ c) (hx : wfS x) (hr : cell_Check.f fuel x.f0 x.f1 x.f2 x.f3 = some r)
    (hlen : r = 0 → (encS x).length + 16 ≤ 140737488355328) :
    Calls Tryd.prog 20 #[.agg #[.int .i64 x.f0, .int .i64 x.f1, .string x.f2, .slice A x.f3.length c]] w fun e w' => e = .returned (.tuple #[.string ⟨(putB r x).toArray⟩, .int .i64 r]) ∧ Below w.heap.size w w' := by
  have HA := Lib.hid hA
  have HL := Lib.hid hlen
  obtain ⟨W1, hW1⟩ : ∃ W1, W1 = w.alloc (.cells #[.int .i64 x.f0, .int .i64 x.f1, .string x.f2, .slice A x.f3.length c] 42) := ⟨_, rfl⟩
  have hn1 : Below w.heap.size w W1 := by rw [hW1]; exact (Below.refl _ _).alloc (Nat.le_refl _) _
  have hg1 : W1.heap[w.heap.size]? = some (.cells #[.int .i64 x.f0, .int .i64 x.f1, .string x.f2, .slice A x.f3.length c] 42 (0, 0)) := by rw [hW1]; exact heap_alloc_last _ _
  have hgs : w.heap.size < W1.heap.size := (Array.getElem?_eq_some_iff.1 hg1).1
  have HC := Lib.hid (cell_Check.calls fuel x.f0 x.f1 x.f2 A c x.f3 r W1 (Kd.C_below hA hn1) hc hr)
  have HW1 := Lib.hid hW1
  have HG1 := Lib.hid hg1
  have HN1 := Lib.hid hn1
  clear hA hlen hW1 hg1 hn1
  go_enter Tryd.func20, Tryd.ntmps20
  go_wp2_with fail
  rw [← HW1.out]
  have c0 : W1.cell? ⟨w.heap.size, 0, none⟩ = some (.int .i64 x.f0) := by rw [Lib.cell_of_heap HG1.out]; rfl
  have c1 : W1.cell? ⟨w.heap.size, 1, none⟩ = some (.int .i64 x.f1) := by rw [Lib.cell_of_heap HG1.out]; rfl
  have c2 : W1.cell? ⟨w.heap.size, 2, none⟩ = some (.string x.f2) := by rw [Lib.cell_of_heap HG1.out]; rfl
  have c3 : W1.cell? ⟨w.heap.size, 3, none⟩ = some (.slice A x.f3.length c) := by rw [Lib.cell_of_heap HG1.out]; rfl
  clear c0 c1 c2 c3
  refine HC.out.mono ?_
  rintro e W2 ⟨rfl, hb2⟩
  have hB2 := HN1.out.trans (hb2.mono (Nat.le_of_lt hgs))
  have hg2 := (hb2.block _ hgs).trans HG1.out
  by_cases hr0 : r = 0
  · subst hr0
    obtain ⟨W3, hW3⟩ : ∃ W3, W3 = W2.alloc (.cells #[.pointer none, .slice none 0 0] 94) := ⟨_, rfl⟩
    have hn3 : Below W2.heap.size W2 W3 := by rw [hW3]; exact (Below.refl _ _).alloc (Nat.le_refl _) _
    have hi3 : IsWr W2.heap.size W2.heap.size [] W3 := by rw [hW3]; exact Lib.fresh_isBuilder _ _ _
    have hs2 := (Array.getElem?_eq_some_iff.1 hg2).1
    have hg3 := (hn3.block _ hs2).trans hg2
    have d0 : (W2.alloc (.cells #[.pointer none, .slice none 0 0] 94)).cell? ⟨w.heap.size, 0, none⟩ = some (.int .i64 x.f0) := by rw [← hW3, Lib.cell_of_heap hg3]; rfl
    have d1 : (W2.alloc (.cells #[.pointer none, .slice none 0 0] 94)).cell? ⟨w.heap.size, 1, none⟩ = some (.int .i64 x.f1) := by rw [← hW3, Lib.cell_of_heap hg3]; rfl
    have d2 : (W2.alloc (.cells #[.pointer none, .slice none 0 0] 94)).cell? ⟨w.heap.size, 2, none⟩ = some (.string x.f2) := by rw [← hW3, Lib.cell_of_heap hg3]; rfl
    have d3 : (W2.alloc (.cells #[.pointer none, .slice none 0 0] 94)).cell? ⟨w.heap.size, 3, none⟩ = some (.slice A x.f3.length c) := by rw [← hW3, Lib.cell_of_heap hg3]; rfl
    have hput := put_calls (SizeOf.sizeOf x + 1) x (Nat.lt_succ_self _) W2 W2.heap.size [] A c W3 hi3 (Kd.C_below HA.out hB2) hx (by have := HL.out rfl; simpa using this) hn3
    have HP := Lib.hid hput
    have HB2 := Lib.hid hB2
    have HW3 := Lib.hid hW3
    clear hput hB2 hb2 hg2 hg3 hs2 hn3 hi3
    go_wp2_with fail
    rw [← HW3.out]
    clear d0 d1 d2 d3
    refine HP.out.mono ?_
    rintro e W4 ⟨rfl, hw4, hb4, hm4⟩
    have hst := builderString W2.heap.size W2.heap.size (encS x) W4 (.inr (by simpa using hw4)) (encS_ne x)
    have HS := Lib.hid hst
    have HB4 := Lib.hid hb4
    clear hw4 hm4 hst hb4
    go_wp2_with fail
    refine HS.out.mono ?_
    rintro e W5 ⟨rfl, hb5⟩
    have hfin := HB2.out.trans ((HB4.out.trans hb5).mono HB2.out.size)
    go_wp2_with fail
    go_ret2
    exact ⟨rfl, hfin⟩
  · have HB2 := Lib.hid hB2
    clear hB2 hb2 hg2 HG1
    go_wp2_with fail
    go_ret2
    exact ⟨by rw [show putB r x = [] by unfold putB; rw [if_neg hr0]]; rfl, HB2.out⟩
end Go.Proofs.YtgjlchcfdbmmlaaDoor.PObjectTakes
/- The reader's small functions: need, first, most. -/
namespace Go.Proofs.YtgjlchcfdbmmlaaDoor.PObjectTakes
open Go.RowKit Go.Proofs.YtgjlchcfdbmmlaaDoorW.PrintWords Go.Proofs.YtgjlchcfdbmmlaaDoorW.PrintLast Go.Proofs.YtgjlchcfdbmmlaaDoorW.PrintMore
set_option linter.unusedVariables false
set_option linter.unusedSimpArgs false

/-- The panic that 'need' raises. -/
def wrongP (p e : Int) : List PanicEntry := [{ v := .iface 132 (.agg #[.int .i64 p, .int .i64 e]), recovered := false }]
set_option maxRecDepth 100000 in
theorem need_ok (p e : Int) (w : World) : Calls Tryd.prog 78 #[.bool true, .int .i64 p, .int .i64 e] w fun en w' => en = .returned (.tuple #[]) ∧ w' = w := by
  go_enter Tryd.func78, Tryd.ntmps78
  go_wp2
  go_end0
  exact ⟨rfl, rfl⟩
set_option maxRecDepth 100000 in
theorem need_no (p e : Int) (w : World) : Calls Tryd.prog 78 #[.bool false, .int .i64 p, .int .i64 e] w fun en w' => en = .panicked (wrongP p e) ∧ w' = w := by
  go_enter Tryd.func78, Tryd.ntmps78
  go_wp2
  exact ⟨rfl, rfl, rfl⟩
/-- What 'first' answers. -/
def firstV (b : Nat) : Value :=
  if b / 16 = 1 then .iface 155 (.agg #[.bool false]) else if b / 16 = 2 then .iface 155 (.agg #[.bool true]) else if b / 16 = 3 then .iface 157 (.agg #[]) else if b / 16 = 4 then .iface 166 (.agg #[]) else .nilIface
set_option maxRecDepth 100000 in
theorem first_calls (b : Nat) (w : World) (hb : b < 256) : Calls Tryd.prog 77 #[.int .u8 (b : Int)] w fun en w' => en = .returned (firstV b) ∧ w' = w := by
  unfold firstV
  by_cases h1 : b / 16 = 1
  · rw [if_pos h1]
    go_enter Tryd.func77, Tryd.ntmps77
    go_wp2
    go_ret
    exact ⟨rfl, rfl⟩
  · rw [if_neg h1]
    have e1 : ((b : Int) / 16 == 1) = false := by rw [beq_eq_false_iff_ne]; omega
    by_cases h2 : b / 16 = 2
    · rw [if_pos h2]
      have e2 : ((b : Int) / 16 == 2) = true := by rw [beq_iff_eq]; omega
      go_enter Tryd.func77, Tryd.ntmps77
      go_wp2
      go_ret
      exact ⟨rfl, rfl⟩
    · rw [if_neg h2]
      have e2 : ((b : Int) / 16 == 2) = false := by rw [beq_eq_false_iff_ne]; omega
      by_cases h3 : b / 16 = 3
      · rw [if_pos h3]
        have e3 : ((b : Int) / 16 == 3) = true := by rw [beq_iff_eq]; omega
        go_enter Tryd.func77, Tryd.ntmps77
        go_wp2
        go_ret
        exact ⟨rfl, rfl⟩
      · rw [if_neg h3]
        have e3 : ((b : Int) / 16 == 3) = false := by rw [beq_eq_false_iff_ne]; omega
        by_cases h4 : b / 16 = 4
        · rw [if_pos h4]
          have e4 : ((b : Int) / 16 == 4) = true := by rw [beq_iff_eq]; omega
          go_enter Tryd.func77, Tryd.ntmps77
          go_wp2
          go_ret
          exact ⟨rfl, rfl⟩
        · rw [if_neg h4]
          have e4 : ((b : Int) / 16 == 4) = false := by rw [beq_eq_false_iff_ne]; omega
          go_enter Tryd.func77, Tryd.ntmps77
          go_wp2
          go_ret
          exact ⟨rfl, rfl⟩
set_option maxRecDepth 100000 in
theorem most_number (v : Bool) (w : World) : Calls Tryd.prog 115 #[.agg #[.bool v]] w fun en w' => en = .returned (.tuple #[.int .i64 8, .int .u64 9223372036854775807]) ∧ Below w.heap.size w w' := by
  go_enter Tryd.func115, Tryd.ntmps115
  go_wp2
  go_ret2
  exact ⟨rfl, (Below.refl _ _).alloc (Nat.le_refl _) _⟩
set_option maxRecDepth 100000 in
theorem most_word (w : World) : Calls Tryd.prog 116 #[.agg #[]] w fun en w' => en = .returned (.tuple #[.int .i64 2, .int .u64 65535]) ∧ Below w.heap.size w w' := by
  go_enter Tryd.func116, Tryd.ntmps116
  go_wp2
  go_ret2
  exact ⟨rfl, (Below.refl _ _).alloc (Nat.le_refl _) _⟩
set_option maxRecDepth 100000 in
theorem most_row (w : World) : Calls Tryd.prog 117 #[.agg #[]] w fun en w' => en = .returned (.tuple #[.int .i64 2, .int .u64 4095]) ∧ Below w.heap.size w w' := by
  go_enter Tryd.func117, Tryd.ntmps117
  go_wp2
  go_ret2
  exact ⟨rfl, (Below.refl _ _).alloc (Nat.le_refl _) _⟩
end Go.Proofs.YtgjlchcfdbmmlaaDoor.PObjectTakes
/- (*reader).bytes. -/
namespace Go.Proofs.YtgjlchcfdbmmlaaDoor.PObjectTakes
open Go.RowKit Go.Proofs.YtgjlchcfdbmmlaaDoor.Ord Go.Proofs.YtgjlchcfdbmmlaaDoorW.PrintWords Go.Proofs.YtgjlchcfdbmmlaaDoorW.PrintLast Go.Proofs.YtgjlchcfdbmmlaaDoorW.PrintMore
set_option linter.unusedVariables false
set_option linter.unusedSimpArgs false
attribute [local irreducible] OpGives
attribute [local go_sem] rdl_const rdl_func rdl_global rdl_nil rdl_cons

/-- From w to w' nothing that was there has turned but block b. -/
structure ModB (b : Nat) (w w' : World) : Prop where
  os : w'.os = w.os
  tape : w'.tape = w.tape
  output : w'.output = w.output
  size : w.heap.size ≤ w'.heap.size
  block : ∀ k, k < w.heap.size → k ≠ b → w'.heap[k]? = w.heap[k]?
theorem ModB.refl (b : Nat) (w : World) : ModB b w w := ⟨rfl, rfl, rfl, Nat.le_refl _, fun _ _ _ => rfl⟩
theorem ModB.trans {b : Nat} {w w1 w2 : World} (h : ModB b w w1) (k : ModB b w1 w2) : ModB b w w2 :=
  ⟨k.os.trans h.os, k.tape.trans h.tape, k.output.trans h.output, Nat.le_trans h.size k.size, fun i hi hb => (k.block i (Nat.lt_of_lt_of_le hi h.size) hb).trans (h.block i hi hb)⟩
theorem ModB.of_below {b : Nat} {w w' : World} (h : Below w.heap.size w w') : ModB b w w' := ⟨h.os, h.tape, h.output, h.size, fun k hk _ => h.block k hk⟩
theorem ModB.below {b B : Nat} {w w' : World} (h : ModB b w w') (hB : B ≤ w.heap.size) (hb : B ≤ b) : Below B w w' := ⟨h.os, h.tape, h.output, h.size, fun k hk => h.block k (by omega) (by omega)⟩
theorem ModB.setCell (b : Nat) (w : World) (j : Nat) (v : Value) : ModB b w (w.setCell ⟨b, j, none⟩ v) :=
  ⟨rfl, rfl, rfl, by simp [World.setCell], fun k _ hb => Below.heap_setCell _ _ _ _ hb⟩
theorem ModB.drew {b : Nat} {w w' : World} (h : ModB b w w') : ModB b w w'.drew := ⟨h.os, h.tape, h.output, h.size, h.block⟩
/-- A reader over s that stands at 'at'. -/
def RdAt (b : Nat) (s : ByteArray) (p : Nat) (w : World) : Prop := w.heap[b]? = some (.cells #[.string s, .int .i64 (p : Int)] 135 (0, 0))
theorem wpOp_panics {P : Program} {ops : Array Oper} {Q : Exit → Act → World → Prop} {i : Nat} {o : Oper} {K : Act → World → Prop} {a : Act} {w w' : World} {f : FuncId} {args : Array Value} (hi : ops[i]? = some o) (hg : o.guard = none)
    (hrun : (execOp a.eval o).run P w = .ok (.enter f args) w') (h : Calls P f args w' fun e w'' => ∃ ch, e = .panicked ch ∧ Q (.panic ch) a w'') : wpOp P ops Q i K a w := by
  unfold wpOp; rw [hi]; simp only [Region.wanted, hg, if_true]
  refine .inl ?_
  unfold Oper.wp; rw [hrun]
  exact h.mono fun e w'' ⟨v, he, hk⟩ => by subst he; exact hk
theorem RdAt.kept {b : Nat} {s : ByteArray} {p : Nat} {w w' : World} (h : RdAt b s p w) (hb : Below w.heap.size w w') : RdAt b s p w' :=
  (hb.block b (Array.getElem?_eq_some_iff.1 h).1).trans h

set_option maxHeartbeats 8000000 in
set_option maxRecDepth 100000 in
theorem bytes_ok (b : Nat) (s : ByteArray) (p n : Nat) (w : World) (h : RdAt b s p w) (hs : s.size ≤ 140737488355328) (hp : p + n ≤ s.size) :
    Calls Tryd.prog 76 #[.pointer (some ⟨b, 0, none⟩), .int .i64 (n : Int)] w fun e w' => e = .returned (.string (s.extract p (p + n))) ∧ RdAt b s (p + n) w' ∧ ModB b w w' := by
  have c0 : w.cell? ⟨b, 0, none⟩ = some (.string s) := by rw [Lib.cell_of_heap h]; rfl
  have c1 : w.cell? ⟨b, 1, none⟩ = some (.int .i64 (p : Int)) := by rw [Lib.cell_of_heap h]; rfl
  have f1 : w.frozen? ⟨b, 1, none⟩ = false := Lib.frozen_of_heap h 1
  have hge : (n : Int) ≤ (s.size : Int) - (p : Int) := by omega
  have H := Lib.hid h
  clear h
  go_enter Tryd.func76, Tryd.ntmps76
  go_wp2_with fail
  refine' wp_region_factsT (S := (fun W => W = w.drew)) (R := (fun a b => a = b)) [eqF _ _, eqF _ _, eqF _ _, eqF _ (.string s), eqF _ _, eqF _ _, eqF _ _, eqF _ _, eqF _ (.int .i64 (p : Int)), eqF _ (.int .i64 ((s.size : Int) - (p : Int))), eqF _ _, eqF _ (.bool true), eqF _ _, eqF _ _, eqF _ _, eqF _ (.string s), eqF _ _] (by kernel_rfl) (by kernel_rfl) ?hS ?h0 (Ord.steps_cons ?s0 (Ord.steps_cons ?s1 (Ord.steps_cons ?s2 (Ord.steps_cons ?s3 (Ord.steps_cons ?s4 (Ord.steps_cons ?s5 (Ord.steps_cons ?s6 (Ord.steps_cons ?s7 (Ord.steps_cons ?s8 (Ord.steps_cons ?s9 (Ord.steps_cons ?s10 (Ord.steps_cons ?s11 (Ord.steps_cons ?s12 (Ord.steps_cons ?s13 (Ord.steps_cons ?s14 (Ord.steps_cons ?s15 (Ord.steps_cons ?s16 (Ord.steps_nil)))))))))))))))))) ?fin
  case s0 =>
    intro g W hSW hd
    try simp only [Nat.zero_add, Nat.reduceAdd] at hd ⊢
    with_reducible refine OpGives.pre_reads [] 46 ?_ ?_ ?_
    · rfl
    · kernel_rfl
    simp only [List.map_cons, List.map_nil]
    refine OpGives.val (w' := W) ?_ ⟨rfl, rfl⟩
    go_simp
    try with_reducible rfl
  case s1 =>
    intro g W hSW hd
    try simp only [Nat.zero_add, Nat.reduceAdd] at hd ⊢
    have h0 : g 0 = _ := hd 0 (by decide) (by kernel_rfl)
    with_reducible refine OpGives.pre_reads [(5, 0)] 46 ?_ ?_ ?_
    · rfl
    · kernel_rfl
    simp only [List.map_cons, List.map_nil]
    refine OpGives.val (w' := W) ?_ ⟨rfl, rfl⟩
    go_simp
    try with_reducible rfl
  case s2 =>
    intro g W hSW hd
    try simp only [Nat.zero_add, Nat.reduceAdd] at hd ⊢
    have h1 : g 1 = _ := hd 1 (by decide) (by kernel_rfl)
    with_reducible refine OpGives.pre_reads [(6, 1)] 46 ?_ ?_ ?_
    · rfl
    · kernel_rfl
    simp only [List.map_cons, List.map_nil]
    refine OpGives.val (w' := W) ?_ ⟨rfl, rfl⟩
    go_simp
    try with_reducible rfl
  case s3 =>
    intro g W hSW hd
    try simp only [Nat.zero_add, Nat.reduceAdd] at hd ⊢
    have h2 : g 2 = _ := hd 2 (by decide) (by kernel_rfl)
    with_reducible refine OpGives.pre_reads [(7, 2)] 46 ?_ ?_ ?_
    · rfl
    · kernel_rfl
    simp only [List.map_cons, List.map_nil]
    subst hSW; refine OpGives.val (v := .string s) (w' := w.drew) ?_ ⟨rfl, rfl⟩; go_simp
  case s4 =>
    intro g W hSW hd
    try simp only [Nat.zero_add, Nat.reduceAdd] at hd ⊢
    have h3 : g 3 = _ := hd 3 (by decide) (by kernel_rfl)
    with_reducible refine OpGives.pre_reads [(8, 3)] 46 ?_ ?_ ?_
    · rfl
    · kernel_rfl
    simp only [List.map_cons, List.map_nil]
    refine OpGives.val (w' := W) ?_ ⟨rfl, rfl⟩
    go_simp
    try with_reducible rfl
  case s5 =>
    intro g W hSW hd
    try simp only [Nat.zero_add, Nat.reduceAdd] at hd ⊢
    with_reducible refine OpGives.pre_reads [] 46 ?_ ?_ ?_
    · rfl
    · kernel_rfl
    simp only [List.map_cons, List.map_nil]
    refine OpGives.val (w' := W) ?_ ⟨rfl, rfl⟩
    go_simp
    try with_reducible rfl
  case s6 =>
    intro g W hSW hd
    try simp only [Nat.zero_add, Nat.reduceAdd] at hd ⊢
    have h5 : g 5 = _ := hd 5 (by decide) (by kernel_rfl)
    with_reducible refine OpGives.pre_reads [(10, 5)] 46 ?_ ?_ ?_
    · rfl
    · kernel_rfl
    simp only [List.map_cons, List.map_nil]
    refine OpGives.val (w' := W) ?_ ⟨rfl, rfl⟩
    go_simp
    try with_reducible rfl
  case s7 =>
    intro g W hSW hd
    try simp only [Nat.zero_add, Nat.reduceAdd] at hd ⊢
    have h6 : g 6 = _ := hd 6 (by decide) (by kernel_rfl)
    with_reducible refine OpGives.pre_reads [(11, 6)] 46 ?_ ?_ ?_
    · rfl
    · kernel_rfl
    simp only [List.map_cons, List.map_nil]
    refine OpGives.val (w' := W) ?_ ⟨rfl, rfl⟩
    go_simp
    try with_reducible rfl
  case s8 =>
    intro g W hSW hd
    try simp only [Nat.zero_add, Nat.reduceAdd] at hd ⊢
    have h7 : g 7 = _ := hd 7 (by decide) (by kernel_rfl)
    with_reducible refine OpGives.pre_reads [(12, 7)] 46 ?_ ?_ ?_
    · rfl
    · kernel_rfl
    simp only [List.map_cons, List.map_nil]
    subst hSW; refine OpGives.val (v := .int .i64 (p : Int)) (w' := w.drew) ?_ ⟨rfl, rfl⟩; go_simp
  case s9 =>
    intro g W hSW hd
    try simp only [Nat.zero_add, Nat.reduceAdd] at hd ⊢
    have h4 : g 4 = _ := hd 4 (by decide) (by kernel_rfl)
    have h8 : g 8 = _ := hd 8 (by decide) (by kernel_rfl)
    with_reducible refine OpGives.pre_reads [(9, 4), (13, 8)] 46 ?_ ?_ ?_
    · rfl
    · kernel_rfl
    simp only [List.map_cons, List.map_nil]
    subst hSW; refine OpGives.val (v := .int .i64 ((s.size : Int) - (p : Int))) (w' := w.drew) ?_ ⟨rfl, rfl⟩; go_simp; rw [IntKind.wrap_i64]; omega
  case s10 =>
    intro g W hSW hd
    try simp only [Nat.zero_add, Nat.reduceAdd] at hd ⊢
    with_reducible refine OpGives.pre_reads [] 46 ?_ ?_ ?_
    · rfl
    · kernel_rfl
    simp only [List.map_cons, List.map_nil]
    refine OpGives.val (w' := W) ?_ ⟨rfl, rfl⟩
    go_simp
    try with_reducible rfl
  case s11 =>
    intro g W hSW hd
    try simp only [Nat.zero_add, Nat.reduceAdd] at hd ⊢
    have h9 : g 9 = _ := hd 9 (by decide) (by kernel_rfl)
    have h10 : g 10 = _ := hd 10 (by decide) (by kernel_rfl)
    with_reducible refine OpGives.pre_reads [(14, 9), (15, 10)] 46 ?_ ?_ ?_
    · rfl
    · kernel_rfl
    simp only [List.map_cons, List.map_nil]
    subst hSW; refine OpGives.val (v := .bool true) (w' := w.drew) ?_ ⟨rfl, rfl⟩; go_simp
  case s12 =>
    intro g W hSW hd
    try simp only [Nat.zero_add, Nat.reduceAdd] at hd ⊢
    with_reducible refine OpGives.pre_reads [] 46 ?_ ?_ ?_
    · rfl
    · kernel_rfl
    simp only [List.map_cons, List.map_nil]
    refine OpGives.val (w' := W) ?_ ⟨rfl, rfl⟩
    go_simp
    try with_reducible rfl
  case s13 =>
    intro g W hSW hd
    try simp only [Nat.zero_add, Nat.reduceAdd] at hd ⊢
    have h12 : g 12 = _ := hd 12 (by decide) (by kernel_rfl)
    with_reducible refine OpGives.pre_reads [(17, 12)] 46 ?_ ?_ ?_
    · rfl
    · kernel_rfl
    simp only [List.map_cons, List.map_nil]
    refine OpGives.val (w' := W) ?_ ⟨rfl, rfl⟩
    go_simp
    try with_reducible rfl
  case s14 =>
    intro g W hSW hd
    try simp only [Nat.zero_add, Nat.reduceAdd] at hd ⊢
    have h13 : g 13 = _ := hd 13 (by decide) (by kernel_rfl)
    with_reducible refine OpGives.pre_reads [(18, 13)] 46 ?_ ?_ ?_
    · rfl
    · kernel_rfl
    simp only [List.map_cons, List.map_nil]
    refine OpGives.val (w' := W) ?_ ⟨rfl, rfl⟩
    go_simp
    try with_reducible rfl
  case s15 =>
    intro g W hSW hd
    try simp only [Nat.zero_add, Nat.reduceAdd] at hd ⊢
    have h14 : g 14 = _ := hd 14 (by decide) (by kernel_rfl)
    with_reducible refine OpGives.pre_reads [(19, 14)] 46 ?_ ?_ ?_
    · rfl
    · kernel_rfl
    simp only [List.map_cons, List.map_nil]
    subst hSW; refine OpGives.val (v := .string s) (w' := w.drew) ?_ ⟨rfl, rfl⟩; go_simp
  case s16 =>
    intro g W hSW hd
    try simp only [Nat.zero_add, Nat.reduceAdd] at hd ⊢
    have h15 : g 15 = _ := hd 15 (by decide) (by kernel_rfl)
    with_reducible refine OpGives.pre_reads [(20, 15)] 46 ?_ ?_ ?_
    · rfl
    · kernel_rfl
    simp only [List.map_cons, List.map_nil]
    refine OpGives.val (w' := W) ?_ ⟨rfl, rfl⟩
    go_simp
    try with_reducible rfl
  case hS => rintro a c h rfl; exact h
  case h0 => rfl
  case fin =>
    intro v W hSW hf
    subst hSW
    have h11 : v 11 = _ := hf 11 (Nat.lt_of_lt_of_eq (by decide : 11 < 17) rfl)
    have h16 : v 16 = _ := hf 16 (Nat.lt_of_lt_of_eq (by decide : 16 < 17) rfl)
    clear hf
    generalize hF : Ord.pre _ _ v _ = F
    rw [Ord.pre_lit [some 5, some 6, some 7, some 8, some 9, some 10, some 11, some 12, some 13, some 14, some 15, some 16, some 17, some 18, some 19, some 20, some 21]
      (by kernel_rfl)] at hF
    simp only [Ord.puts, Nat.zero_add, Nat.reduceAdd] at hF
    subst hF
    rw [h11, h16]
    clear h11 h16
    refine any_one (i := 17) (by kernel_rfl) ?_
    refine wpOp_call (f := 78) (args := #[.bool true, .int .i64 (s.size : Int), .int .i64 3]) (w' := w.drew) rfl rfl (by go_simp) ((need_ok _ _ _).mono fun e w'' he => ⟨_, he.1, ?_⟩)
    rw [he.2]
    clear he
    refine wpAny_done (by kernel_rfl) ?_ _
    try simp only [List.getElem_toArray, List.getElem_cons_succ, List.getElem_cons_zero]
    go_frame
    have hst : RdAt b s (p + n) (w.drew.setCell ⟨b, 1, none⟩ (.int .i64 ((p : Int) + (n : Int)))) := by
      have h1 : w.drew.heap[b]? = some (.cells #[.string s, .int .i64 (p : Int)] 135 (0, 0)) := H.out
      unfold RdAt
      rw [heap_setCell_same _ _ _ _ _ _ h1]
      simp
    have hm : ModB b w (w.drew.setCell ⟨b, 1, none⟩ (.int .i64 ((p : Int) + (n : Int)))) := (ModB.refl b w).drew.trans (ModB.setCell b _ 1 _)
    have HS := Lib.hid hst
    have HM := Lib.hid hm
    clear hst hm
    go_wp2_with fail
    obtain ⟨W1, hW1⟩ : ∃ W1, W1 = (w.setCell ⟨b, 1, none⟩ (.int .i64 ((p : Int) + (n : Int)))).drew := ⟨_, rfl⟩
    rw [← hW1]
    have hs1 : RdAt b s (p + n) W1 := by rw [hW1]; exact HS.out
    have hm1 : ModB b w W1 := by rw [hW1]; exact HM.out
    clear HS HM hW1 c0 c1 f1
    have c0 : W1.cell? ⟨b, 0, none⟩ = some (.string s) := by rw [Lib.cell_of_heap hs1]; rfl
    have c1 : W1.cell? ⟨b, 1, none⟩ = some (.int .i64 ((p : Int) + (n : Int))) := by rw [Lib.cell_of_heap hs1]; simp
    have HS := Lib.hid hs1
    have HM := Lib.hid hm1
    clear hs1 hm1
    refine' wp_region_factsT (S := (fun W => W = W1.drew)) (R := (fun a b => a = b)) [eqF _ _, eqF _ _, eqF _ _, eqF _ (.string s), eqF _ _, eqF _ _, eqF _ _, eqF _ (.int .i64 ((p : Int) + (n : Int))), eqF _ _, eqF _ (.int .i64 (p : Int)), eqF _ _, eqF _ _, eqF _ _, eqF _ (.int .i64 ((p : Int) + (n : Int))), eqF _ (.string (s.extract p (p + n)))] (by kernel_rfl) (by kernel_rfl) ?hS ?h0 (Ord.steps_cons ?s0 (Ord.steps_cons ?s1 (Ord.steps_cons ?s2 (Ord.steps_cons ?s3 (Ord.steps_cons ?s4 (Ord.steps_cons ?s5 (Ord.steps_cons ?s6 (Ord.steps_cons ?s7 (Ord.steps_cons ?s8 (Ord.steps_cons ?s9 (Ord.steps_cons ?s10 (Ord.steps_cons ?s11 (Ord.steps_cons ?s12 (Ord.steps_cons ?s13 (Ord.steps_cons ?s14 (Ord.steps_nil)))))))))))))))) ?fin
    case s0 =>
      intro g W hSW hd
      try simp only [Nat.zero_add, Nat.reduceAdd] at hd ⊢
      with_reducible refine OpGives.pre_reads [] 46 ?_ ?_ ?_
      · rfl
      · kernel_rfl
      simp only [List.map_cons, List.map_nil]
      refine OpGives.val (w' := W) ?_ ⟨rfl, rfl⟩
      go_simp
      try with_reducible rfl
    case s1 =>
      intro g W hSW hd
      try simp only [Nat.zero_add, Nat.reduceAdd] at hd ⊢
      have h0 : g 0 = _ := hd 0 (by decide) (by kernel_rfl)
      with_reducible refine OpGives.pre_reads [(31, 0)] 46 ?_ ?_ ?_
      · rfl
      · kernel_rfl
      simp only [List.map_cons, List.map_nil]
      refine OpGives.val (w' := W) ?_ ⟨rfl, rfl⟩
      go_simp
      try with_reducible rfl
    case s2 =>
      intro g W hSW hd
      try simp only [Nat.zero_add, Nat.reduceAdd] at hd ⊢
      have h1 : g 1 = _ := hd 1 (by decide) (by kernel_rfl)
      with_reducible refine OpGives.pre_reads [(32, 1)] 46 ?_ ?_ ?_
      · rfl
      · kernel_rfl
      simp only [List.map_cons, List.map_nil]
      refine OpGives.val (w' := W) ?_ ⟨rfl, rfl⟩
      go_simp
      try with_reducible rfl
    case s3 =>
      intro g W hSW hd
      try simp only [Nat.zero_add, Nat.reduceAdd] at hd ⊢
      have h2 : g 2 = _ := hd 2 (by decide) (by kernel_rfl)
      with_reducible refine OpGives.pre_reads [(33, 2)] 46 ?_ ?_ ?_
      · rfl
      · kernel_rfl
      simp only [List.map_cons, List.map_nil]
      subst hSW; refine OpGives.val (v := .string s) (w' := W1.drew) ?_ ⟨rfl, rfl⟩; go_simp
    case s4 =>
      intro g W hSW hd
      try simp only [Nat.zero_add, Nat.reduceAdd] at hd ⊢
      with_reducible refine OpGives.pre_reads [] 46 ?_ ?_ ?_
      · rfl
      · kernel_rfl
      simp only [List.map_cons, List.map_nil]
      refine OpGives.val (w' := W) ?_ ⟨rfl, rfl⟩
      go_simp
      try with_reducible rfl
    case s5 =>
      intro g W hSW hd
      try simp only [Nat.zero_add, Nat.reduceAdd] at hd ⊢
      have h4 : g 4 = _ := hd 4 (by decide) (by kernel_rfl)
      with_reducible refine OpGives.pre_reads [(35, 4)] 46 ?_ ?_ ?_
      · rfl
      · kernel_rfl
      simp only [List.map_cons, List.map_nil]
      refine OpGives.val (w' := W) ?_ ⟨rfl, rfl⟩
      go_simp
      try with_reducible rfl
    case s6 =>
      intro g W hSW hd
      try simp only [Nat.zero_add, Nat.reduceAdd] at hd ⊢
      have h5 : g 5 = _ := hd 5 (by decide) (by kernel_rfl)
      with_reducible refine OpGives.pre_reads [(36, 5)] 46 ?_ ?_ ?_
      · rfl
      · kernel_rfl
      simp only [List.map_cons, List.map_nil]
      refine OpGives.val (w' := W) ?_ ⟨rfl, rfl⟩
      go_simp
      try with_reducible rfl
    case s7 =>
      intro g W hSW hd
      try simp only [Nat.zero_add, Nat.reduceAdd] at hd ⊢
      have h6 : g 6 = _ := hd 6 (by decide) (by kernel_rfl)
      with_reducible refine OpGives.pre_reads [(37, 6)] 46 ?_ ?_ ?_
      · rfl
      · kernel_rfl
      simp only [List.map_cons, List.map_nil]
      subst hSW; refine OpGives.val (v := .int .i64 ((p : Int) + (n : Int))) (w' := W1.drew) ?_ ⟨rfl, rfl⟩; go_simp
    case s8 =>
      intro g W hSW hd
      try simp only [Nat.zero_add, Nat.reduceAdd] at hd ⊢
      with_reducible refine OpGives.pre_reads [] 46 ?_ ?_ ?_
      · rfl
      · kernel_rfl
      simp only [List.map_cons, List.map_nil]
      refine OpGives.val (w' := W) ?_ ⟨rfl, rfl⟩
      go_simp
      try with_reducible rfl
    case s9 =>
      intro g W hSW hd
      try simp only [Nat.zero_add, Nat.reduceAdd] at hd ⊢
      have h7 : g 7 = _ := hd 7 (by decide) (by kernel_rfl)
      have h8 : g 8 = _ := hd 8 (by decide) (by kernel_rfl)
      with_reducible refine OpGives.pre_reads [(38, 7), (39, 8)] 46 ?_ ?_ ?_
      · rfl
      · kernel_rfl
      simp only [List.map_cons, List.map_nil]
      subst hSW; refine OpGives.val (v := .int .i64 (p : Int)) (w' := W1.drew) ?_ ⟨rfl, rfl⟩; go_simp; rw [IntKind.wrap_i64]; omega
    case s10 =>
      intro g W hSW hd
      try simp only [Nat.zero_add, Nat.reduceAdd] at hd ⊢
      with_reducible refine OpGives.pre_reads [] 46 ?_ ?_ ?_
      · rfl
      · kernel_rfl
      simp only [List.map_cons, List.map_nil]
      refine OpGives.val (w' := W) ?_ ⟨rfl, rfl⟩
      go_simp
      try with_reducible rfl
    case s11 =>
      intro g W hSW hd
      try simp only [Nat.zero_add, Nat.reduceAdd] at hd ⊢
      have h10 : g 10 = _ := hd 10 (by decide) (by kernel_rfl)
      with_reducible refine OpGives.pre_reads [(41, 10)] 46 ?_ ?_ ?_
      · rfl
      · kernel_rfl
      simp only [List.map_cons, List.map_nil]
      refine OpGives.val (w' := W) ?_ ⟨rfl, rfl⟩
      go_simp
      try with_reducible rfl
    case s12 =>
      intro g W hSW hd
      try simp only [Nat.zero_add, Nat.reduceAdd] at hd ⊢
      have h11 : g 11 = _ := hd 11 (by decide) (by kernel_rfl)
      with_reducible refine OpGives.pre_reads [(42, 11)] 46 ?_ ?_ ?_
      · rfl
      · kernel_rfl
      simp only [List.map_cons, List.map_nil]
      refine OpGives.val (w' := W) ?_ ⟨rfl, rfl⟩
      go_simp
      try with_reducible rfl
    case s13 =>
      intro g W hSW hd
      try simp only [Nat.zero_add, Nat.reduceAdd] at hd ⊢
      have h12 : g 12 = _ := hd 12 (by decide) (by kernel_rfl)
      with_reducible refine OpGives.pre_reads [(43, 12)] 46 ?_ ?_ ?_
      · rfl
      · kernel_rfl
      simp only [List.map_cons, List.map_nil]
      subst hSW; refine OpGives.val (v := .int .i64 ((p : Int) + (n : Int))) (w' := W1.drew) ?_ ⟨rfl, rfl⟩; go_simp
    case s14 =>
      intro g W hSW hd
      try simp only [Nat.zero_add, Nat.reduceAdd] at hd ⊢
      have h3 : g 3 = _ := hd 3 (by decide) (by kernel_rfl)
      have h9 : g 9 = _ := hd 9 (by decide) (by kernel_rfl)
      have h13 : g 13 = _ := hd 13 (by decide) (by kernel_rfl)
      with_reducible refine OpGives.pre_reads [(34, 3), (40, 9), (44, 13)] 46 ?_ ?_ ?_
      · rfl
      · kernel_rfl
      simp only [List.map_cons, List.map_nil]
      subst hSW; refine OpGives.val (v := .string (s.extract p (p + n))) (w' := W1.drew) ?_ ⟨rfl, rfl⟩; go_simp; rw [run_slice_string _ _ _ _ _ _ _ Tryd.underlying9 (by omega) (by omega) (by omega)]; rw [Int.toNat_natCast, show ((p : Int) + (n : Int)).toNat = p + n by omega]; rfl
    case hS => rintro a c h rfl; exact h
    case h0 => rfl
    case fin =>
      intro v W hSW hf
      subst hSW
      have h14 : v 14 = _ := hf 14 (Nat.lt_of_lt_of_eq (by decide : 14 < 15) rfl)
      clear hf
      generalize hF : Ord.pre _ _ v _ = F
      rw [Ord.pre_lit [some 31, some 32, some 33, some 34, some 35, some 36, some 37, some 38, some 39, some 40, some 41, some 42, some 43, some 44, some 45]
        (by kernel_rfl)] at hF
      simp only [Ord.puts, Nat.zero_add, Nat.reduceAdd] at hF
      subst hF
      rw [h14]
      clear h14
      refine any_one (i := 15) (by kernel_rfl) ?_
      refine wpOp_value (v := .string (s.extract p (p + n))) (w' := W1.drew) rfl rfl (by go_simp) ?_
      refine wpAny_done (by kernel_rfl) ?_ _
      try simp only [List.getElem_toArray, List.getElem_cons_succ, List.getElem_cons_zero]
      go_frame
      go_wp2_with fail
      go_ret
      exact ⟨rfl, HS.out, HM.out.drew⟩

set_option maxHeartbeats 8000000 in
set_option maxRecDepth 100000 in
theorem bytes_no (b : Nat) (s : ByteArray) (p n : Nat) (w : World) (h : RdAt b s p w) (hs : s.size ≤ 140737488355328) (hp : p ≤ s.size) (hn : s.size < p + n) (hnn : n ≤ 9223372036854775807) :
    Calls Tryd.prog 76 #[.pointer (some ⟨b, 0, none⟩), .int .i64 (n : Int)] w fun e w' => e = .panicked (wrongP s.size 3) ∧ RdAt b s p w' ∧ ModB b w w' := by
  have c0 : w.cell? ⟨b, 0, none⟩ = some (.string s) := by rw [Lib.cell_of_heap h]; rfl
  have c1 : w.cell? ⟨b, 1, none⟩ = some (.int .i64 (p : Int)) := by rw [Lib.cell_of_heap h]; rfl
  have hge : ¬ (n : Int) ≤ (s.size : Int) - (p : Int) := by omega
  have H := Lib.hid h
  clear h
  go_enter Tryd.func76, Tryd.ntmps76
  go_wp2_with fail
  refine' wp_region_factsT (S := (fun W => W = w.drew)) (R := (fun a b => a = b)) [eqF _ _, eqF _ _, eqF _ _, eqF _ (.string s), eqF _ _, eqF _ _, eqF _ _, eqF _ _, eqF _ (.int .i64 (p : Int)), eqF _ (.int .i64 ((s.size : Int) - (p : Int))), eqF _ _, eqF _ (.bool false), eqF _ _, eqF _ _, eqF _ _, eqF _ (.string s), eqF _ _] (by kernel_rfl) (by kernel_rfl) ?hS ?h0 (Ord.steps_cons ?s0 (Ord.steps_cons ?s1 (Ord.steps_cons ?s2 (Ord.steps_cons ?s3 (Ord.steps_cons ?s4 (Ord.steps_cons ?s5 (Ord.steps_cons ?s6 (Ord.steps_cons ?s7 (Ord.steps_cons ?s8 (Ord.steps_cons ?s9 (Ord.steps_cons ?s10 (Ord.steps_cons ?s11 (Ord.steps_cons ?s12 (Ord.steps_cons ?s13 (Ord.steps_cons ?s14 (Ord.steps_cons ?s15 (Ord.steps_cons ?s16 (Ord.steps_nil)))))))))))))))))) ?fin
  case s0 =>
    intro g W hSW hd
    try simp only [Nat.zero_add, Nat.reduceAdd] at hd ⊢
    with_reducible refine OpGives.pre_reads [] 46 ?_ ?_ ?_
    · rfl
    · kernel_rfl
    simp only [List.map_cons, List.map_nil]
    refine OpGives.val (w' := W) ?_ ⟨rfl, rfl⟩
    go_simp
    try with_reducible rfl
  case s1 =>
    intro g W hSW hd
    try simp only [Nat.zero_add, Nat.reduceAdd] at hd ⊢
    have h0 : g 0 = _ := hd 0 (by decide) (by kernel_rfl)
    with_reducible refine OpGives.pre_reads [(5, 0)] 46 ?_ ?_ ?_
    · rfl
    · kernel_rfl
    simp only [List.map_cons, List.map_nil]
    refine OpGives.val (w' := W) ?_ ⟨rfl, rfl⟩
    go_simp
    try with_reducible rfl
  case s2 =>
    intro g W hSW hd
    try simp only [Nat.zero_add, Nat.reduceAdd] at hd ⊢
    have h1 : g 1 = _ := hd 1 (by decide) (by kernel_rfl)
    with_reducible refine OpGives.pre_reads [(6, 1)] 46 ?_ ?_ ?_
    · rfl
    · kernel_rfl
    simp only [List.map_cons, List.map_nil]
    refine OpGives.val (w' := W) ?_ ⟨rfl, rfl⟩
    go_simp
    try with_reducible rfl
  case s3 =>
    intro g W hSW hd
    try simp only [Nat.zero_add, Nat.reduceAdd] at hd ⊢
    have h2 : g 2 = _ := hd 2 (by decide) (by kernel_rfl)
    with_reducible refine OpGives.pre_reads [(7, 2)] 46 ?_ ?_ ?_
    · rfl
    · kernel_rfl
    simp only [List.map_cons, List.map_nil]
    subst hSW; refine OpGives.val (v := .string s) (w' := w.drew) ?_ ⟨rfl, rfl⟩; go_simp
  case s4 =>
    intro g W hSW hd
    try simp only [Nat.zero_add, Nat.reduceAdd] at hd ⊢
    have h3 : g 3 = _ := hd 3 (by decide) (by kernel_rfl)
    with_reducible refine OpGives.pre_reads [(8, 3)] 46 ?_ ?_ ?_
    · rfl
    · kernel_rfl
    simp only [List.map_cons, List.map_nil]
    refine OpGives.val (w' := W) ?_ ⟨rfl, rfl⟩
    go_simp
    try with_reducible rfl
  case s5 =>
    intro g W hSW hd
    try simp only [Nat.zero_add, Nat.reduceAdd] at hd ⊢
    with_reducible refine OpGives.pre_reads [] 46 ?_ ?_ ?_
    · rfl
    · kernel_rfl
    simp only [List.map_cons, List.map_nil]
    refine OpGives.val (w' := W) ?_ ⟨rfl, rfl⟩
    go_simp
    try with_reducible rfl
  case s6 =>
    intro g W hSW hd
    try simp only [Nat.zero_add, Nat.reduceAdd] at hd ⊢
    have h5 : g 5 = _ := hd 5 (by decide) (by kernel_rfl)
    with_reducible refine OpGives.pre_reads [(10, 5)] 46 ?_ ?_ ?_
    · rfl
    · kernel_rfl
    simp only [List.map_cons, List.map_nil]
    refine OpGives.val (w' := W) ?_ ⟨rfl, rfl⟩
    go_simp
    try with_reducible rfl
  case s7 =>
    intro g W hSW hd
    try simp only [Nat.zero_add, Nat.reduceAdd] at hd ⊢
    have h6 : g 6 = _ := hd 6 (by decide) (by kernel_rfl)
    with_reducible refine OpGives.pre_reads [(11, 6)] 46 ?_ ?_ ?_
    · rfl
    · kernel_rfl
    simp only [List.map_cons, List.map_nil]
    refine OpGives.val (w' := W) ?_ ⟨rfl, rfl⟩
    go_simp
    try with_reducible rfl
  case s8 =>
    intro g W hSW hd
    try simp only [Nat.zero_add, Nat.reduceAdd] at hd ⊢
    have h7 : g 7 = _ := hd 7 (by decide) (by kernel_rfl)
    with_reducible refine OpGives.pre_reads [(12, 7)] 46 ?_ ?_ ?_
    · rfl
    · kernel_rfl
    simp only [List.map_cons, List.map_nil]
    subst hSW; refine OpGives.val (v := .int .i64 (p : Int)) (w' := w.drew) ?_ ⟨rfl, rfl⟩; go_simp
  case s9 =>
    intro g W hSW hd
    try simp only [Nat.zero_add, Nat.reduceAdd] at hd ⊢
    have h4 : g 4 = _ := hd 4 (by decide) (by kernel_rfl)
    have h8 : g 8 = _ := hd 8 (by decide) (by kernel_rfl)
    with_reducible refine OpGives.pre_reads [(9, 4), (13, 8)] 46 ?_ ?_ ?_
    · rfl
    · kernel_rfl
    simp only [List.map_cons, List.map_nil]
    subst hSW; refine OpGives.val (v := .int .i64 ((s.size : Int) - (p : Int))) (w' := w.drew) ?_ ⟨rfl, rfl⟩; go_simp; rw [IntKind.wrap_i64]; omega
  case s10 =>
    intro g W hSW hd
    try simp only [Nat.zero_add, Nat.reduceAdd] at hd ⊢
    with_reducible refine OpGives.pre_reads [] 46 ?_ ?_ ?_
    · rfl
    · kernel_rfl
    simp only [List.map_cons, List.map_nil]
    refine OpGives.val (w' := W) ?_ ⟨rfl, rfl⟩
    go_simp
    try with_reducible rfl
  case s11 =>
    intro g W hSW hd
    try simp only [Nat.zero_add, Nat.reduceAdd] at hd ⊢
    have h9 : g 9 = _ := hd 9 (by decide) (by kernel_rfl)
    have h10 : g 10 = _ := hd 10 (by decide) (by kernel_rfl)
    with_reducible refine OpGives.pre_reads [(14, 9), (15, 10)] 46 ?_ ?_ ?_
    · rfl
    · kernel_rfl
    simp only [List.map_cons, List.map_nil]
    subst hSW; refine OpGives.val (v := .bool false) (w' := w.drew) ?_ ⟨rfl, rfl⟩; go_simp
  case s12 =>
    intro g W hSW hd
    try simp only [Nat.zero_add, Nat.reduceAdd] at hd ⊢
    with_reducible refine OpGives.pre_reads [] 46 ?_ ?_ ?_
    · rfl
    · kernel_rfl
    simp only [List.map_cons, List.map_nil]
    refine OpGives.val (w' := W) ?_ ⟨rfl, rfl⟩
    go_simp
    try with_reducible rfl
  case s13 =>
    intro g W hSW hd
    try simp only [Nat.zero_add, Nat.reduceAdd] at hd ⊢
    have h12 : g 12 = _ := hd 12 (by decide) (by kernel_rfl)
    with_reducible refine OpGives.pre_reads [(17, 12)] 46 ?_ ?_ ?_
    · rfl
    · kernel_rfl
    simp only [List.map_cons, List.map_nil]
    refine OpGives.val (w' := W) ?_ ⟨rfl, rfl⟩
    go_simp
    try with_reducible rfl
  case s14 =>
    intro g W hSW hd
    try simp only [Nat.zero_add, Nat.reduceAdd] at hd ⊢
    have h13 : g 13 = _ := hd 13 (by decide) (by kernel_rfl)
    with_reducible refine OpGives.pre_reads [(18, 13)] 46 ?_ ?_ ?_
    · rfl
    · kernel_rfl
    simp only [List.map_cons, List.map_nil]
    refine OpGives.val (w' := W) ?_ ⟨rfl, rfl⟩
    go_simp
    try with_reducible rfl
  case s15 =>
    intro g W hSW hd
    try simp only [Nat.zero_add, Nat.reduceAdd] at hd ⊢
    have h14 : g 14 = _ := hd 14 (by decide) (by kernel_rfl)
    with_reducible refine OpGives.pre_reads [(19, 14)] 46 ?_ ?_ ?_
    · rfl
    · kernel_rfl
    simp only [List.map_cons, List.map_nil]
    subst hSW; refine OpGives.val (v := .string s) (w' := w.drew) ?_ ⟨rfl, rfl⟩; go_simp
  case s16 =>
    intro g W hSW hd
    try simp only [Nat.zero_add, Nat.reduceAdd] at hd ⊢
    have h15 : g 15 = _ := hd 15 (by decide) (by kernel_rfl)
    with_reducible refine OpGives.pre_reads [(20, 15)] 46 ?_ ?_ ?_
    · rfl
    · kernel_rfl
    simp only [List.map_cons, List.map_nil]
    refine OpGives.val (w' := W) ?_ ⟨rfl, rfl⟩
    go_simp
    try with_reducible rfl
  case hS => rintro a c h rfl; exact h
  case h0 => rfl
  case fin =>
    intro v W hSW hf
    subst hSW
    have h11 : v 11 = _ := hf 11 (Nat.lt_of_lt_of_eq (by decide : 11 < 17) rfl)
    have h16 : v 16 = _ := hf 16 (Nat.lt_of_lt_of_eq (by decide : 16 < 17) rfl)
    clear hf
    generalize hF : Ord.pre _ _ v _ = F
    rw [Ord.pre_lit [some 5, some 6, some 7, some 8, some 9, some 10, some 11, some 12, some 13, some 14, some 15, some 16, some 17, some 18, some 19, some 20, some 21]
      (by kernel_rfl)] at hF
    simp only [Ord.puts, Nat.zero_add, Nat.reduceAdd] at hF
    subst hF
    rw [h11, h16]
    clear h11 h16
    refine any_one (i := 17) (by kernel_rfl) ?_
    refine wpOp_panics (f := 78) (args := #[.bool false, .int .i64 (s.size : Int), .int .i64 3]) (w' := w.drew) rfl rfl (by go_simp) ((need_no _ _ _).mono fun e w'' he => ⟨_, he.1, ?_⟩)
    rw [he.2]
    exact ⟨rfl, rfl, H.out, (ModB.refl b w).drew⟩
end Go.Proofs.YtgjlchcfdbmmlaaDoor.PObjectTakes
/- What a text tells from a place on: a cell and where it ends, or an error. -/
namespace Go.Proofs.YtgjlchcfdbmmlaaDoor.PObjectTakes
open Go.RowKit Go.Proofs.YtgjlchcfdbmmlaaDoor.Ord Go.Proofs.YtgjlchcfdbmmlaaDoorW.PrintWords Go.Proofs.YtgjlchcfdbmmlaaDoorW.PrintLast Go.Proofs.YtgjlchcfdbmmlaaDoorW.PrintMore
set_option linter.unusedVariables false
set_option linter.unusedSimpArgs false

/-- What is read: something and where it ends, or an error's place and number. -/
inductive DR (α : Type) where
  | ok (x : α) (q : Nat)
  | bad (p e : Nat)
def byteAt (s : ByteArray) (p : Nat) : Nat := (s.data.toList.getD p 0).toNat
/-- The number of n bytes behind p. -/
def numAt (s : ByteArray) (p : Nat) : Nat → Nat
  | 0 => 0
  | n + 1 => numAt s p n * 256 + byteAt s (p + n)
def widthOf (k : Nat) : Nat := if k = 1 ∨ k = 2 then 8 else 2
def mostOf (k : Nat) : Nat := if k = 1 ∨ k = 2 then 9223372036854775807 else if k = 3 then 65535 else 4095
/-- k cells in line, each by f. -/
def manyW (f : Nat → DR S42) : Nat → Nat → List S42 → DR (List S42)
  | 0, q, acc => .ok acc q
  | k + 1, q, acc => match f q with
    | .ok x q' => manyW f k q' (acc ++ [x])
    | .bad p e => .bad p e
/-- The cell at p, what lies in it by g. -/
def cellW (s : ByteArray) (deep : Bool) (g : Nat → DR S42) (p : Nat) : DR S42 :=
  if s.size < p + 1 then .bad s.size 3
  else
    let b := byteAt s p
    if b / 16 < 1 ∨ 4 < b / 16 then .bad p 4
    else if widthOf (b / 16) < b % 16 then .bad p 4
    else if deep = false then .bad p 5
    else if s.size < p + 1 + b % 16 then .bad s.size 3
    else if 0 < b % 16 ∧ byteAt s (p + 1) = 0 then .bad p 4
    else
      let k := numAt s (p + 1) (b % 16)
      let q := p + 1 + b % 16
      if mostOf (b / 16) < k then .bad p 4
      else if b / 16 = 1 then .ok ⟨1, (k : Int), ⟨#[]⟩, []⟩ q
      else if b / 16 = 2 then .ok ⟨1, -1 - (k : Int), ⟨#[]⟩, []⟩ q
      else if b / 16 = 3 then (if s.size < q + k then .bad s.size 3 else .ok ⟨2, 0, s.extract q (q + k), []⟩ (q + k))
      else match manyW g k q [] with
        | .ok l q' => .ok ⟨3, 0, ⟨#[]⟩, l⟩ q'
        | .bad p' e => .bad p' e
def cellD (s : ByteArray) : Nat → Nat → DR S42
  | 0 => cellW s false (fun _ => .bad 0 0)
  | d + 1 => cellW s true (cellD s d)
/-- What the reader's call leaves. -/
def CellPost (r : DR S42) (b : Nat) (s : ByteArray) (p : Nat) (w : World) (e : Ending) (w' : World) : Prop :=
  ModB b w w' ∧ match r with
  | .ok x q => (∃ v, e = .returned (.agg #[.int .i64 x.f0, .int .i64 x.f1, .string x.f2, v]) ∧ Kd.R k42 42 w' w.heap.size (fun k => k ≠ b) v x.f3) ∧ RdAt b s q w' ∧ p ≤ q ∧ q ≤ s.size
  | .bad p e0 => e = .panicked (wrongP (p : Int) (e0 : Int))
end Go.Proofs.YtgjlchcfdbmmlaaDoor.PObjectTakes
