/- The drum: Read. -/
import Derived.Test.YtjnbdikhajnciaaEi
namespace Go.Proofs.Ytjnbdikhajnciaa.Drum
open Go.RowKit Go.Proofs.Ytjnbdikhajnciaa.Ord Go.Proofs.YtjnbdikhajnciaaW.PrintWords Go.Proofs.Ytjnbdikhajnciaa.Base
open Go.Shelf
set_option linter.unusedVariables false
set_option linter.unusedSimpArgs false
attribute [local go_sem] Oper.semAt_some rdl_const rdl_func rdl_global rdl_nil rdl_cons

theorem read_nil (i : Int) (w : World) : Calls Try.prog 26 #[.pointer none, .int .i64 i] w fun e w' => e = .returned (.tuple #[.string ByteArray.empty, .int .i64 1]) ∧ NewMem w w' := by
  refine (callsIn_wide (n := 3)).1 ?_
  refine callsIn_of_wp_marks Try.func26 rfl trivial ?_ rfl
  simp only [Try.ntmps26, List.size_toArray, List.length_cons, List.length_nil, Nat.reduceAdd, Nat.reduceSub, Array.replicate_succ, Array.replicate_zero, List.push_toArray, List.append_toArray, List.nil_append, List.cons_append]
  gi_wp2_with (refine ⟨trivial, ?_⟩; refine (callsIn_wide.2 (made_nil _)).mono ?_; rintro e w' ⟨rfl, rfl⟩)
  refine ⟨.tuple #[.string ByteArray.empty, .int .i64 1], by simp [results, Try.f26, go_sem]; rfl, rfl, ?_⟩
  exact ((NewMem.alloc _ _).trans (NewMem.alloc _ _)).trans (NewMem.alloc _ _)
theorem read_not (b : Nat) (a : Option Addr) (cap : Nat) (i : Int) (w : World) (h : w.cell? ⟨b, 0, none⟩ = some (.slice a 0 cap)) (hb : b < w.heap.size) :
    Calls Try.prog 26 #[.pointer (some ⟨b, 0, none⟩), .int .i64 i] w fun e w' => e = .returned (.tuple #[.string ByteArray.empty, .int .i64 1]) ∧ NewMem w w' := by
  have hn : NewMem w (((w.alloc (.cells #[.int .i64 i] 3)).alloc (.cells #[.string ByteArray.empty] 9)).alloc (.cells #[.int .i64 0] 28)) := ((NewMem.alloc _ _).trans (NewMem.alloc _ _)).trans (NewMem.alloc _ _)
  have h1 := (Below.cell hn (p := ⟨b, 0, none⟩) hb).trans h
  have cm := made_of b a 0 cap _ h1
  have CM := Lib.hid cm
  clear cm h1 hn
  refine (callsIn_wide (n := 3)).1 ?_
  refine callsIn_of_wp_marks Try.func26 rfl trivial ?_ rfl
  simp only [Try.ntmps26, List.size_toArray, List.length_cons, List.length_nil, Nat.reduceAdd, Nat.reduceSub, Array.replicate_succ, Array.replicate_zero, List.push_toArray, List.append_toArray, List.nil_append, List.cons_append]
  gi_wp2_with (refine ⟨trivial, ?_⟩; refine (callsIn_wide.2 CM.out).mono ?_; rintro e w' ⟨rfl, rfl⟩)
  refine ⟨.tuple #[.string ByteArray.empty, .int .i64 1], by simp [results, Try.f26, go_sem]; rfl, rfl, ?_⟩
  exact ((NewMem.alloc _ _).trans (NewMem.alloc _ _)).trans (NewMem.alloc _ _)

/-- A block that a loop's own turns leave alone. -/
theorem block_own {β : Type} (B : Nat) (cs : Array Value) (t : TypeId) (fr : Nat × Nat) (n : Nat) : OwnFrom n (fun (_ : β) W => W.heap[B]? = some (.cells cs t fr)) := fun s X Y row hs hg hrow =>
  (hg.block B (Array.getElem?_eq_some_iff.1 hs).1 (fun e => by
    obtain ⟨_, o, ho, hc⟩ := hrow B e.symm
    rw [show X.heap[B]? = _ from hs] at ho; cases ho; cases hc)).trans hs
theorem KeepsOthers.of_new {W W' : World} (h : NewMem W W') : KeepsOthers W W' := ⟨h.size, fun k o hk _ => (h.block k (Array.getElem?_eq_some_iff.1 hk).1).trans hk⟩
/-- The writes to a sector, from the last on. -/
theorem comes_find (les : List LE) (j : Nat) (k : Nat) (hk : k < les.length) (hne : ∀ p ∈ comes les k, p.2.1.1 ≠ j) (hx : (les.getD (les.length - 1 - k) LE.zero).1.1 = j) :
    (les.map Subtype.val).reverse.find? (fun q => q.1 == j) = some (les.getD (les.length - 1 - k) LE.zero).1 := by
  rw [List.find?_eq_some_iff_getElem]
  have hl : k < (les.map Subtype.val).reverse.length := by simpa using hk
  have hget : ∀ i (hi : i < (les.map Subtype.val).reverse.length), (les.map Subtype.val).reverse[i] = (les.getD (les.length - 1 - i) LE.zero).1 := fun i hi => by
    have h2 : i < les.length := by simpa using hi
    have h3 : les.length - 1 - i < les.length := by omega
    rw [List.getElem_reverse, List.getElem_map]
    simp [List.getD_eq_getElem?_getD, List.getElem?_eq_getElem h3]
  refine ⟨by rw [hx]; exact beq_self_eq_true j, k, hl, hget k hl, fun i hi => ?_⟩
  rw [hget i (by omega)]
  have := hne (les.length - 1 - i, les.getD (les.length - 1 - i) LE.zero) (by unfold comes; exact List.mem_map.2 ⟨i, List.mem_range.2 hi, rfl⟩)
  simpa using this
theorem comes_none (les : List LE) (j : Nat) (hne : ∀ p ∈ comes les les.length, p.2.1.1 ≠ j) : (les.map Subtype.val).reverse.find? (fun q => q.1 == j) = none := by
  rw [List.find?_eq_none]
  intro q hq
  rw [List.mem_reverse, List.mem_map] at hq
  obtain ⟨x, hx, rfl⟩ := hq
  obtain ⟨i, hi, rfl⟩ := List.getElem_of_mem hx
  have := hne (i, les[i]) (by
    unfold comes
    refine List.mem_map.2 ⟨les.length - 1 - i, List.mem_range.2 (by omega), ?_⟩
    have e : les.length - 1 - (les.length - 1 - i) = i := by omega
    rw [e]
    simp [List.getD_eq_getElem?_getD, List.getElem?_eq_getElem hi])
  simpa using this
theorem DrumAt.loose_in {w : World} {b sb cap n₀ : Nat} {lv : Value} {D : DS} {les : List LE} (h : DrumAt w b sb cap lv D) (hles : D.loose = les.map Subtype.val) (hn : w.heap.size ≤ n₀) : LooseIn n₀ w lv les := by
  rcases h.loose.2 with ⟨e, h0⟩ | ⟨g, cp, cur, e, _, hg, _⟩
  · exact .inl ⟨e, by have := congrArg List.length hles; simp [h0] at this; exact List.length_eq_zero_iff.1 this.symm⟩
  · subst e
    refine .inr ⟨g, cp, by rw [hles, List.length_map], Nat.lt_of_lt_of_le (Array.getElem?_eq_some_iff.1 hg).1 hn, fun j x hx => ?_⟩
    exact h.loose_at (q := x.1) (by rw [hles, List.getElem?_map, hx]; rfl)

def DS.shows (D : DS) (i : Nat) : List UInt8 := match D.loose.reverse.find? (fun q => q.1 == i) with
  | some q => q.2
  | none => D.sure.getD i []
def DS.read (D : DS) (i : Int) : List UInt8 × Int := if D.down then ([], 9) else if 0 ≤ i ∧ i < (D.sure.length : Int) then (D.shows i.toNat, 0) else ([], 6)
def w3of (w : World) (i : Int) : World := ((w.alloc (.cells #[.int .i64 i] 3)).alloc (.cells #[.string ByteArray.empty] 9)).alloc (.cells #[.int .i64 0] 28)
theorem w3of_new (w : World) (i : Int) : NewMem w (w3of w i) := ((NewMem.alloc _ _).trans (NewMem.alloc _ _)).trans (NewMem.alloc _ _)
set_option maxRecDepth 100000 in
set_option maxHeartbeats 8000000 in
theorem read_at (b sb cap : Nat) (lv : Value) (D : DS) (i : Int) (w : World) (h : DrumAt w b sb cap lv D) (hn : D.loose.length ≤ 1000000) :
    Calls Try.prog 26 #[.pointer (some ⟨b, 0, none⟩), .int .i64 i] w fun e w' => e = .returned (.tuple #[.string ⟨(D.read i).1.toArray⟩, .int .i64 (D.read i).2]) ∧ NewMem w w' := by
  have h3 : DrumAt (w3of w i) b sb cap lv D := h.kept (F := fun _ => False) (Mod.of_below (w3of_new w i)) (fun _ _ => id)
  have cm : Calls Try.prog 50 #[.pointer (some ⟨b, 0, none⟩)] (w3of w i) fun e w' => e = .returned (.bool true) ∧ w3of w i = w' := by
    have := made_of b _ _ _ _ h3.cell.cells.1
    rwa [decide_eq_true h.pos] at this
  have ch := has_of b _ _ _ i _ h3.cell.cells.1
  have hd4 := h3.cell.cells.2.2.2.2
  have CM := Lib.hid cm
  unfold w3of at hd4
  unfold DS.read
  cases hdn : D.down with
  | true =>
    rw [hdn] at hd4
    have HH := Lib.hid hdn
    clear h h3 cm ch hdn
    rw [if_pos rfl]
    refine (callsIn_wide (n := 3)).1 ?_
    refine callsIn_of_wp_marks Try.func26 rfl trivial ?_ rfl
    simp only [Try.ntmps26, List.size_toArray, List.length_cons, List.length_nil, Nat.reduceAdd, Nat.reduceSub, Array.replicate_succ, Array.replicate_zero, List.push_toArray, List.append_toArray, List.nil_append, List.cons_append]
    gi_wp2_with (refine ⟨trivial, ?_⟩; refine (callsIn_wide.2 CM.out).mono ?_; rintro e w' ⟨rfl, rfl⟩; unfold w3of)
    refine ⟨.tuple #[.string ⟨([] : List UInt8).toArray⟩, .int .i64 9], by simp [results, Try.f26, go_sem], rfl, ?_⟩
    exact ((NewMem.alloc _ _).trans (NewMem.alloc _ _)).trans (NewMem.alloc _ _)
  | false =>
    rw [hdn] at hd4
    have HH := Lib.hid hdn
    clear hdn
    rw [if_neg (by simp)]
    by_cases hr : 0 ≤ i ∧ i < (D.sure.length : Int)
    · rw [if_pos hr]
      rw [decide_eq_true hr] at ch
      obtain ⟨j, rfl⟩ : ∃ j : Nat, i = (j : Int) := ⟨i.toNat, by omega⟩
      rw [Int.toNat_natCast]
      obtain ⟨res, hres⟩ : ∃ res, res = D.shows j := ⟨_, rfl⟩
      rw [← hres]
      have HRES := Lib.hid hres
      clear hres
      have hj : j < D.sure.length := by omega
      have CH := Lib.hid ch
      have c1 := h3.cell.cells.2.1
      unfold w3of at c1
      obtain ⟨a, cp, hlv⟩ : ∃ a cp, lv = .slice a D.loose.length cp := by
        rcases h.loose.2 with ⟨e, h0⟩ | ⟨g, cp, cur, e, _⟩
        · exact ⟨none, 0, by rw [e, h0]⟩
        · exact ⟨_, cp, e⟩
      rw [hlv] at c1
      obtain ⟨les, hles⟩ : ∃ les : List LE, D.loose = les.map Subtype.val := ⟨D.loose.attach.map (fun q => ⟨q.1, (h.wloose q.1 q.2).1⟩), by simp [List.map_map, Function.comp_def, List.attach_map_subtype_val]⟩
      have hlen : D.loose.length = les.length := by rw [hles, List.length_map]
      rw [hlen] at c1 hlv hn
      have b0 : Boxed (w3of w j) w.heap.size 3 (.int .i64 (j : Int)) := ((Boxed.new w 3 _).alloc _).alloc _
      have b1 : Boxed (w3of w j) (w.heap.size + 1) 9 (.string ByteArray.empty) := by
        have := (Boxed.new (w.alloc (.cells #[.int .i64 (j : Int)] 3)) 9 (.string ByteArray.empty)).alloc (.cells #[.int .i64 0] 28)
        rwa [World.size_alloc] at this
      have b2 : Boxed (w3of w j) (w.heap.size + 1 + 1) 28 (.int .i64 0) := by
        have := Boxed.new ((w.alloc (.cells #[.int .i64 (j : Int)] 3)).alloc (.cells #[.string ByteArray.empty] 9)) 28 (.int .i64 0)
        rwa [World.size_alloc, World.size_alloc] at this
      have hs3 : (w3of w j).heap.size = w.heap.size + 3 := by unfold w3of; simp
      have b3 : Boxed ((w3of w j).alloc (.cells #[.slice a les.length cp] 71)) (w.heap.size + 1 + 1 + 1) 71 (.slice a les.length cp) := by
        have := Boxed.new (w3of w j) 71 (.slice a les.length cp)
        rwa [hs3] at this
      have b0 := b0.alloc (.cells #[.slice a les.length cp] 71)
      have b1 := b1.alloc (.cells #[.slice a les.length cp] 71)
      have b2 := b2.alloc (.cells #[.slice a les.length cp] 71)
      have hw0 : NewMem w ((w3of w j).alloc (.cells #[.slice a les.length cp] 71)) := (w3of_new w j).trans (NewMem.alloc _ _)
      have hd0 : DrumAt ((w3of w j).alloc (.cells #[.slice a les.length cp] 71)) b sb cap (.slice a les.length cp) D := by
        have := h.kept (F := fun _ => False) (Mod.of_below hw0) (fun _ _ => id); rwa [hlv] at this
      have hz0 : ((w3of w j).alloc (.cells #[.slice a les.length cp] 71)).heap.size = w.heap.size + 4 := by rw [World.size_alloc, hs3]
      obtain ⟨W0, hW0⟩ : ∃ W0, (w3of w j).alloc (.cells #[.slice a les.length cp] 71) = W0 := ⟨_, rfl⟩
      rw [hW0] at b0 b1 b2 b3 hw0 hd0 hz0
      unfold w3of at hW0
      have hin : LooseIn W0.heap.size W0 (.slice a les.length cp) les := hd0.loose_in hles (Nat.le_refl _)
      have HW0 := Lib.hid hW0
      have B0 := Lib.hid b0
      have B1 := Lib.hid b1
      have B2 := Lib.hid b2
      have B3 := Lib.hid b3
      have HW := Lib.hid hw0
      have HD0 := Lib.hid hd0
      have HZ := Lib.hid hz0
      have HIN := Lib.hid hin
      have HLES := Lib.hid hles
      have HJ := Lib.hid hj
      have HN := Lib.hid hn
      clear cm ch hlv b0 b1 b2 b3 hw0 hd0 hz0 hin hW0 h3 h hn hr hles hs3 hlen hj
      refine (callsIn_wide (n := 30)).1 ?_
      refine callsIn_of_wp_marks Try.func26 rfl trivial ?_ rfl
      simp only [Try.ntmps26, List.size_toArray, List.length_cons, List.length_nil, Nat.reduceAdd, Nat.reduceSub, Array.replicate_succ, Array.replicate_zero, List.push_toArray, List.append_toArray, List.nil_append, List.cons_append]
      gi_wp2_with (first
        | (refine ⟨trivial, ?_⟩; gi_at_call 50; refine (callsIn_wide.2 CM.out).mono ?_; rintro e w' ⟨rfl, rfl⟩; unfold w3of)
        | (refine ⟨trivial, ?_⟩; gi_at_call 54; refine (callsIn_wide.2 CH.out).mono ?_; rintro e w' ⟨rfl, rfl⟩; unfold w3of)
        | (refine ⟨trivial, ?_⟩; gi_at_call 56; refine (back_in Fence.wide _ trivial rfl _ _ _ _).mono ?_; rintro e w' ⟨rfl, rfl⟩))
      rw [HW0.out]
      refine wpIn_rangeFunc_ownH rfl (by decide) (gf := 75) (lb := #[.pointer (some ⟨w.heap.size + 1 + 1 + 1, 0, none⟩)]) rfl trivial (enters_of Try.func75 (by kernel_rfl) rfl)
        (back_stops Fence.wide (30 - 1) trivial rfl (by decide) (w.heap.size + 1 + 1 + 1) W0.heap.size _ les HN.out W0 (by have := HZ.out; omega) (Nat.le_refl _) B3.out.cell HIN.out) belowK_t (belowK_b (Nat.le_refl _)) (Below.refl _ _) (by intro x; rfl)
        (fun pre W => (∀ p ∈ pre, p.2.1.1 ≠ j) ∧ Below W0.heap.size W0 W)
        (fun c pre W => (c = .ret ∧ ∃ (ini : List (Nat × LE)) (last : Nat × LE), pre = ini ++ [last] ∧ (∀ p ∈ ini, p.2.1.1 ≠ j) ∧ last.2.1.1 = j ∧ W.heap[w.heap.size + 1]? = some (.cells #[.string ⟨last.2.1.2.toArray⟩] 9 (0, 0)) ∧ W.heap[w.heap.size + 1 + 1]? = some (.cells #[.int .i64 0] 28 (0, 0))) ∧ Below w.heap.size w W)
        (OwnFrom.and (ownFrom_pure _ _) (ownFrom_below (Nat.le_refl _) (Nat.le_refl _)))
        (fun c => OwnFrom.and (fun s A B row hs hg hr => by
          obtain ⟨hc, ini, last, e1, e2, e3, e4, e5⟩ := hs
          exact ⟨hc, ini, last, e1, e2, e3, block_own _ _ _ _ W0.heap.size () A B row e4 hg hr, block_own _ _ _ _ W0.heap.size () A B row e5 hg hr⟩) (ownFrom_below (Nat.le_refl _) (by have := HZ.out; omega)))
        ⟨by simp, Below.refl _ _⟩
        (fun x a' W => ∃ Bx, W0.heap.size ≤ Bx ∧ W.heap[Bx]? = some (.cells (looseCell x.2.1).toArray 86 (0, 0)) ∧ a' = { tmps := #[Value.pointer (some { block := b, off := 0 }), Value.int IntKind.i64 j, undef, Value.pointer (some { block := w.heap.size, off := 0 }), Value.pointer (some { block := w.heap.size + 1, off := 0 }), Value.pointer (some { block := w.heap.size + 1 + 1, off := 0 }), undef, Value.pointer (some { block := Bx, off := 0 }), Value.bool false, Value.pointer (some { block := b, off := 0 }), Value.bool true, Value.bool false, Value.bool false, Value.pointer (some { block := b, off := 0 }), Value.pointer (some { block := b, off := 0 }), Value.pointer (some { block := b, off := 4 }), Value.bool false, Value.bool false, Value.pointer (some { block := b, off := 0 }), Value.int IntKind.i64 j, Value.bool true, Value.bool false, Value.pointer (some { block := b, off := 0 }), Value.pointer (some { block := b, off := 0 }), Value.pointer (some { block := b, off := 1 }), Value.slice a les.length cp, Value.func (Fn.func 75) #[] #[Value.pointer (some { block := w.heap.size + 1 + 1 + 1, off := 0 })], .int .i64 (x.1 : Int), .agg (looseCell x.2.1).toArray, undef, undef, undef, undef, undef, undef, undef, undef, undef, undef, undef, undef, undef, undef, undef], defers := [] })
        (fun x a' s X Y row hs hg hr => by obtain ⟨Bx, h1, h2, h3⟩ := hs; exact ⟨Bx, h1, block_own _ _ _ _ W0.heap.size () X Y row h2 hg hr, h3⟩)
        ?assign ?body ?done ?stop
      case assign =>
        rintro l pre x W K ⟨hne, hB⟩ hK
        have hql := looseCell_len x.2.1 x.2.2
        have hqz2 : (Try.prog.info? 86).map (·.size) = some (looseCell x.2.1).toArray.size := by rw [List.size_toArray, hql]; exact info_looseb
        have hq1 : (looseCell x.2.1).toArray.all (·.oneCell') = true := all_oneCell_toArray (loose_one x.2.1.2 x.2.1.1)
        have hzq : Try.zeroCells86.size = (looseCell x.2.1).toArray.size := by rw [zero_loose]; simp [hql]
        have HQZ2 := Lib.hid hqz2
        have HQ1 := Lib.hid hq1
        have HZQ := Lib.hid hzq
        have HNE := Lib.hid hne
        have HB := Lib.hid hB
        have HK := Lib.hid hK
        clear hqz2 hq1 hzq hql hne hB hK
        unfold encLE
        gi_wp2_with (refine wpListIn_skipped rfl (fun _ h => by cases h) rfl (exec_store_row 86 _ _ rfl W.heap.size (looseCell x.2.1).toArray rfl rfl 86 _ (heap_alloc_last _ _) HQZ2.out HZQ.out HQ1.out) ?_; rw [World.setRow_alloc_new])
        exact HK.out _ _ ((KeepsOthers.alloc _ _).from _) ((Below.refl _ W).alloc HB.out.size _) ⟨HNE.out, HB.out.alloc HB.out.size _⟩ ⟨W.heap.size, HB.out.size, heap_alloc_last _ _, rfl⟩
      case body =>
        rintro l pre ⟨xi, ⟨⟨qi, s⟩, hq⟩⟩ a' W hl ⟨r, hr⟩ ⟨hne, hB⟩ ⟨Bx, hBx, hcell, rfl⟩ hlt
        have hlen : s.length = 64 := hq
        have c64 : W.cell? ⟨Bx, 64, none⟩ = some (.int .i64 (qi : Int)) := by rw [cell_of_row _ _ _ _ _ _ hcell]; simp [looseCell, secCells_len, hlen]
        have ci : W.cell? ⟨w.heap.size, 0, none⟩ = some (.int .i64 (j : Int)) := (hB.cell (p := ⟨w.heap.size, 0, none⟩) (by have := HZ.out; show w.heap.size < _; omega)).trans B0.out.cell
        have hra : W.rangeAt Bx 0 (secCells s) := range_of_block hcell (by simp [looseCell])
        have hsz : (Try.prog.info? 84).map (·.size) = some (secCells s).length := by rw [secCells_len, hlen]; exact info_secb
        have HRA := Lib.hid hra
        have HSZ := Lib.hid hsz
        have HNE := Lib.hid hne
        have HB := Lib.hid hB
        have HLEN := Lib.hid hlen
        clear hra hsz hne hB hcell hlen hr
        by_cases hx : qi = j
        · subst hx
          have bb : ∀ W2, NewMem W W2 → Boxed W2 (w.heap.size + 1) 9 (.string ByteArray.empty) ∧ Boxed W2 (w.heap.size + 1 + 1) 28 (.int .i64 0) := fun W2 h2 => by
            have hz := HZ.out
            have hb2 : Below W0.heap.size W0 W2 := HB.out.trans (h2.mono HB.out.size)
            exact ⟨(hb2.block _ (by omega)).trans B1.out, (hb2.block _ (by omega)).trans B2.out⟩
          have BB := Lib.hid bb
          clear bb
          gi_wp2_with (first
            | (refine wpListIn_value rfl (fun _ h => by cases h) rfl (exec_load_mid 84 _ rfl Bx 0 rfl (secCells s) _ HRA.out Try.underlying84 rfl HSZ.out) ?_)
            | (refine ⟨trivial, ?_⟩; gi_at_call 57; refine (CallsIn.inRound l (callsIn_wide.2 (text_any s HLEN.out _))).mono ?_; rintro e W2 ⟨rfl, hnm⟩; have k1 := (BB.out W2 hnm).1.cell; have k2 := (BB.out W2 hnm).1.frozen; have k3 := (BB.out W2 hnm).2.cell; have k4 := (BB.out W2 hnm).2.frozen; have HNM := Lib.hid hnm; clear hnm))
          have hnm := HNM.out
          have hz := HZ.out
          have hB2 : Below w.heap.size w W2 := Below.trans HW.out (Below.trans (HB.out.mono (by omega)) (Below.mono hnm (by have := HB.out.size; omega)))
          have kf : KeepsFrom W0.heap.size W ((W2.setCell ⟨w.heap.size + 1, 0, none⟩ (.string ⟨s.toArray⟩)).setCell ⟨w.heap.size + 1 + 1, 0, none⟩ (.int .i64 0)) :=
            (((KeepsOthers.of_new hnm).trans (KeepsOthers.setCell _ _ _)).trans (KeepsOthers.setCell _ _ _)).from _
          have x1 : Boxed ((W2.setCell ⟨w.heap.size + 1, 0, none⟩ (.string ⟨s.toArray⟩)).setCell ⟨w.heap.size + 1 + 1, 0, none⟩ (.int .i64 0)) (w.heap.size + 1) 9 (.string ⟨s.toArray⟩) :=
            ((BB.out W2 hnm).1.set _).other (by omega) _
          have x2 : Boxed ((W2.setCell ⟨w.heap.size + 1, 0, none⟩ (.string ⟨s.toArray⟩)).setCell ⟨w.heap.size + 1 + 1, 0, none⟩ (.int .i64 0)) (w.heap.size + 1 + 1) 28 (.int .i64 0) :=
            ((BB.out W2 hnm).2.other (by omega) _).set _
          exact ⟨kf, ⟨rfl, pre, _, rfl, HNE.out, rfl, x1, x2⟩, (hB2.setCell (p := ⟨w.heap.size + 1, 0, none⟩) (by simp) _).setCell (p := ⟨w.heap.size + 1 + 1, 0, none⟩) (by simp; omega) _⟩
        · gi_wp2
          refine ⟨KeepsFrom.refl _ _, Below.refl _ _, fun p hp => ?_, HB.out⟩
          rcases List.mem_append.1 hp with hp | hp
          · exact HNE.out p hp
          · rw [List.mem_singleton.1 hp]; exact hx
      case done =>
        rintro D' ys W hD rfl ⟨hne, hB⟩ hK
        have hz := HZ.out
        have hnf := comes_none les j hne
        rw [← HLES.out] at hnf
        have hsh : D.shows j = D.sure.getD j [] := by unfold DS.shows; rw [hnf]
        have hs : D.sure[j]? = some (D.sure.getD j []) := by simp [List.getElem?_eq_getElem HJ.out]
        obtain ⟨s, hsd⟩ : ∃ s, s = D.sure.getD j [] := ⟨_, rfl⟩
        rw [← hsd] at hs
        have hrs : res = s := by rw [HRES.out, hsh, hsd]
        have HRS := Lib.hid hrs
        clear hrs
        have hdW : DrumAt W b sb cap (.slice a les.length cp) D := HD0.out.kept (F := fun _ => False) (Mod.of_below hB) (fun _ _ => id)
        have hw64 := hdW.wsure s (List.mem_of_getElem? hs)
        have hsz : (Try.prog.info? 84).map (·.size) = some (secCells s).length := by rw [secCells_len, hw64]; exact info_secb
        have HDW := Lib.hid hdW
        have HS := Lib.hid hs
        have HW64 := Lib.hid hw64
        have HSZ := Lib.hid hsz
        have HB := Lib.hid hB
        have HK := Lib.hid hK
        clear hne hnf hsh hsd hdW hw64 hsz hs hB hK hz
        gi_wp2
        refine wpIn_wide.2 ?_
        have far : ∀ W', NewMem W W' → DrumAt W' b sb cap (.slice a les.length cp) D ∧ Boxed W' w.heap.size 3 (.int .i64 (j : Int)) ∧ Boxed W' (w.heap.size + 1) 9 (.string ByteArray.empty) ∧ Boxed W' (w.heap.size + 1 + 1) 28 (.int .i64 0) ∧ W'.heap[D']? = some (.deferred (some [])) := fun W' h => by
          have hz := HZ.out
          have hb2 : Below W0.heap.size W0 W' := HB.out.trans (h.mono HB.out.size)
          exact ⟨HDW.out.kept (F := fun _ => False) (Mod.of_below h) (fun _ _ => id), (hb2.block _ (by omega)).trans B0.out, (hb2.block _ (by omega)).trans B1.out, (hb2.block _ (by omega)).trans B2.out, (h.block _ (Array.getElem?_eq_some_iff.1 HK.out).1).trans HK.out⟩
        have FAR := Lib.hid far
        clear far
        refine' wp_region_facts (S := (fun W' => NewMem W W')) (R := NewMem) [eqF _ _, eqF _ _, eqF _ _, eqF _ (.slice (some ⟨sb, 0, none⟩) D.sure.length cap), eqF _ (.int .i64 (j : Int)), eqF _ (.pointer (some ⟨sb, j * 64, none⟩)), eqF _ (.agg (secCells s).toArray), eqF _ (.string ⟨s.toArray⟩)] (by kernel_rfl) (by kernel_rfl) ?hS ?h0 (steps_cons ?s0 (steps_cons ?s1 (steps_cons ?s2 (steps_cons ?s3 (steps_cons ?s4 (steps_cons ?s5 (steps_cons ?s6 (steps_cons ?s7 (steps_nil))))))))) ?fin
        case s0 =>
          intro g W hSW hd
          try simp only [Nat.zero_add, Nat.reduceAdd] at hd ⊢
          with_reducible refine OpGives.pre_reads [] 44 ?_ ?_ ?_
          · rfl
          · kernel_rfl
          simp only [List.map_cons, List.map_nil]
          refine OpGives.val (w' := W) ?_ ⟨NewMem.refl _, rfl⟩
          go_simp
          try with_reducible rfl
        case s1 =>
          intro g W hSW hd
          try simp only [Nat.zero_add, Nat.reduceAdd] at hd ⊢
          have h0 : g 0 = _ := hd 0 (by decide) (by kernel_rfl)
          with_reducible refine OpGives.pre_reads [(36, 0)] 44 ?_ ?_ ?_
          · rfl
          · kernel_rfl
          simp only [List.map_cons, List.map_nil]
          refine OpGives.val (w' := W) ?_ ⟨NewMem.refl _, rfl⟩
          go_simp
          try with_reducible rfl
        case s2 =>
          intro g W hSW hd
          try simp only [Nat.zero_add, Nat.reduceAdd] at hd ⊢
          have h1 : g 1 = _ := hd 1 (by decide) (by kernel_rfl)
          with_reducible refine OpGives.pre_reads [(37, 1)] 44 ?_ ?_ ?_
          · rfl
          · kernel_rfl
          simp only [List.map_cons, List.map_nil]
          refine OpGives.val (w' := W) ?_ ⟨NewMem.refl _, rfl⟩
          go_simp
          try with_reducible rfl
        case s3 =>
          intro g W hSW hd
          try simp only [Nat.zero_add, Nat.reduceAdd] at hd ⊢
          have h2 : g 2 = _ := hd 2 (by decide) (by kernel_rfl)
          with_reducible refine OpGives.pre_reads [(38, 2)] 44 ?_ ?_ ?_
          · rfl
          · kernel_rfl
          simp only [List.map_cons, List.map_nil]
          have c0 := (FAR.out W hSW).1.cell.cells.1; refine OpGives.val (w' := W) ?_ ⟨NewMem.refl _, rfl⟩; go_simp
        case s4 =>
          intro g W hSW hd
          try simp only [Nat.zero_add, Nat.reduceAdd] at hd ⊢
          with_reducible refine OpGives.pre_reads [] 44 ?_ ?_ ?_
          · rfl
          · kernel_rfl
          simp only [List.map_cons, List.map_nil]
          have c0 := (FAR.out W hSW).2.1.cell; refine OpGives.val (w' := W) ?_ ⟨NewMem.refl _, rfl⟩; go_simp
        case s5 =>
          intro g W hSW hd
          try simp only [Nat.zero_add, Nat.reduceAdd] at hd ⊢
          have h3 : g 3 = _ := hd 3 (by decide) (by kernel_rfl)
          have h4 : g 4 = _ := hd 4 (by decide) (by kernel_rfl)
          with_reducible refine OpGives.pre_reads [(39, 3), (40, 4)] 44 ?_ ?_ ?_
          · rfl
          · kernel_rfl
          simp only [List.map_cons, List.map_nil]
          have hb := HJ.out; refine OpGives.val (w' := W) ?_ ⟨NewMem.refl _, rfl⟩; go_simp
        case s6 =>
          intro g W hSW hd
          try simp only [Nat.zero_add, Nat.reduceAdd] at hd ⊢
          have h5 : g 5 = _ := hd 5 (by decide) (by kernel_rfl)
          with_reducible refine OpGives.pre_reads [(41, 5)] 44 ?_ ?_ ?_
          · rfl
          · kernel_rfl
          simp only [List.map_cons, List.map_nil]
          refine OpGives.val (w' := W) (exec_load_mid 84 _ rfl sb (j * 64) ?_ (secCells s) _ ((FAR.out W hSW).1.sure_at HS.out) Try.underlying84 rfl HSZ.out) ⟨NewMem.refl _, rfl⟩; (rw [h5]; simp [rdl_cons])
        case s7 =>
          intro g W hSW hd
          try simp only [Nat.zero_add, Nat.reduceAdd] at hd ⊢
          have h6 : g 6 = _ := hd 6 (by decide) (by kernel_rfl)
          with_reducible refine OpGives.pre_reads [(42, 6)] 44 ?_ ?_ ?_
          · rfl
          · kernel_rfl
          simp only [List.map_cons, List.map_nil]
          refine OpGives.call (f := 57) (args := #[.agg (secCells s).toArray]) (w' := W) (by go_simp) ((text_any s HW64.out W).mono fun e w' ⟨he, hn⟩ => ⟨_, he, hn, rfl⟩)
        case hS => exact fun a b h k => NewMem.trans h k
        case h0 => exact below_drewN' (n := 1) (Below.refl _ _)
        case fin =>
          intro v W' hSW hf
          have h7 : v 7 = _ := hf 7 (Nat.lt_of_lt_of_eq (by decide : 7 < 8) rfl)
          clear hf
          generalize hF : Ord.pre _ _ v _ = F
          rw [Ord.pre_lit [some 36, some 37, some 38, some 39, some 40, some 41, some 42, some 43]
            (by kernel_rfl)] at hF
          simp only [Ord.puts, Nat.zero_add, Nat.reduceAdd] at hF
          subst hF
          rw [h7]
          clear h7
          obtain ⟨_, _, x1, x2, x3⟩ := FAR.out W' hSW
          have c1 := x1.cell
          have f1 := x1.frozen
          have c2 := x2.cell
          have f2 := x2.frozen
          have y1 : Boxed ((W'.setCell ⟨w.heap.size + 1, 0, none⟩ (.string ⟨s.toArray⟩)).setCell ⟨w.heap.size + 1 + 1, 0, none⟩ (.int .i64 0)) (w.heap.size + 1) 9 (.string ⟨s.toArray⟩) := (x1.set _).other (by omega) _
          have y2 : Boxed ((W'.setCell ⟨w.heap.size + 1, 0, none⟩ (.string ⟨s.toArray⟩)).setCell ⟨w.heap.size + 1 + 1, 0, none⟩ (.int .i64 0)) (w.heap.size + 1 + 1) 28 (.int .i64 0) := (x2.other (by omega) _).set _
          have y3 : ((W'.setCell ⟨w.heap.size + 1, 0, none⟩ (.string ⟨s.toArray⟩)).setCell ⟨w.heap.size + 1 + 1, 0, none⟩ (.int .i64 0)).heap[D']? = some (.deferred (some [])) :=
            ((KeepsOthers.setCell _ _ _).trans (KeepsOthers.setCell _ _ _)).same D' _ x3 rfl
          have y4 : Below w.heap.size w ((W'.setCell ⟨w.heap.size + 1, 0, none⟩ (.string ⟨s.toArray⟩)).setCell ⟨w.heap.size + 1 + 1, 0, none⟩ (.int .i64 0)) := by
            have hz := HZ.out
            have : Below w.heap.size w W' := Below.trans HW.out ((HB.out.trans (Below.mono hSW HB.out.size)).mono (by omega))
            exact (this.setCell (p := ⟨w.heap.size + 1, 0, none⟩) (by simp) _).setCell (p := ⟨w.heap.size + 1 + 1, 0, none⟩) (by simp; omega) _
          have Y1 := Lib.hid y1
          have Y2 := Lib.hid y2
          have Y3 := Lib.hid y3
          have Y4 := Lib.hid y4
          clear y1 y2 y3 y4 x3
          refine any_one (i := 8) (by kernel_rfl) ?_
          refine wpOp_skip (w' := W'.setCell ⟨w.heap.size + 1, 0, none⟩ (.string ⟨s.toArray⟩)) rfl rfl (by go_simp) ?_
          refine any_one (i := 9) (by kernel_rfl) ?_
          refine wpOp_skip (w' := (W'.setCell ⟨w.heap.size + 1, 0, none⟩ (.string ⟨s.toArray⟩)).setCell ⟨w.heap.size + 1 + 1, 0, none⟩ (.int .i64 0)) rfl rfl (by go_simp) ?_
          refine wpAny_done (by kernel_rfl) ?_ _
          simp only [List.getElem_toArray, List.getElem_cons_succ, List.getElem_cons_zero]
          go_frame
          clear c1 c2 f1 f2 x1 x2
          generalize (W'.setCell ⟨w.heap.size + 1, 0, none⟩ (.string ⟨s.toArray⟩)).setCell ⟨w.heap.size + 1 + 1, 0, none⟩ (.int .i64 0) = W2 at *
          gi_wp2
          have hK := Y3.out
          refine ⟨by simp, .inl ⟨_, _, rfl, run_takeDeferred hK, ?_⟩⟩
          have hz := HZ.out
          have hg := grownBy_putObj' W2 D' (.deferred none)
          have q1 := Boxed.kept (row := some D') Y1.out hg (by simp; omega)
          have q2 := Boxed.kept (row := some D') Y2.out hg (by simp; omega)
          have c1 := q1.cell
          have c2 := q2.cell
          refine ⟨.tuple #[.string ⟨s.toArray⟩, .int .i64 0], ?_, by rw [HRS.out], Y4.out.trans (belowK_b (w := w) (Nat.le_refl _) W2 D' _ _ (by omega) hK rfl rfl)⟩
          simp [results, Try.f26, go_sem, c1, c2]
      case stop =>
        rintro D' c pre W hD ⟨k, hk, rfl⟩ ⟨⟨rfl, ini, last, e1, e2, e3, hs1, hs2⟩, hB⟩ hK
        have hz := HZ.out
        obtain ⟨k', rfl⟩ : ∃ k', k = k' + 1 := by
          cases k with
          | zero => simp [comes] at e1
          | succ k' => exact ⟨k', rfl⟩
        rw [comes_succ] at e1
        obtain ⟨rfl, e5⟩ := List.append_inj' e1 rfl
        have e6 := (List.cons.inj e5).1
        subst e6
        have hf := comes_find les j k' (by omega) e2 e3
        rw [← HLES.out] at hf
        have hsh : D.shows j = (les.getD (les.length - 1 - k') LE.zero).1.2 := by unfold DS.shows; rw [hf]
        have hrs := HRES.out.trans hsh
        gi_wp2
        refine ⟨by simp, .inl ⟨_, _, rfl, run_takeDeferred hK, ?_⟩⟩
        have hg := grownBy_putObj' W D' (.deferred none)
        have q1 : Boxed (W.putObj D' (.deferred none)) (w.heap.size + 1) 9 (.string ⟨(les.getD (les.length - 1 - k') LE.zero).1.2.toArray⟩) := Boxed.kept (row := some D') hs1 hg (by simp; omega)
        have q2 : Boxed (W.putObj D' (.deferred none)) (w.heap.size + 1 + 1) 28 (.int .i64 0) := Boxed.kept (row := some D') hs2 hg (by simp; omega)
        have c1 := q1.cell
        have c2 := q2.cell
        refine ⟨.tuple #[.string ⟨(les.getD (les.length - 1 - k') LE.zero).1.2.toArray⟩, .int .i64 0], ?_, by simp, hB.trans (belowK_b (w := w) (Nat.le_refl _) W D' _ _ (by omega) hK rfl rfl)⟩
        simp [results, Try.f26, go_sem, c1, c2]
    · rw [if_neg hr]
      rw [decide_eq_false hr] at ch
      have CH := Lib.hid ch
      clear h h3 cm ch
      refine (callsIn_wide (n := 3)).1 ?_
      refine callsIn_of_wp_marks Try.func26 rfl trivial ?_ rfl
      simp only [Try.ntmps26, List.size_toArray, List.length_cons, List.length_nil, Nat.reduceAdd, Nat.reduceSub, Array.replicate_succ, Array.replicate_zero, List.push_toArray, List.append_toArray, List.nil_append, List.cons_append]
      gi_wp2_with (first
        | (refine ⟨trivial, ?_⟩; gi_at_call 50; refine (callsIn_wide.2 CM.out).mono ?_; rintro e w' ⟨rfl, rfl⟩; unfold w3of)
        | (refine ⟨trivial, ?_⟩; gi_at_call 54; refine (callsIn_wide.2 CH.out).mono ?_; rintro e w' ⟨rfl, rfl⟩; unfold w3of))
      refine ⟨.tuple #[.string ⟨([] : List UInt8).toArray⟩, .int .i64 6], by simp [results, Try.f26, go_sem], rfl, ?_⟩
      exact ((NewMem.alloc _ _).trans (NewMem.alloc _ _)).trans (NewMem.alloc _ _)
end Go.Proofs.Ytjnbdikhajnciaa.Drum
