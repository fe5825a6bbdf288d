/- The drum: Write. -/
import Derived.Test.YtjnbdikhajnciaaEe
import Derived.Test.YtjnbdikhajnciaaOx
namespace Go.Proofs.Ytjnbdikhajnciaa.Drum
open Go.RowKit Go.Proofs.Ytjnbdikhajnciaa.Ord Go.Proofs.YtjnbdikhajnciaaW.PrintWords Go.Proofs.Ytjnbdikhajnciaa.Base
set_option linter.unusedVariables false
set_option linter.unusedSimpArgs false
attribute [local go_sem] rdl_const rdl_func rdl_global rdl_nil rdl_cons

def DS.burn (D : DS) : Int × DS := ((burns D.armed D.left D.down).1, { D with left := (burns D.armed D.left D.down).2.1, down := (burns D.armed D.left D.down).2.2 })
def DS.write (D : DS) (i : Int) (s : List UInt8) : Int × DS :=
  if i < 0 ∨ (D.sure.length : Int) ≤ i ∨ s.length ≠ 64 then (2, D)
  else if D.burn.1 = 0 then (0, { D.burn.2 with loose := D.loose ++ [(i.toNat, s)] }) else D.burn
theorem foot_b (b sb : Nat) (lv : Value) : foot b sb lv b := .inl rfl
theorem DrumAt.burnt {w w' : World} {b sb cap : Nat} {lv : Value} {D : DS} (h : DrumAt w b sb cap lv D) (hc : DCell w' b (.slice (some ⟨sb, 0, none⟩) D.sure.length cap) lv D.armed (burns D.armed D.left D.down).2.1 (burns D.armed D.left D.down).2.2)
    (hm : Mod (fun k => k = b) w w') : DrumAt w' b sb cap lv D.burn.2 :=
  ⟨hc, ownsRow_mod h.sure hm (fun k hk e => h.ne (by subst e; simpa [Value.ownBlock] using hk.symm)), ownsRow_mod h.loose hm (fun k hk e => h.nel (by rw [hk, e])), h.ne, h.nel, h.nes, h.pos, h.few, h.wsure, h.wloose⟩
/-- A call that answers by a number; behind it the drum is D'. -/
def Did (w : World) (b sb cap : Nat) (lv : Value) (r : Int × DS) (e : Ending) (w' : World) : Prop :=
  ∃ lv', e = .returned (.int .i64 r.1) ∧ DrumAt w' b sb cap lv' r.2 ∧ (∀ k, lv'.ownBlock = some k → lv.ownBlock = some k ∨ w.heap.size ≤ k) ∧ Mod (foot b sb lv) w w'
theorem Did.same {w : World} {b sb cap : Nat} {lv : Value} {D : DS} (h : DrumAt w b sb cap lv D) (r : Int) : Did w b sb cap lv (r, D) (.returned (.int .i64 r)) w :=
  ⟨lv, rfl, h, fun _ h => .inl h, Mod.refl _ _⟩

theorem zero_loose : Try.zeroCells86 = (List.replicate 64 (Value.int .u8 0) ++ [Value.int .i64 0]).toArray := by kernel_rfl
theorem store_loose (w : World) (i : Int) : (storeCells ⟨w.heap.size, 0, none⟩ (Try.zeroCells86.toList.set 64 (.int .i64 i))).run Try.prog (w.alloc (.cells Try.zeroCells86 86)) =
    .ok () (w.alloc (.cells (List.replicate 64 (Value.int .u8 0) ++ [Value.int .i64 i]).toArray 86)) := by
  have e : Try.zeroCells86.toList.set 64 (.int .i64 i) = List.replicate 64 (Value.int .u8 0) ++ [Value.int .i64 i] := by rw [zero_loose]; rfl
  have hz : Try.zeroCells86.size = 65 := by rw [zero_loose]; rfl
  have hl : (List.replicate 64 (Value.int .u8 0) ++ [Value.int .i64 i]).length = 65 := by rw [List.length_append, List.length_replicate]; rfl
  rw [e]
  have h := run_storeCells_at Try.prog w.heap.size 0 86 (List.replicate 64 (Value.int .u8 0) ++ [Value.int .i64 i]) 0 _ (w.alloc (.cells Try.zeroCells86 86)) (heap_alloc_last w _) (by rw [hl, hz]; decide) (by
    intro v hv
    rw [List.mem_append] at hv
    rcases hv with hv | hv
    · rw [List.eq_of_mem_replicate hv]; rfl
    · rw [List.mem_singleton.1 hv]; rfl)
  rw [hl] at h
  refine h.trans ?_
  rw [World.setRow_alloc_new]
  congr 4
theorem copy_loose (w : World) (i : Int) (s : ByteArray) (h64 : s.size = 64) :
    (Builtin.copy_ #[87, 9] 3 #[.slice (some ⟨w.heap.size, 0, none⟩) 64 64, .string s]).run Try.prog (w.alloc (.cells (List.replicate 64 (Value.int .u8 0) ++ [Value.int .i64 i]).toArray 86)) =
      .ok (goInt 64) (w.alloc (.cells (secCells s.data.toList ++ [Value.int .i64 i]).toArray 86)) := by
  rw [run_copy_text _ 87 9 3 5 w.heap.size 64 64 s _ 86 Try.underlying87 info_u8 (heap_alloc_last w _) (by rw [List.size_toArray, List.length_append, List.length_replicate]; exact Nat.le_add_right _ _)]
  rw [World.setRow_alloc_new, h64]
  congr 4
  unfold secCells
  rw [nums_ints, List.take_of_length_le (by simp [h64]), show min 64 64 = 64 from rfl, List.drop_left' (by rw [List.length_replicate])]

theorem loose_made (w : World) (i : Int) (s : ByteArray) (h64 : s.size = 64) : ∃ w2 w3, (storeCells ⟨w.heap.size, 0, none⟩ (Try.zeroCells86.toList.set 64 (.int .i64 i))).run Try.prog (w.alloc (.cells Try.zeroCells86 86)) = .ok () w2 ∧
    (Builtin.copy_ #[87, 9] 3 #[.slice (some ⟨w.heap.size, 0, none⟩) 64 64, .string s]).run Try.prog w2 = .ok (goInt 64) w3 ∧ w3 = w.alloc (.cells (secCells s.data.toList ++ [Value.int .i64 i]).toArray 86) :=
  ⟨_, _, store_loose w i, copy_loose w i s h64, rfl⟩

/-- A slice of one new element, in a block of its own. -/
def newsF (lv : Value) (xs : List Value) : Fact (Mod (fun k => lv.ownBlock = some k)) :=
  ⟨fun v W => ∃ x, v = .slice (some ⟨x, 0, none⟩) 1 1 ∧ W.heap[x]? = some (.cells xs.toArray 86 (0, 0)) ∧ lv.ownBlock ≠ some x,
   fun v W W' ⟨x, hv, hx, hn⟩ hm => ⟨x, hv, (hm.block x (Array.getElem?_eq_some_iff.1 hx).1 hn).trans hx, hn⟩⟩
/-- The loose writes, one more of them. -/
def Appended (w3 : World) (lv : Value) (D : DS) (p : Nat × List UInt8) (v : Value) (W : World) : Prop :=
  ∃ h cap, v = .slice (some ⟨h, 0, none⟩) (D.loose.length + 1) cap ∧ W.ownsRow 0 86 65 v (D.loose.length + 1) (looseCells (D.loose ++ [p])) ∧ (lv.ownBlock = some h ∨ w3.heap.size ≤ h)
theorem looseCells_snoc (l : List (Nat × List UInt8)) (p : Nat × List UInt8) : looseCells (l ++ [p]) = looseCells l ++ (secCells p.2 ++ [.int .i64 (p.1 : Int)]) := by simp [looseCells]
theorem info_loose : (Try.prog.info? 86).map (fun i => (i.zero, i.size, i.bytes)) = some (some (.agg Try.zeroCells86), 65, 72) := by kernel_rfl
theorem loose_one (s : List UInt8) (i : Int) : ∀ u ∈ secCells s ++ [Value.int .i64 i], u.oneCell' = true := by
  intro u hu
  rw [List.mem_append] at hu
  rcases hu with hu | hu
  · unfold secCells at hu; rw [nums_ints] at hu; exact Lib.byteCells_one _ u hu
  · rw [List.mem_singleton.1 hu]; rfl
theorem append_loose {lv : Value} {D : DS} {s : List UInt8} {i : Int} {w3 W : World} {v6 : Value} (hs : s.length = 64) (hi : 0 ≤ i) (hn : D.loose.length ≤ 1000000)
    (hS : Mod (fun k => lv.ownBlock = some k) w3 W) (hA : W.ownsRow 0 86 65 lv D.loose.length (looseCells D.loose)) (h6 : (newsF lv (secCells s ++ [Value.int .i64 i])).p v6 W) (ty : TypeId) :
    ∃ v W', (Builtin.append_ #[71, 71] ty #[lv, v6]).run Try.prog W = .ok v W' ∧ Mod (fun k => lv.ownBlock = some k) W W' ∧ Appended w3 lv D (i.toNat, s) v W' := by
  obtain ⟨x, rfl, hx, hne⟩ := h6
  obtain ⟨i0, hi0, hz0, hz1, hz2⟩ := info_parts info_loose
  have hzs : Try.zeroCells86.size = 65 := by rw [zero_loose]; rfl
  obtain ⟨h, cap, W', hr, hown, hg, hat, _⟩ := run_append_lies (P := Try.prog) W 71 ty 0 86 i0 _ 65 72 Try.underlying71 hi0 hz0 hz1 hz2 hzs (by decide) lv D.loose.length _ hA ⟨x, 0, none⟩ 1 1 (secCells s ++ [Value.int .i64 i])
    (by simp [secCells_len, hs]) (World.news_of_block (by simpa using hx)) (loose_one s i) (by decide) (by unfold maxLen; omega) (by omega) (Nat.zero_le _) W.heap.size rfl
  refine ⟨_, W', hr, Mod.of_grown hg (fun k hk => hk), h, cap, rfl, ?_, ?_⟩
  · rw [looseCells_snoc]
    have : ((i.toNat : Nat) : Int) = i := by omega
    simp only [this]; exact hown
  · rcases hat with hat | hat
    · exact .inl hat
    · exact .inr (by rw [hat]; exact hS.size)
theorem lit_loose (s : List UInt8) (hs : s.length = 64) (i : Int) (W : World) (parts : Array (Nat × Value)) (hp : parts.toList = [(0, .agg (secCells s ++ [Value.int .i64 i]).toArray)]) :
    (Instr.buildSlice 71 1 parts).run Try.prog W = .ok (.slice (some ⟨W.heap.size, 0, none⟩) 1 1) (W.alloc (.cells (secCells s ++ [Value.int .i64 i]).toArray 86)) := by
  have h := run_lit (P := Try.prog) W 71 86 65 1 [.agg (secCells s ++ [Value.int .i64 i]).toArray] parts _ 72 Try.underlying71 info_loose (by rw [hp]; rfl) (by decide) (by decide) rfl (by decide)
    (fun v hv => by rw [List.mem_singleton.1 hv]; simp [Value.cells, secCells_len, hs])
  simpa [Value.cells] using h
theorem DrumAt.written {w w1 w3 W : World} {b sb cap : Nat} {lv v : Value} {D : DS} {p : Nat × List UInt8} (h : DrumAt w b sb cap lv D)
    (hc1 : DCell w1 b (.slice (some ⟨sb, 0, none⟩) D.sure.length cap) lv D.armed (burns D.armed D.left D.down).2.1 (burns D.armed D.left D.down).2.2)
    (hm1 : Mod (fun k => k = b) w w1) (hn3 : NewMem w1 w3) (hS : Mod (fun k => lv.ownBlock = some k) w3 W) (ha : Appended w3 lv D p v W) (hp : p.2.length = 64 ∧ p.1 < D.sure.length) :
    Did w b sb cap lv (0, { D.burn.2 with loose := D.loose ++ [p] }) (.returned (.int .i64 0)) (W.setCell ⟨b, 1, none⟩ v) := by
  obtain ⟨x, cp, rfl, hown, hat⟩ := ha
  have hm3 : Mod (fun k => k = b) w1 w3 := Mod.of_below hn3
  have hb1 : b < w1.heap.size := hc1.lt
  have hb3 : b < w3.heap.size := Nat.lt_of_lt_of_le hb1 hn3.size
  have hbx : b ≠ x := by
    rcases hat with e | e
    · intro hx; exact h.nel (by rw [e, hx])
    · omega
  have hsx : sb ≠ x := by
    rcases hat with e | e
    · intro hx; exact h.nes (by rw [e, hx])
    · have := (h.sure.lt sb rfl).2; have := hm1.size; have := hn3.size; omega
  have hcW : DCell W b (.slice (some ⟨sb, 0, none⟩) D.sure.length cap) lv D.armed (burns D.armed D.left D.down).2.1 (burns D.armed D.left D.down).2.2 :=
    (hc1.kept (Mod.of_below (F := fun _ => False) hn3) id).kept hS h.nel
  have hall : Mod (foot b sb lv) w (W.setCell ⟨b, 1, none⟩ (.slice (some ⟨x, 0, none⟩) (D.loose.length + 1) cp)) := by
    have h1 : Mod (foot b sb lv) w w1 := hm1.mono (fun i e => .inl e)
    have h2 : Mod (foot b sb lv) w w3 := h1.trans (Mod.of_below hn3 : Mod (foot b sb lv) w1 w3) (fun i e => .inl e)
    have h3 : Mod (foot b sb lv) w W := h2.trans hS (fun i e => .inl (.inr (.inr e)))
    exact h3.trans (Mod.setCell (F := fun k => k = b) _ _ _ rfl) (fun i e => .inl (.inl e))
  refine ⟨.slice (some ⟨x, 0, none⟩) (D.loose.length + 1) cp, rfl, ⟨hcW.set1 _, ?_, ?_, h.ne, ?_, ?_, h.pos, h.few, h.wsure, ?_⟩, ?_, hall⟩
  · have s1 := ownsRow_mod h.sure hm1 (fun k hk e => h.ne (by subst e; simpa [Value.ownBlock] using hk.symm))
    have s3 := ownsRow_mod s1 (Mod.of_below (F := fun _ => False) hn3) (fun _ _ => id)
    have s4 := ownsRow_mod s3 hS (fun k hk e => h.nes (by rw [e]; exact hk.symm))
    exact ownsRow_mod s4 (Mod.setCell (F := fun k => k = b) _ ⟨b, 1, none⟩ _ rfl) (fun k hk e => h.ne (by subst e; simpa [Value.ownBlock] using hk.symm))
  · have := ownsRow_mod hown (Mod.setCell (F := fun k => k = b) W ⟨b, 1, none⟩ (.slice (some ⟨x, 0, none⟩) (D.loose.length + 1) cp) rfl) (fun k hk e => hbx (by subst e; simpa [Value.ownBlock] using hk.symm))
    simpa using this
  · simpa [Value.ownBlock] using fun e : x = b => hbx e.symm
  · simpa [Value.ownBlock] using fun e : x = sb => hsx e.symm
  · intro q hq
    rcases List.mem_append.1 hq with hq | hq
    · exact h.wloose q hq
    · rw [List.mem_singleton.1 hq]; exact hp
  · intro k hk
    simp only [Value.ownBlock, Option.some.injEq] at hk
    subst hk
    rcases hat with e | e
    · exact .inl e
    · have := hm1.size; have := hn3.size; exact .inr (by omega)

set_option maxRecDepth 100000 in
set_option maxHeartbeats 8000000 in
theorem write_at (b sb cap : Nat) (lv : Value) (D : DS) (i : Int) (s : ByteArray) (w : World) (h : DrumAt w b sb cap lv D) (hs : s.size ≤ 1000000) (hn : D.loose.length ≤ 1000000) :
    Calls Try.prog 24 #[.pointer (some ⟨b, 0, none⟩), .int .i64 i, .string s] w fun e w' => Did w b sb cap lv (D.write i s.data.toList) e w' := by
  have c0 := h.cell.cells.1
  have cm : Calls Try.prog 50 #[.pointer (some ⟨b, 0, none⟩)] w fun e w' => e = .returned (.bool true) ∧ w = w' := by
    have := made_of b _ _ _ w c0
    rwa [decide_eq_true h.pos] at this
  have CM := Lib.hid cm
  have ch := has_of b _ _ _ i w c0
  have H := Lib.hid h
  by_cases hr : 0 ≤ i ∧ i < (D.sure.length : Int)
  · rw [decide_eq_true hr] at ch
    have CH := Lib.hid ch
    by_cases h64 : s.size = 64
    · have hsl : s.data.toList.length = 64 := by simpa using h64
      have hw : D.write i s.data.toList = if D.burn.1 = 0 then (0, { D.burn.2 with loose := D.loose ++ [(i.toNat, s.data.toList)] }) else D.burn := by
        unfold DS.write; rw [if_neg (by rintro (x | x | x) <;> omega)]
      rw [hw]
      have h64i : (s.size : Int) = 64 := by omega
      have CB := Lib.hid (burn_at b _ _ _ _ _ w h.cell)
      clear hw h ch cm c0
      by_cases hb0 : D.burn.1 = 0
      · rw [if_pos hb0]
        have hb0' : (burns D.armed D.left D.down).1 = 0 := hb0
        go_enter Try.func24, Try.ntmps24
        go_wp2_with fail
        refine CM.out.mono ?_
        rintro e w' ⟨rfl, rfl⟩
        go_wp2_with fail
        refine CH.out.mono ?_
        rintro e w' ⟨rfl, rfl⟩
        go_wp2_with fail
        refine CB.out.mono ?_
        rintro e w1 ⟨rfl, hc1, hm1⟩
        rw [hb0']
        obtain ⟨w2, w3, hst, hcp, hw3⟩ := loose_made w1 i s h64
        have HW3 := Lib.hid hw3
        clear hw3
        go_wp2_with fail
        obtain ⟨gl, hg⟩ : ∃ g : Nat, g = w1.heap.size := ⟨_, rfl⟩
        rw [← hg]
        have hg3 : w3.heap[gl]? = some (.cells (secCells s.data.toList ++ [Value.int .i64 i]).toArray 86 (0, 0)) := by rw [HW3.out, hg]; exact heap_alloc_last _ _
        have hn3 : NewMem w1 w3 := by rw [HW3.out]; exact NewMem.alloc _ _
        clear hst hcp HW3
        have hbn : b < w1.heap.size := hc1.lt
        have hb3 : ∀ W, Mod (fun k => lv.ownBlock = some k) w3 W → DCell W b (.slice (some ⟨sb, 0, none⟩) D.sure.length cap) lv D.armed (burns D.armed D.left D.down).2.1 (burns D.armed D.left D.down).2.2 := fun W hW =>
          (hc1.kept (Mod.of_below (F := fun _ => False) hn3) id).kept hW H.out.nel
        have hlt : ∀ k, lv.ownBlock = some k → k < w1.heap.size := fun k hk => Nat.lt_of_lt_of_le ((H.out.loose.lt k hk).2) hm1.size
        have hgW : ∀ W, Mod (fun k => lv.ownBlock = some k) w3 W → W.heap[gl]? = some (.cells (secCells s.data.toList ++ [Value.int .i64 i]).toArray 86 (0, 0)) := fun W hW =>
          (hW.block gl ((Array.getElem?_eq_some_iff.1 hg3).1) (fun e => by have := hlt gl e; omega)).trans hg3
        have hA3 : w3.ownsRow 0 86 65 lv D.loose.length (looseCells D.loose) :=
          ownsRow_mod (ownsRow_mod H.out.loose hm1 (fun k hk e => H.out.nel (by rw [hk, e]))) (Mod.of_below (F := fun _ => False) hn3) (fun _ _ => id)
        have hcs : (secCells s.data.toList ++ [Value.int .i64 i]).length = 65 := by simp [secCells_len, hsl]
        have HB3 := Lib.hid hb3
        have HLT := Lib.hid hlt
        have HGW := Lib.hid hgW
        have HA3 := Lib.hid hA3
        have HCS := Lib.hid hcs
        have HC1 := Lib.hid hc1
        have HM1 := Lib.hid hm1
        have HN3 := Lib.hid hn3
        have HG3 := Lib.hid hg3
        clear hb3 hlt hgW hA3 hcs hc1 hm1 hn3 hg3
        refine' wp_region_factsD 7 (S := (fun W => Mod (fun k => lv.ownBlock = some k) w3 W)) (A := (fun W => W.ownsRow 0 86 65 lv D.loose.length (looseCells D.loose))) (R := (Mod (fun k => lv.ownBlock = some k))) (R0 := NewMem) (pd := (Appended w3 lv D (i.toNat, s.data.toList))) [eqF _ _, eqF _ _, eqF _ _, eqF _ _, eqF _ lv, eqF _ (.agg (secCells s.data.toList ++ [Value.int .i64 i]).toArray), newsF lv (secCells s.data.toList ++ [Value.int .i64 i]), noF _] (by kernel_rfl) (by kernel_rfl) ?hS ?hA ?hR ?hpd ?h0 (stepsD_cons ?s0 (stepsD_cons ?s1 (stepsD_cons ?s2 (stepsD_cons ?s3 (stepsD_cons ?s4 (stepsD_cons ?s5 (stepsD_cons ?s6 (stepsD_cons ?s7 (stepsD_nil))))))))) ?fin
        case s0 =>
          intro g W hSW _ hd
          refine OpGives.ne (by decide) ?_
          try simp only [Nat.zero_add, Nat.reduceAdd] at hd ⊢
          with_reducible refine OpGives.pre_reads [] 44 ?_ ?_ ?_
          · rfl
          · kernel_rfl
          simp only [List.map_cons, List.map_nil]
          refine OpGives.val (w' := W) ?_ ⟨NewMem.refl _, rfl⟩
          go_simp
          try with_reducible rfl
        case s1 =>
          intro g W hSW _ hd
          refine OpGives.ne (by decide) ?_
          try simp only [Nat.zero_add, Nat.reduceAdd] at hd ⊢
          with_reducible refine OpGives.pre_reads [] 44 ?_ ?_ ?_
          · rfl
          · kernel_rfl
          simp only [List.map_cons, List.map_nil]
          refine OpGives.val (w' := W) ?_ ⟨NewMem.refl _, rfl⟩
          go_simp
          try with_reducible rfl
        case s2 =>
          intro g W hSW _ hd
          refine OpGives.ne (by decide) ?_
          try simp only [Nat.zero_add, Nat.reduceAdd] at hd ⊢
          have h1 : g 1 = _ := hd 1 (by decide) (by kernel_rfl)
          with_reducible refine OpGives.pre_reads [(35, 1)] 44 ?_ ?_ ?_
          · rfl
          · kernel_rfl
          simp only [List.map_cons, List.map_nil]
          refine OpGives.val (w' := W) ?_ ⟨NewMem.refl _, rfl⟩
          go_simp
          try with_reducible rfl
        case s3 =>
          intro g W hSW _ hd
          refine OpGives.ne (by decide) ?_
          try simp only [Nat.zero_add, Nat.reduceAdd] at hd ⊢
          have h2 : g 2 = _ := hd 2 (by decide) (by kernel_rfl)
          with_reducible refine OpGives.pre_reads [(36, 2)] 44 ?_ ?_ ?_
          · rfl
          · kernel_rfl
          simp only [List.map_cons, List.map_nil]
          refine OpGives.val (w' := W) ?_ ⟨NewMem.refl _, rfl⟩
          go_simp
          try with_reducible rfl
        case s4 =>
          intro g W hSW _ hd
          refine OpGives.ne (by decide) ?_
          try simp only [Nat.zero_add, Nat.reduceAdd] at hd ⊢
          have h3 : g 3 = _ := hd 3 (by decide) (by kernel_rfl)
          with_reducible refine OpGives.pre_reads [(37, 3)] 44 ?_ ?_ ?_
          · rfl
          · kernel_rfl
          simp only [List.map_cons, List.map_nil]
          have c1 := (HB3.out W hSW).cells.2.1; refine OpGives.val (w' := W) ?_ ⟨NewMem.refl _, rfl⟩; go_simp
        case s5 =>
          intro g W hSW _ hd
          refine OpGives.ne (by decide) ?_
          try simp only [Nat.zero_add, Nat.reduceAdd] at hd ⊢
          with_reducible refine OpGives.pre_reads [] 44 ?_ ?_ ?_
          · rfl
          · kernel_rfl
          simp only [List.map_cons, List.map_nil]
          refine OpGives.val (w' := W) (exec_load_row 86 _ rfl gl ?_ _ _ (0, 0) _ (HGW.out W hSW) Try.underlying86 rfl ?_) ⟨NewMem.refl _, rfl⟩; (rfl); (rw [List.size_toArray, HCS.out]; kernel_rfl)
        case s6 =>
          intro g W hSW _ hd
          refine OpGives.ne (by decide) ?_
          try simp only [Nat.zero_add, Nat.reduceAdd] at hd ⊢
          have h5 : g 5 = _ := hd 5 (by decide) (by kernel_rfl)
          with_reducible refine OpGives.pre_reads [(39, 5)] 44 ?_ ?_ ?_
          · rfl
          · kernel_rfl
          simp only [List.map_cons, List.map_nil]
          refine OpGives.val (v := .slice (some ⟨W.heap.size, 0, none⟩) 1 1) (w' := W.alloc (.cells (secCells s.data.toList ++ [Value.int .i64 i]).toArray 86)) (exec_buildSlice 71 1 _ rfl (lit_loose _ hsl i W _ ?_)) ⟨NewMem.alloc _ _, W.heap.size, rfl, heap_alloc_last W _, fun e => absurd (HLT.out _ e) (by have := hSW.size; have := HN3.out.size; omega)⟩; rw [h5]; simp [rdl_cons]
        case s7 =>
          intro g W hSW hAW hd
          refine OpGives.eqd ?_
          have hAW := hAW rfl
          try simp only [Nat.zero_add, Nat.reduceAdd] at hd ⊢
          have h4 : g 4 = _ := hd 4 (by decide) (by kernel_rfl)
          have h6 := hd 6 (by decide) (by kernel_rfl)
          change (newsF lv (secCells s.data.toList ++ [Value.int .i64 i])).p (g 6) W at h6
          with_reducible refine OpGives.pre_reads [(38, 4), (40, 6)] 44 ?_ ?_ ?_
          · rfl
          · kernel_rfl
          simp only [List.map_cons, List.map_nil]
          obtain ⟨v, W', hr, hR, hp⟩ := append_loose hsl hr.1 hn hSW hAW h6 71; rw [← h4] at hr; exact OpGives.val (v := v) (w' := W') (exec_append _ _ _ rfl hr) ⟨hR, trivial, hp⟩
        case hS => exact fun a c h k => Mod.trans h k (fun _ e => .inl e)
        case hA => exact fun a c h k => ownsRow_mod h (Mod.of_below (F := fun _ => False) k) (fun _ _ => id)
        case hR => exact fun a c h => Mod.of_below h
        case hpd => exact fun v a c ⟨x, cp, e, ho, hx⟩ k => ⟨x, cp, e, ownsRow_mod ho (Mod.of_below (F := fun _ => False) k) (fun _ _ => id), hx⟩
        case h0 => exact ⟨Mod.drew (Mod.refl _ _), ownsRow_mod HA3.out (Mod.drew (Mod.refl (fun _ => False) _)) (fun _ _ => id)⟩
        case fin =>
          intro v W hSW hf hpd
          have h0 : v 0 = _ := hf 0 (Nat.lt_of_lt_of_eq (by decide : 0 < 8) rfl)
          have h7 := hpd (Nat.lt_of_lt_of_eq (by decide : 7 < 8) rfl)
          clear hf hpd
          generalize hF : Ord.pre _ _ v _ = F
          rw [Ord.pre_lit [some 34, some 35, some 36, some 37, some 38, some 39, some 40, some 41]
            (by kernel_rfl)] at hF
          simp only [Ord.puts, Nat.zero_add, Nat.reduceAdd] at hF
          subst hF
          rw [h0]
          refine any_one (i := 8) (by kernel_rfl) (wpOp_value (v := .pointer (some ⟨b, 0, none⟩)) (w' := W) rfl rfl (by go_simp) ?_)
          refine any_one (i := 9) (by kernel_rfl) (wpOp_value (v := .pointer (some ⟨b, 1, none⟩)) (w' := W) rfl rfl (by go_simp) ?_)
          have hcW := HB3.out W hSW
          have c1 := hcW.cells.2.1
          have f1 := hcW.free 1
          obtain ⟨x7, c7, e7, h7'⟩ := h7
          have h7 : Appended w3 lv D (i.toNat, s.data.toList) (v 7) W := ⟨x7, c7, e7, h7'⟩
          have hdone := DrumAt.written H.out HC1.out HM1.out HN3.out hSW h7 ⟨hsl, by omega⟩
          have HD := Lib.hid hdone
          rw [e7] at HD ⊢
          clear hdone hcW h7 h7' e7
          refine any_one (i := 10) (by kernel_rfl) (wpOp_skip (w' := W.setCell ⟨b, 1, none⟩ (.slice (some ⟨x7, 0, none⟩) (D.loose.length + 1) c7)) rfl rfl (by go_simp) ?_)
          refine wpAny_done (by kernel_rfl) ?_ _
          simp only [List.getElem_toArray, List.getElem_cons_succ, List.getElem_cons_zero]
          go_frame
          go_wp2_with fail
          go_ret
          exact HD.out
      · rw [if_neg hb0]
        have hb0' : (burns D.armed D.left D.down).1 ≠ 0 := hb0
        have hbd : ((burns D.armed D.left D.down).1 == 0) = false := by simpa using hb0'
        go_enter Try.func24, Try.ntmps24
        go_wp2_with fail
        refine CM.out.mono ?_
        rintro e w' ⟨rfl, rfl⟩
        go_wp2_with fail
        refine CH.out.mono ?_
        rintro e w' ⟨rfl, rfl⟩
        go_wp2_with fail
        refine CB.out.mono ?_
        rintro e w1 ⟨rfl, hc1, hm1⟩
        have HD := Lib.hid (show Did w b sb cap lv D.burn (.returned (.int .i64 (burns D.armed D.left D.down).1)) w1 from ⟨lv, rfl, H.out.burnt hc1 hm1, fun _ h => .inl h, hm1.mono (fun _ e => .inl e)⟩)
        clear hc1 hm1
        go_wp2
        go_ret
        exact HD.out
    · have hw : D.write i s.data.toList = (2, D) := by unfold DS.write; rw [if_pos (.inr (.inr (by simpa using h64)))]
      rw [hw]
      have h64i : (s.size : Int) ≠ 64 := by omega
      clear hw h ch cm c0 hr
      go_enter Try.func24, Try.ntmps24
      go_wp2_with fail
      refine CM.out.mono ?_
      rintro e w' ⟨rfl, rfl⟩
      go_wp2_with fail
      refine CH.out.mono ?_
      rintro e w' ⟨rfl, rfl⟩
      go_wp2_with fail
      go_ret
      exact Did.same H.out 2
  · rw [decide_eq_false hr] at ch
    have CH := Lib.hid ch
    have hw : D.write i s.data.toList = (2, D) := by unfold DS.write; rw [if_pos (by omega)]
    rw [hw]
    clear hw h ch cm c0 hr
    go_enter Try.func24, Try.ntmps24
    go_wp2_with fail
    refine CM.out.mono ?_
    rintro e w' ⟨rfl, rfl⟩
    go_wp2_with fail
    refine CH.out.mono ?_
    rintro e w' ⟨rfl, rfl⟩
    go_wp2_with fail
    go_ret
    exact Did.same H.out 2
end Go.Proofs.Ytjnbdikhajnciaa.Drum
