/- (*reader).bytes. -/
import Derived.Test.YtjelpapcboiimaaUE
import Derived.Test.YtjelpapcboiimaaRh
import Derived.Maps.RangeWalk
import Derived.Laws.Strings2
namespace Go.Proofs.Ytjelpapcboiimaa.PCellPuts
open Go.RowKit Go.Proofs.Ytjelpapcboiimaa.Ord Go.Proofs.YtjelpapcboiimaaW.PrintWords Go.Proofs.YtjelpapcboiimaaW.PrintLast Go.Proofs.YtjelpapcboiimaaW.PrintMore
set_option linter.unusedVariables false
set_option linter.unusedSimpArgs false
attribute [local irreducible] OpGives
attribute [local go_sem] rdl_const rdl_func rdl_global rdl_nil rdl_cons

/-- From w to w' nothing that was there has turned but block b. -/
structure ModB (b : Nat) (w w' : World) : Prop where
  os : w'.os = w.os
  tape : w'.tape = w.tape
  output : w'.output = w.output
  size : w.heap.size ≤ w'.heap.size
  block : ∀ k, k < w.heap.size → k ≠ b → w'.heap[k]? = w.heap[k]?
theorem ModB.refl (b : Nat) (w : World) : ModB b w w := ⟨rfl, rfl, rfl, Nat.le_refl _, fun _ _ _ => rfl⟩
theorem ModB.trans {b : Nat} {w w1 w2 : World} (h : ModB b w w1) (k : ModB b w1 w2) : ModB b w w2 :=
  ⟨k.os.trans h.os, k.tape.trans h.tape, k.output.trans h.output, Nat.le_trans h.size k.size, fun i hi hb => (k.block i (Nat.lt_of_lt_of_le hi h.size) hb).trans (h.block i hi hb)⟩
theorem ModB.of_below {b : Nat} {w w' : World} (h : Below w.heap.size w w') : ModB b w w' := ⟨h.os, h.tape, h.output, h.size, fun k hk _ => h.block k hk⟩
theorem ModB.below {b B : Nat} {w w' : World} (h : ModB b w w') (hB : B ≤ w.heap.size) (hb : B ≤ b) : Below B w w' := ⟨h.os, h.tape, h.output, h.size, fun k hk => h.block k (by omega) (by omega)⟩
theorem ModB.setCell (b : Nat) (w : World) (j : Nat) (v : Value) : ModB b w (w.setCell ⟨b, j, none⟩ v) :=
  ⟨rfl, rfl, rfl, by simp [World.setCell], fun k _ hb => Below.heap_setCell _ _ _ _ hb⟩
theorem ModB.drewN {b : Nat} {w w' : World} (h : ModB b w w') (n : Nat) : ModB b w (w'.drewN n) := ⟨h.os, h.tape, h.output, h.size, h.block⟩
theorem ModB.drew {b : Nat} {w w' : World} (h : ModB b w w') : ModB b w w'.drew := ⟨h.os, h.tape, h.output, h.size, h.block⟩
/-- A reader over s that stands at 'at'. -/
def RdAt (b : Nat) (s : ByteArray) (p : Nat) (w : World) : Prop := w.heap[b]? = some (.cells #[.string s, .int .i64 (p : Int)] 68 (0, 0))
theorem wpOp_panics {P : Program} {ops : Array Oper} {Q : Exit → Act → World → Prop} {i : Nat} {o : Oper} {K : Act → World → Prop} {a : Act} {w w' : World} {f : FuncId} {args : Array Value} (hi : ops[i]? = some o) (hg : o.guard = none)
    (hrun : (execOp a.eval o).run P w = .ok (.enter f args) w') (h : Calls P f args w' fun e w'' => ∃ ch, e = .panicked ch ∧ Q (.panic ch) a w'') : wpOp P ops Q i K a w := by
  unfold wpOp; rw [hi]; simp only [Region.wanted, hg, if_true]
  refine .inl ?_
  unfold Oper.wp; rw [hrun]
  exact h.mono fun e w'' ⟨v, he, hk⟩ => by subst he; exact hk
theorem RdAt.kept {b : Nat} {s : ByteArray} {p : Nat} {w w' : World} (h : RdAt b s p w) (hb : Below w.heap.size w w') : RdAt b s p w' :=
  (hb.block b (Array.getElem?_eq_some_iff.1 h).1).trans h

set_option maxHeartbeats 8000000 in
set_option maxRecDepth 100000 in
theorem bytes_ok (b : Nat) (s : ByteArray) (p n : Nat) (w : World) (h : RdAt b s p w) (hs : s.size ≤ 140737488355328) (hp : p + n ≤ s.size) :
    Calls Try.prog 36 #[.pointer (some ⟨b, 0, none⟩), .int .i64 (n : Int)] w fun e w' => e = .returned (.string (s.extract p (p + n))) ∧ RdAt b s (p + n) w' ∧ ModB b w w' := by
  have c0 : w.cell? ⟨b, 0, none⟩ = some (.string s) := by rw [Lib.cell_of_heap h]; rfl
  have c1 : w.cell? ⟨b, 1, none⟩ = some (.int .i64 (p : Int)) := by rw [Lib.cell_of_heap h]; rfl
  have f1 : w.frozen? ⟨b, 1, none⟩ = false := Lib.frozen_of_heap h 1
  have hge : (n : Int) ≤ (s.size : Int) - (p : Int) := by omega
  have H := Lib.hid h
  clear h
  go_enter Try.func36, Try.ntmps36
  go_wp2_with fail
  refine' wp_region_factsT (S := (fun W => W = w.drew)) (R := (fun a b => a = b)) [eqF _ _, eqF _ _, eqF _ _, eqF _ (.string s), eqF _ _, eqF _ _, eqF _ _, eqF _ _, eqF _ (.int .i64 (p : Int)), eqF _ (.int .i64 ((s.size : Int) - (p : Int))), eqF _ _, eqF _ (.bool true), eqF _ _, eqF _ _, eqF _ _, eqF _ (.string s), eqF _ _] (by kernel_rfl) (by kernel_rfl) ?hS ?h0 (Ord.steps_cons ?s0 (Ord.steps_cons ?s1 (Ord.steps_cons ?s2 (Ord.steps_cons ?s3 (Ord.steps_cons ?s4 (Ord.steps_cons ?s5 (Ord.steps_cons ?s6 (Ord.steps_cons ?s7 (Ord.steps_cons ?s8 (Ord.steps_cons ?s9 (Ord.steps_cons ?s10 (Ord.steps_cons ?s11 (Ord.steps_cons ?s12 (Ord.steps_cons ?s13 (Ord.steps_cons ?s14 (Ord.steps_cons ?s15 (Ord.steps_cons ?s16 (Ord.steps_nil)))))))))))))))))) ?fin
  case s0 =>
    intro g W hSW hd
    try simp only [Nat.zero_add, Nat.reduceAdd] at hd ⊢
    with_reducible refine OpGives.pre_reads [] 46 ?_ ?_ ?_
    · rfl
    · kernel_rfl
    simp only [List.map_cons, List.map_nil]
    refine OpGives.val (w' := W) ?_ ⟨rfl, rfl⟩
    go_simp
    try with_reducible rfl
  case s1 =>
    intro g W hSW hd
    try simp only [Nat.zero_add, Nat.reduceAdd] at hd ⊢
    have h0 : g 0 = _ := hd 0 (by decide) (by kernel_rfl)
    with_reducible refine OpGives.pre_reads [(5, 0)] 46 ?_ ?_ ?_
    · rfl
    · kernel_rfl
    simp only [List.map_cons, List.map_nil]
    refine OpGives.val (w' := W) ?_ ⟨rfl, rfl⟩
    go_simp
    try with_reducible rfl
  case s2 =>
    intro g W hSW hd
    try simp only [Nat.zero_add, Nat.reduceAdd] at hd ⊢
    have h1 : g 1 = _ := hd 1 (by decide) (by kernel_rfl)
    with_reducible refine OpGives.pre_reads [(6, 1)] 46 ?_ ?_ ?_
    · rfl
    · kernel_rfl
    simp only [List.map_cons, List.map_nil]
    refine OpGives.val (w' := W) ?_ ⟨rfl, rfl⟩
    go_simp
    try with_reducible rfl
  case s3 =>
    intro g W hSW hd
    try simp only [Nat.zero_add, Nat.reduceAdd] at hd ⊢
    have h2 : g 2 = _ := hd 2 (by decide) (by kernel_rfl)
    with_reducible refine OpGives.pre_reads [(7, 2)] 46 ?_ ?_ ?_
    · rfl
    · kernel_rfl
    simp only [List.map_cons, List.map_nil]
    subst hSW; refine OpGives.val (v := .string s) (w' := w.drew) ?_ ⟨rfl, rfl⟩; go_simp
  case s4 =>
    intro g W hSW hd
    try simp only [Nat.zero_add, Nat.reduceAdd] at hd ⊢
    have h3 : g 3 = _ := hd 3 (by decide) (by kernel_rfl)
    with_reducible refine OpGives.pre_reads [(8, 3)] 46 ?_ ?_ ?_
    · rfl
    · kernel_rfl
    simp only [List.map_cons, List.map_nil]
    refine OpGives.val (w' := W) ?_ ⟨rfl, rfl⟩
    go_simp
    try with_reducible rfl
  case s5 =>
    intro g W hSW hd
    try simp only [Nat.zero_add, Nat.reduceAdd] at hd ⊢
    with_reducible refine OpGives.pre_reads [] 46 ?_ ?_ ?_
    · rfl
    · kernel_rfl
    simp only [List.map_cons, List.map_nil]
    refine OpGives.val (w' := W) ?_ ⟨rfl, rfl⟩
    go_simp
    try with_reducible rfl
  case s6 =>
    intro g W hSW hd
    try simp only [Nat.zero_add, Nat.reduceAdd] at hd ⊢
    have h5 : g 5 = _ := hd 5 (by decide) (by kernel_rfl)
    with_reducible refine OpGives.pre_reads [(10, 5)] 46 ?_ ?_ ?_
    · rfl
    · kernel_rfl
    simp only [List.map_cons, List.map_nil]
    refine OpGives.val (w' := W) ?_ ⟨rfl, rfl⟩
    go_simp
    try with_reducible rfl
  case s7 =>
    intro g W hSW hd
    try simp only [Nat.zero_add, Nat.reduceAdd] at hd ⊢
    have h6 : g 6 = _ := hd 6 (by decide) (by kernel_rfl)
    with_reducible refine OpGives.pre_reads [(11, 6)] 46 ?_ ?_ ?_
    · rfl
    · kernel_rfl
    simp only [List.map_cons, List.map_nil]
    refine OpGives.val (w' := W) ?_ ⟨rfl, rfl⟩
    go_simp
    try with_reducible rfl
  case s8 =>
    intro g W hSW hd
    try simp only [Nat.zero_add, Nat.reduceAdd] at hd ⊢
    have h7 : g 7 = _ := hd 7 (by decide) (by kernel_rfl)
    with_reducible refine OpGives.pre_reads [(12, 7)] 46 ?_ ?_ ?_
    · rfl
    · kernel_rfl
    simp only [List.map_cons, List.map_nil]
    subst hSW; refine OpGives.val (v := .int .i64 (p : Int)) (w' := w.drew) ?_ ⟨rfl, rfl⟩; go_simp
  case s9 =>
    intro g W hSW hd
    try simp only [Nat.zero_add, Nat.reduceAdd] at hd ⊢
    have h4 : g 4 = _ := hd 4 (by decide) (by kernel_rfl)
    have h8 : g 8 = _ := hd 8 (by decide) (by kernel_rfl)
    with_reducible refine OpGives.pre_reads [(9, 4), (13, 8)] 46 ?_ ?_ ?_
    · rfl
    · kernel_rfl
    simp only [List.map_cons, List.map_nil]
    subst hSW; refine OpGives.val (v := .int .i64 ((s.size : Int) - (p : Int))) (w' := w.drew) ?_ ⟨rfl, rfl⟩; go_simp; rw [IntKind.wrap_i64]; omega
  case s10 =>
    intro g W hSW hd
    try simp only [Nat.zero_add, Nat.reduceAdd] at hd ⊢
    with_reducible refine OpGives.pre_reads [] 46 ?_ ?_ ?_
    · rfl
    · kernel_rfl
    simp only [List.map_cons, List.map_nil]
    refine OpGives.val (w' := W) ?_ ⟨rfl, rfl⟩
    go_simp
    try with_reducible rfl
  case s11 =>
    intro g W hSW hd
    try simp only [Nat.zero_add, Nat.reduceAdd] at hd ⊢
    have h9 : g 9 = _ := hd 9 (by decide) (by kernel_rfl)
    have h10 : g 10 = _ := hd 10 (by decide) (by kernel_rfl)
    with_reducible refine OpGives.pre_reads [(14, 9), (15, 10)] 46 ?_ ?_ ?_
    · rfl
    · kernel_rfl
    simp only [List.map_cons, List.map_nil]
    subst hSW; refine OpGives.val (v := .bool true) (w' := w.drew) ?_ ⟨rfl, rfl⟩; go_simp
  case s12 =>
    intro g W hSW hd
    try simp only [Nat.zero_add, Nat.reduceAdd] at hd ⊢
    with_reducible refine OpGives.pre_reads [] 46 ?_ ?_ ?_
    · rfl
    · kernel_rfl
    simp only [List.map_cons, List.map_nil]
    refine OpGives.val (w' := W) ?_ ⟨rfl, rfl⟩
    go_simp
    try with_reducible rfl
  case s13 =>
    intro g W hSW hd
    try simp only [Nat.zero_add, Nat.reduceAdd] at hd ⊢
    have h12 : g 12 = _ := hd 12 (by decide) (by kernel_rfl)
    with_reducible refine OpGives.pre_reads [(17, 12)] 46 ?_ ?_ ?_
    · rfl
    · kernel_rfl
    simp only [List.map_cons, List.map_nil]
    refine OpGives.val (w' := W) ?_ ⟨rfl, rfl⟩
    go_simp
    try with_reducible rfl
  case s14 =>
    intro g W hSW hd
    try simp only [Nat.zero_add, Nat.reduceAdd] at hd ⊢
    have h13 : g 13 = _ := hd 13 (by decide) (by kernel_rfl)
    with_reducible refine OpGives.pre_reads [(18, 13)] 46 ?_ ?_ ?_
    · rfl
    · kernel_rfl
    simp only [List.map_cons, List.map_nil]
    refine OpGives.val (w' := W) ?_ ⟨rfl, rfl⟩
    go_simp
    try with_reducible rfl
  case s15 =>
    intro g W hSW hd
    try simp only [Nat.zero_add, Nat.reduceAdd] at hd ⊢
    have h14 : g 14 = _ := hd 14 (by decide) (by kernel_rfl)
    with_reducible refine OpGives.pre_reads [(19, 14)] 46 ?_ ?_ ?_
    · rfl
    · kernel_rfl
    simp only [List.map_cons, List.map_nil]
    subst hSW; refine OpGives.val (v := .string s) (w' := w.drew) ?_ ⟨rfl, rfl⟩; go_simp
  case s16 =>
    intro g W hSW hd
    try simp only [Nat.zero_add, Nat.reduceAdd] at hd ⊢
    have h15 : g 15 = _ := hd 15 (by decide) (by kernel_rfl)
    with_reducible refine OpGives.pre_reads [(20, 15)] 46 ?_ ?_ ?_
    · rfl
    · kernel_rfl
    simp only [List.map_cons, List.map_nil]
    refine OpGives.val (w' := W) ?_ ⟨rfl, rfl⟩
    go_simp
    try with_reducible rfl
  case hS => rintro a c h rfl; exact h
  case h0 => rfl
  case fin =>
    intro v W hSW hf
    subst hSW
    have h11 : v 11 = _ := hf 11 (Nat.lt_of_lt_of_eq (by decide : 11 < 17) rfl)
    have h16 : v 16 = _ := hf 16 (Nat.lt_of_lt_of_eq (by decide : 16 < 17) rfl)
    clear hf
    generalize hF : Ord.pre _ _ v _ = F
    rw [Ord.pre_lit [some 5, some 6, some 7, some 8, some 9, some 10, some 11, some 12, some 13, some 14, some 15, some 16, some 17, some 18, some 19, some 20, some 21]
      (by kernel_rfl)] at hF
    simp only [Ord.puts, Nat.zero_add, Nat.reduceAdd] at hF
    subst hF
    rw [h11, h16]
    clear h11 h16
    refine any_one (i := 17) (by kernel_rfl) ?_
    refine wpOp_call (f := 38) (args := #[.bool true, .int .i64 (s.size : Int), .int .i64 3]) (w' := w.drew) rfl rfl (by go_simp) ((need_ok _ _ _).mono fun e w'' he => ⟨_, he.1, ?_⟩)
    rw [he.2]
    clear he
    refine wpAny_done (by kernel_rfl) ?_ _
    try simp only [List.getElem_toArray, List.getElem_cons_succ, List.getElem_cons_zero]
    go_frame
    have hst : RdAt b s (p + n) (w.drew.setCell ⟨b, 1, none⟩ (.int .i64 ((p : Int) + (n : Int)))) := by
      have h1 : w.drew.heap[b]? = some (.cells #[.string s, .int .i64 (p : Int)] 68 (0, 0)) := H.out
      unfold RdAt
      rw [heap_setCell_same _ _ _ _ _ _ h1]
      simp
    have hm : ModB b w (w.drew.setCell ⟨b, 1, none⟩ (.int .i64 ((p : Int) + (n : Int)))) := (ModB.refl b w).drew.trans (ModB.setCell b _ 1 _)
    have HS := Lib.hid hst
    have HM := Lib.hid hm
    clear hst hm
    go_wp2_with fail
    obtain ⟨W1, hW1⟩ : ∃ W1, W1 = (w.setCell ⟨b, 1, none⟩ (.int .i64 ((p : Int) + (n : Int)))).drew := ⟨_, rfl⟩
    rw [← hW1]
    have hs1 : RdAt b s (p + n) W1 := by rw [hW1]; exact HS.out
    have hm1 : ModB b w W1 := by rw [hW1]; exact HM.out
    clear HS HM hW1 c0 c1 f1
    have c0 : W1.cell? ⟨b, 0, none⟩ = some (.string s) := by rw [Lib.cell_of_heap hs1]; rfl
    have c1 : W1.cell? ⟨b, 1, none⟩ = some (.int .i64 ((p : Int) + (n : Int))) := by rw [Lib.cell_of_heap hs1]; simp
    have HS := Lib.hid hs1
    have HM := Lib.hid hm1
    clear hs1 hm1
    refine' wp_region_factsT (S := (fun W => W = W1.drew)) (R := (fun a b => a = b)) [eqF _ _, eqF _ _, eqF _ _, eqF _ (.string s), eqF _ _, eqF _ _, eqF _ _, eqF _ (.int .i64 ((p : Int) + (n : Int))), eqF _ _, eqF _ (.int .i64 (p : Int)), eqF _ _, eqF _ _, eqF _ _, eqF _ (.int .i64 ((p : Int) + (n : Int))), eqF _ (.string (s.extract p (p + n)))] (by kernel_rfl) (by kernel_rfl) ?hS ?h0 (Ord.steps_cons ?s0 (Ord.steps_cons ?s1 (Ord.steps_cons ?s2 (Ord.steps_cons ?s3 (Ord.steps_cons ?s4 (Ord.steps_cons ?s5 (Ord.steps_cons ?s6 (Ord.steps_cons ?s7 (Ord.steps_cons ?s8 (Ord.steps_cons ?s9 (Ord.steps_cons ?s10 (Ord.steps_cons ?s11 (Ord.steps_cons ?s12 (Ord.steps_cons ?s13 (Ord.steps_cons ?s14 (Ord.steps_nil)))))))))))))))) ?fin
    case s0 =>
      intro g W hSW hd
      try simp only [Nat.zero_add, Nat.reduceAdd] at hd ⊢
      with_reducible refine OpGives.pre_reads [] 46 ?_ ?_ ?_
      · rfl
      · kernel_rfl
      simp only [List.map_cons, List.map_nil]
      refine OpGives.val (w' := W) ?_ ⟨rfl, rfl⟩
      go_simp
      try with_reducible rfl
    case s1 =>
      intro g W hSW hd
      try simp only [Nat.zero_add, Nat.reduceAdd] at hd ⊢
      have h0 : g 0 = _ := hd 0 (by decide) (by kernel_rfl)
      with_reducible refine OpGives.pre_reads [(31, 0)] 46 ?_ ?_ ?_
      · rfl
      · kernel_rfl
      simp only [List.map_cons, List.map_nil]
      refine OpGives.val (w' := W) ?_ ⟨rfl, rfl⟩
      go_simp
      try with_reducible rfl
    case s2 =>
      intro g W hSW hd
      try simp only [Nat.zero_add, Nat.reduceAdd] at hd ⊢
      have h1 : g 1 = _ := hd 1 (by decide) (by kernel_rfl)
      with_reducible refine OpGives.pre_reads [(32, 1)] 46 ?_ ?_ ?_
      · rfl
      · kernel_rfl
      simp only [List.map_cons, List.map_nil]
      refine OpGives.val (w' := W) ?_ ⟨rfl, rfl⟩
      go_simp
      try with_reducible rfl
    case s3 =>
      intro g W hSW hd
      try simp only [Nat.zero_add, Nat.reduceAdd] at hd ⊢
      have h2 : g 2 = _ := hd 2 (by decide) (by kernel_rfl)
      with_reducible refine OpGives.pre_reads [(33, 2)] 46 ?_ ?_ ?_
      · rfl
      · kernel_rfl
      simp only [List.map_cons, List.map_nil]
      subst hSW; refine OpGives.val (v := .string s) (w' := W1.drew) ?_ ⟨rfl, rfl⟩; go_simp
    case s4 =>
      intro g W hSW hd
      try simp only [Nat.zero_add, Nat.reduceAdd] at hd ⊢
      with_reducible refine OpGives.pre_reads [] 46 ?_ ?_ ?_
      · rfl
      · kernel_rfl
      simp only [List.map_cons, List.map_nil]
      refine OpGives.val (w' := W) ?_ ⟨rfl, rfl⟩
      go_simp
      try with_reducible rfl
    case s5 =>
      intro g W hSW hd
      try simp only [Nat.zero_add, Nat.reduceAdd] at hd ⊢
      have h4 : g 4 = _ := hd 4 (by decide) (by kernel_rfl)
      with_reducible refine OpGives.pre_reads [(35, 4)] 46 ?_ ?_ ?_
      · rfl
      · kernel_rfl
      simp only [List.map_cons, List.map_nil]
      refine OpGives.val (w' := W) ?_ ⟨rfl, rfl⟩
      go_simp
      try with_reducible rfl
    case s6 =>
      intro g W hSW hd
      try simp only [Nat.zero_add, Nat.reduceAdd] at hd ⊢
      have h5 : g 5 = _ := hd 5 (by decide) (by kernel_rfl)
      with_reducible refine OpGives.pre_reads [(36, 5)] 46 ?_ ?_ ?_
      · rfl
      · kernel_rfl
      simp only [List.map_cons, List.map_nil]
      refine OpGives.val (w' := W) ?_ ⟨rfl, rfl⟩
      go_simp
      try with_reducible rfl
    case s7 =>
      intro g W hSW hd
      try simp only [Nat.zero_add, Nat.reduceAdd] at hd ⊢
      have h6 : g 6 = _ := hd 6 (by decide) (by kernel_rfl)
      with_reducible refine OpGives.pre_reads [(37, 6)] 46 ?_ ?_ ?_
      · rfl
      · kernel_rfl
      simp only [List.map_cons, List.map_nil]
      subst hSW; refine OpGives.val (v := .int .i64 ((p : Int) + (n : Int))) (w' := W1.drew) ?_ ⟨rfl, rfl⟩; go_simp
    case s8 =>
      intro g W hSW hd
      try simp only [Nat.zero_add, Nat.reduceAdd] at hd ⊢
      with_reducible refine OpGives.pre_reads [] 46 ?_ ?_ ?_
      · rfl
      · kernel_rfl
      simp only [List.map_cons, List.map_nil]
      refine OpGives.val (w' := W) ?_ ⟨rfl, rfl⟩
      go_simp
      try with_reducible rfl
    case s9 =>
      intro g W hSW hd
      try simp only [Nat.zero_add, Nat.reduceAdd] at hd ⊢
      have h7 : g 7 = _ := hd 7 (by decide) (by kernel_rfl)
      have h8 : g 8 = _ := hd 8 (by decide) (by kernel_rfl)
      with_reducible refine OpGives.pre_reads [(38, 7), (39, 8)] 46 ?_ ?_ ?_
      · rfl
      · kernel_rfl
      simp only [List.map_cons, List.map_nil]
      subst hSW; refine OpGives.val (v := .int .i64 (p : Int)) (w' := W1.drew) ?_ ⟨rfl, rfl⟩; go_simp; rw [IntKind.wrap_i64]; omega
    case s10 =>
      intro g W hSW hd
      try simp only [Nat.zero_add, Nat.reduceAdd] at hd ⊢
      with_reducible refine OpGives.pre_reads [] 46 ?_ ?_ ?_
      · rfl
      · kernel_rfl
      simp only [List.map_cons, List.map_nil]
      refine OpGives.val (w' := W) ?_ ⟨rfl, rfl⟩
      go_simp
      try with_reducible rfl
    case s11 =>
      intro g W hSW hd
      try simp only [Nat.zero_add, Nat.reduceAdd] at hd ⊢
      have h10 : g 10 = _ := hd 10 (by decide) (by kernel_rfl)
      with_reducible refine OpGives.pre_reads [(41, 10)] 46 ?_ ?_ ?_
      · rfl
      · kernel_rfl
      simp only [List.map_cons, List.map_nil]
      refine OpGives.val (w' := W) ?_ ⟨rfl, rfl⟩
      go_simp
      try with_reducible rfl
    case s12 =>
      intro g W hSW hd
      try simp only [Nat.zero_add, Nat.reduceAdd] at hd ⊢
      have h11 : g 11 = _ := hd 11 (by decide) (by kernel_rfl)
      with_reducible refine OpGives.pre_reads [(42, 11)] 46 ?_ ?_ ?_
      · rfl
      · kernel_rfl
      simp only [List.map_cons, List.map_nil]
      refine OpGives.val (w' := W) ?_ ⟨rfl, rfl⟩
      go_simp
      try with_reducible rfl
    case s13 =>
      intro g W hSW hd
      try simp only [Nat.zero_add, Nat.reduceAdd] at hd ⊢
      have h12 : g 12 = _ := hd 12 (by decide) (by kernel_rfl)
      with_reducible refine OpGives.pre_reads [(43, 12)] 46 ?_ ?_ ?_
      · rfl
      · kernel_rfl
      simp only [List.map_cons, List.map_nil]
      subst hSW; refine OpGives.val (v := .int .i64 ((p : Int) + (n : Int))) (w' := W1.drew) ?_ ⟨rfl, rfl⟩; go_simp
    case s14 =>
      intro g W hSW hd
      try simp only [Nat.zero_add, Nat.reduceAdd] at hd ⊢
      have h3 : g 3 = _ := hd 3 (by decide) (by kernel_rfl)
      have h9 : g 9 = _ := hd 9 (by decide) (by kernel_rfl)
      have h13 : g 13 = _ := hd 13 (by decide) (by kernel_rfl)
      with_reducible refine OpGives.pre_reads [(34, 3), (40, 9), (44, 13)] 46 ?_ ?_ ?_
      · rfl
      · kernel_rfl
      simp only [List.map_cons, List.map_nil]
      subst hSW; refine OpGives.val (v := .string (s.extract p (p + n))) (w' := W1.drew) ?_ ⟨rfl, rfl⟩; go_simp; rw [run_slice_string _ _ _ _ _ _ _ Try.underlying9 (by omega) (by omega) (by omega)]; rw [Int.toNat_natCast, show ((p : Int) + (n : Int)).toNat = p + n by omega]; rfl
    case hS => rintro a c h rfl; exact h
    case h0 => rfl
    case fin =>
      intro v W hSW hf
      subst hSW
      have h14 : v 14 = _ := hf 14 (Nat.lt_of_lt_of_eq (by decide : 14 < 15) rfl)
      clear hf
      generalize hF : Ord.pre _ _ v _ = F
      rw [Ord.pre_lit [some 31, some 32, some 33, some 34, some 35, some 36, some 37, some 38, some 39, some 40, some 41, some 42, some 43, some 44, some 45]
        (by kernel_rfl)] at hF
      simp only [Ord.puts, Nat.zero_add, Nat.reduceAdd] at hF
      subst hF
      rw [h14]
      clear h14
      refine any_one (i := 15) (by kernel_rfl) ?_
      refine wpOp_value (v := .string (s.extract p (p + n))) (w' := W1.drew) rfl rfl (by go_simp) ?_
      refine wpAny_done (by kernel_rfl) ?_ _
      try simp only [List.getElem_toArray, List.getElem_cons_succ, List.getElem_cons_zero]
      go_frame
      go_wp2_with fail
      go_ret
      exact ⟨rfl, HS.out, HM.out.drew⟩

set_option maxHeartbeats 8000000 in
set_option maxRecDepth 100000 in
theorem bytes_no (b : Nat) (s : ByteArray) (p n : Nat) (w : World) (h : RdAt b s p w) (hs : s.size ≤ 140737488355328) (hp : p ≤ s.size) (hn : s.size < p + n) (hnn : n ≤ 9223372036854775807) :
    Calls Try.prog 36 #[.pointer (some ⟨b, 0, none⟩), .int .i64 (n : Int)] w fun e w' => e = .panicked (wrongP s.size 3) ∧ RdAt b s p w' ∧ ModB b w w' := by
  have c0 : w.cell? ⟨b, 0, none⟩ = some (.string s) := by rw [Lib.cell_of_heap h]; rfl
  have c1 : w.cell? ⟨b, 1, none⟩ = some (.int .i64 (p : Int)) := by rw [Lib.cell_of_heap h]; rfl
  have hge : ¬ (n : Int) ≤ (s.size : Int) - (p : Int) := by omega
  have H := Lib.hid h
  clear h
  go_enter Try.func36, Try.ntmps36
  go_wp2_with fail
  refine' wp_region_factsT (S := (fun W => W = w.drew)) (R := (fun a b => a = b)) [eqF _ _, eqF _ _, eqF _ _, eqF _ (.string s), eqF _ _, eqF _ _, eqF _ _, eqF _ _, eqF _ (.int .i64 (p : Int)), eqF _ (.int .i64 ((s.size : Int) - (p : Int))), eqF _ _, eqF _ (.bool false), eqF _ _, eqF _ _, eqF _ _, eqF _ (.string s), eqF _ _] (by kernel_rfl) (by kernel_rfl) ?hS ?h0 (Ord.steps_cons ?s0 (Ord.steps_cons ?s1 (Ord.steps_cons ?s2 (Ord.steps_cons ?s3 (Ord.steps_cons ?s4 (Ord.steps_cons ?s5 (Ord.steps_cons ?s6 (Ord.steps_cons ?s7 (Ord.steps_cons ?s8 (Ord.steps_cons ?s9 (Ord.steps_cons ?s10 (Ord.steps_cons ?s11 (Ord.steps_cons ?s12 (Ord.steps_cons ?s13 (Ord.steps_cons ?s14 (Ord.steps_cons ?s15 (Ord.steps_cons ?s16 (Ord.steps_nil)))))))))))))))))) ?fin
  case s0 =>
    intro g W hSW hd
    try simp only [Nat.zero_add, Nat.reduceAdd] at hd ⊢
    with_reducible refine OpGives.pre_reads [] 46 ?_ ?_ ?_
    · rfl
    · kernel_rfl
    simp only [List.map_cons, List.map_nil]
    refine OpGives.val (w' := W) ?_ ⟨rfl, rfl⟩
    go_simp
    try with_reducible rfl
  case s1 =>
    intro g W hSW hd
    try simp only [Nat.zero_add, Nat.reduceAdd] at hd ⊢
    have h0 : g 0 = _ := hd 0 (by decide) (by kernel_rfl)
    with_reducible refine OpGives.pre_reads [(5, 0)] 46 ?_ ?_ ?_
    · rfl
    · kernel_rfl
    simp only [List.map_cons, List.map_nil]
    refine OpGives.val (w' := W) ?_ ⟨rfl, rfl⟩
    go_simp
    try with_reducible rfl
  case s2 =>
    intro g W hSW hd
    try simp only [Nat.zero_add, Nat.reduceAdd] at hd ⊢
    have h1 : g 1 = _ := hd 1 (by decide) (by kernel_rfl)
    with_reducible refine OpGives.pre_reads [(6, 1)] 46 ?_ ?_ ?_
    · rfl
    · kernel_rfl
    simp only [List.map_cons, List.map_nil]
    refine OpGives.val (w' := W) ?_ ⟨rfl, rfl⟩
    go_simp
    try with_reducible rfl
  case s3 =>
    intro g W hSW hd
    try simp only [Nat.zero_add, Nat.reduceAdd] at hd ⊢
    have h2 : g 2 = _ := hd 2 (by decide) (by kernel_rfl)
    with_reducible refine OpGives.pre_reads [(7, 2)] 46 ?_ ?_ ?_
    · rfl
    · kernel_rfl
    simp only [List.map_cons, List.map_nil]
    subst hSW; refine OpGives.val (v := .string s) (w' := w.drew) ?_ ⟨rfl, rfl⟩; go_simp
  case s4 =>
    intro g W hSW hd
    try simp only [Nat.zero_add, Nat.reduceAdd] at hd ⊢
    have h3 : g 3 = _ := hd 3 (by decide) (by kernel_rfl)
    with_reducible refine OpGives.pre_reads [(8, 3)] 46 ?_ ?_ ?_
    · rfl
    · kernel_rfl
    simp only [List.map_cons, List.map_nil]
    refine OpGives.val (w' := W) ?_ ⟨rfl, rfl⟩
    go_simp
    try with_reducible rfl
  case s5 =>
    intro g W hSW hd
    try simp only [Nat.zero_add, Nat.reduceAdd] at hd ⊢
    with_reducible refine OpGives.pre_reads [] 46 ?_ ?_ ?_
    · rfl
    · kernel_rfl
    simp only [List.map_cons, List.map_nil]
    refine OpGives.val (w' := W) ?_ ⟨rfl, rfl⟩
    go_simp
    try with_reducible rfl
  case s6 =>
    intro g W hSW hd
    try simp only [Nat.zero_add, Nat.reduceAdd] at hd ⊢
    have h5 : g 5 = _ := hd 5 (by decide) (by kernel_rfl)
    with_reducible refine OpGives.pre_reads [(10, 5)] 46 ?_ ?_ ?_
    · rfl
    · kernel_rfl
    simp only [List.map_cons, List.map_nil]
    refine OpGives.val (w' := W) ?_ ⟨rfl, rfl⟩
    go_simp
    try with_reducible rfl
  case s7 =>
    intro g W hSW hd
    try simp only [Nat.zero_add, Nat.reduceAdd] at hd ⊢
    have h6 : g 6 = _ := hd 6 (by decide) (by kernel_rfl)
    with_reducible refine OpGives.pre_reads [(11, 6)] 46 ?_ ?_ ?_
    · rfl
    · kernel_rfl
    simp only [List.map_cons, List.map_nil]
    refine OpGives.val (w' := W) ?_ ⟨rfl, rfl⟩
    go_simp
    try with_reducible rfl
  case s8 =>
    intro g W hSW hd
    try simp only [Nat.zero_add, Nat.reduceAdd] at hd ⊢
    have h7 : g 7 = _ := hd 7 (by decide) (by kernel_rfl)
    with_reducible refine OpGives.pre_reads [(12, 7)] 46 ?_ ?_ ?_
    · rfl
    · kernel_rfl
    simp only [List.map_cons, List.map_nil]
    subst hSW; refine OpGives.val (v := .int .i64 (p : Int)) (w' := w.drew) ?_ ⟨rfl, rfl⟩; go_simp
  case s9 =>
    intro g W hSW hd
    try simp only [Nat.zero_add, Nat.reduceAdd] at hd ⊢
    have h4 : g 4 = _ := hd 4 (by decide) (by kernel_rfl)
    have h8 : g 8 = _ := hd 8 (by decide) (by kernel_rfl)
    with_reducible refine OpGives.pre_reads [(9, 4), (13, 8)] 46 ?_ ?_ ?_
    · rfl
    · kernel_rfl
    simp only [List.map_cons, List.map_nil]
    subst hSW; refine OpGives.val (v := .int .i64 ((s.size : Int) - (p : Int))) (w' := w.drew) ?_ ⟨rfl, rfl⟩; go_simp; rw [IntKind.wrap_i64]; omega
  case s10 =>
    intro g W hSW hd
    try simp only [Nat.zero_add, Nat.reduceAdd] at hd ⊢
    with_reducible refine OpGives.pre_reads [] 46 ?_ ?_ ?_
    · rfl
    · kernel_rfl
    simp only [List.map_cons, List.map_nil]
    refine OpGives.val (w' := W) ?_ ⟨rfl, rfl⟩
    go_simp
    try with_reducible rfl
  case s11 =>
    intro g W hSW hd
    try simp only [Nat.zero_add, Nat.reduceAdd] at hd ⊢
    have h9 : g 9 = _ := hd 9 (by decide) (by kernel_rfl)
    have h10 : g 10 = _ := hd 10 (by decide) (by kernel_rfl)
    with_reducible refine OpGives.pre_reads [(14, 9), (15, 10)] 46 ?_ ?_ ?_
    · rfl
    · kernel_rfl
    simp only [List.map_cons, List.map_nil]
    subst hSW; refine OpGives.val (v := .bool false) (w' := w.drew) ?_ ⟨rfl, rfl⟩; go_simp
  case s12 =>
    intro g W hSW hd
    try simp only [Nat.zero_add, Nat.reduceAdd] at hd ⊢
    with_reducible refine OpGives.pre_reads [] 46 ?_ ?_ ?_
    · rfl
    · kernel_rfl
    simp only [List.map_cons, List.map_nil]
    refine OpGives.val (w' := W) ?_ ⟨rfl, rfl⟩
    go_simp
    try with_reducible rfl
  case s13 =>
    intro g W hSW hd
    try simp only [Nat.zero_add, Nat.reduceAdd] at hd ⊢
    have h12 : g 12 = _ := hd 12 (by decide) (by kernel_rfl)
    with_reducible refine OpGives.pre_reads [(17, 12)] 46 ?_ ?_ ?_
    · rfl
    · kernel_rfl
    simp only [List.map_cons, List.map_nil]
    refine OpGives.val (w' := W) ?_ ⟨rfl, rfl⟩
    go_simp
    try with_reducible rfl
  case s14 =>
    intro g W hSW hd
    try simp only [Nat.zero_add, Nat.reduceAdd] at hd ⊢
    have h13 : g 13 = _ := hd 13 (by decide) (by kernel_rfl)
    with_reducible refine OpGives.pre_reads [(18, 13)] 46 ?_ ?_ ?_
    · rfl
    · kernel_rfl
    simp only [List.map_cons, List.map_nil]
    refine OpGives.val (w' := W) ?_ ⟨rfl, rfl⟩
    go_simp
    try with_reducible rfl
  case s15 =>
    intro g W hSW hd
    try simp only [Nat.zero_add, Nat.reduceAdd] at hd ⊢
    have h14 : g 14 = _ := hd 14 (by decide) (by kernel_rfl)
    with_reducible refine OpGives.pre_reads [(19, 14)] 46 ?_ ?_ ?_
    · rfl
    · kernel_rfl
    simp only [List.map_cons, List.map_nil]
    subst hSW; refine OpGives.val (v := .string s) (w' := w.drew) ?_ ⟨rfl, rfl⟩; go_simp
  case s16 =>
    intro g W hSW hd
    try simp only [Nat.zero_add, Nat.reduceAdd] at hd ⊢
    have h15 : g 15 = _ := hd 15 (by decide) (by kernel_rfl)
    with_reducible refine OpGives.pre_reads [(20, 15)] 46 ?_ ?_ ?_
    · rfl
    · kernel_rfl
    simp only [List.map_cons, List.map_nil]
    refine OpGives.val (w' := W) ?_ ⟨rfl, rfl⟩
    go_simp
    try with_reducible rfl
  case hS => rintro a c h rfl; exact h
  case h0 => rfl
  case fin =>
    intro v W hSW hf
    subst hSW
    have h11 : v 11 = _ := hf 11 (Nat.lt_of_lt_of_eq (by decide : 11 < 17) rfl)
    have h16 : v 16 = _ := hf 16 (Nat.lt_of_lt_of_eq (by decide : 16 < 17) rfl)
    clear hf
    generalize hF : Ord.pre _ _ v _ = F
    rw [Ord.pre_lit [some 5, some 6, some 7, some 8, some 9, some 10, some 11, some 12, some 13, some 14, some 15, some 16, some 17, some 18, some 19, some 20, some 21]
      (by kernel_rfl)] at hF
    simp only [Ord.puts, Nat.zero_add, Nat.reduceAdd] at hF
    subst hF
    rw [h11, h16]
    clear h11 h16
    refine any_one (i := 17) (by kernel_rfl) ?_
    refine wpOp_panics (f := 38) (args := #[.bool false, .int .i64 (s.size : Int), .int .i64 3]) (w' := w.drew) rfl rfl (by go_simp) ((need_no _ _ _).mono fun e w'' he => ⟨_, he.1, ?_⟩)
    rw [he.2]
    exact ⟨rfl, rfl, H.out, (ModB.refl b w).drew⟩
end Go.Proofs.Ytjelpapcboiimaa.PCellPuts
