/- The document's drum: Copy. -/
import Derived.Test.YtjnbdikhajnciaaFe
namespace Go.Proofs.Ytjnbdikhajnciaa.Drum
open Go.RowKit Go.Proofs.Ytjnbdikhajnciaa.Ord Go.Proofs.YtjnbdikhajnciaaW.PrintWords Go.Proofs.Ytjnbdikhajnciaa.Base
set_option linter.unusedVariables false
set_option linter.unusedSimpArgs false
attribute [local go_sem] rdl_const rdl_func rdl_global rdl_nil rdl_cons

/-- append([]E{}, s...): an empty slice that is not nil goes as nil does, where something is appended. -/
theorem append_cap0 {t E ty : TypeId} {i : TypeInfo} (ht : Try.prog.underlying t = some (.slice E)) (hi : Try.prog.info? E = some i) {x : Addr} {a : Option Addr} {m c : Nat} {v' : Value} {w w' : World} (hm : 0 < m) (hm2 : m ≤ 1000000)
    (hcap : ¬ 281474976710656 < Builtin.nextslicecap m 0 * i.bytes)
    (h : (Builtin.append_ #[t, t] ty #[.slice none 0 0, .slice a m c]).run Try.prog w = .ok v' w') : (Builtin.append_ #[t, t] ty #[.slice (some x) 0 0, .slice a m c]).run Try.prog w = .ok v' w' := by
  have hm' : m ≠ 0 := by omega
  have hb : ¬ (9223372036854775807 < (m : Int)) := by omega
  have hl : ∀ W, (loadCells x 0).run Try.prog W = .ok #[] W := fun _ => rfl
  simp [Builtin.append_, run_underlying ht, sizeOf, typeInfo, hi, Builtin.lenOf, hm', Builtin.firstCells, hb, hcap, hl] at h ⊢
  exact h
theorem append_none {t E ty : TypeId} {i : TypeInfo} (ht : Try.prog.underlying t = some (.slice E)) (hi : Try.prog.info? E = some i) {x : Addr} {a : Option Addr} {c : Nat} {w : World} :
    (Builtin.append_ #[t, t] ty #[.slice (some x) 0 0, .slice a 0 c]).run Try.prog w = .ok (.slice (some x) 0 0) w := by
  have hl : ∀ y W, (loadCells y 0).run Try.prog W = .ok #[] W := fun _ _ => rfl
  have hst : ∀ y W, (storeCells y []).run Try.prog W = .ok () W := fun _ _ => rfl
  cases a with
  | none => simp [Builtin.append_, run_underlying ht, sizeOf, typeInfo, hi, Builtin.lenOf, Builtin.firstCells, hst]
  | some a => simp [Builtin.append_, run_underlying ht, sizeOf, typeInfo, hi, Builtin.lenOf, Builtin.firstCells, hl, hst]
/-- An empty slice that is not nil. -/
def emptyN (base : Nat) (E : TypeId) : Fact NewMem := ⟨fun v W => ∃ x, v = .slice (some ⟨x, 0, none⟩) 0 0 ∧ W.heap[x]? = some (.cells #[] E (0, 0)) ∧ base ≤ x,
  fun v W W' ⟨x, e, hx, hb⟩ hn => ⟨x, e, (hn.block x (Array.getElem?_eq_some_iff.1 hx).1).trans hx, hb⟩⟩
/-- A slice of its own with the same cells. -/
def clonedN (base : Nat) (E : TypeId) (size n : Nat) (xs : List Value) : Fact NewMem :=
  ⟨fun v W => ∃ a cap, v = .slice a n cap ∧ W.ownsRow 0 E size (.slice a n cap) n xs ∧ (∀ k, (Value.slice a n cap).ownBlock = some k → base ≤ k),
   fun v W W' ⟨a, cap, e, ho, hk⟩ hn => ⟨a, cap, e, ownsRow_mod ho (Mod.of_below (F := fun _ => False) hn) (fun _ _ => id), hk⟩⟩
theorem clone_step {t E : TypeId} {z : Value} {size bytes : Nat} (ht : Try.prog.underlying t = some (.slice E)) (hi : (Try.prog.info? E).map (fun i => (i.zero, i.size, i.bytes)) = some (some z, size, bytes)) (hz : z.cells.size = size) (hs : 0 < size) (hb : bytes ≤ 1000)
    {base n : Nat} {xs : List Value} {v0 src : Value} {W : World} (h0 : (emptyN base E).p v0 W) (hsrc : W.ownsRow 0 E size src n xs) (h1 : ∀ u ∈ xs, u.oneCell' = true) (hn : n ≤ 1000000) (hbase : base ≤ W.heap.size) (ty : TypeId) :
    ∃ v W', (Builtin.append_ #[t, t] ty #[v0, src]).run Try.prog W = .ok v W' ∧ NewMem W W' ∧ (clonedN base E size n xs).p v W' := by
  obtain ⟨x, rfl, hx, hbx⟩ := h0
  obtain ⟨a, cap, rfl, ha⟩ := ownsRow_slice hsrc
  obtain ⟨i0, hi0, hz0, hz1, hz2⟩ := info_parts hi
  rcases Nat.eq_zero_or_pos n with rfl | hpos
  · have hxs : xs = [] := by simpa using hsrc.1
    subst hxs
    refine ⟨_, W, append_none ht hi0, NewMem.refl _, _, 0, rfl, ⟨by simp, .inr ⟨x, 0, #[], rfl, Nat.zero_le _, hx, Nat.le_refl _, by decide, by simp, by simp⟩⟩, fun k hk => ?_⟩
    simp [Value.ownBlock] at hk; omega
  · obtain ⟨g, rfl⟩ := ha hpos
    have hbn : n * bytes ≤ 1000000 * 1000 := Nat.mul_le_mul hn hb
    obtain ⟨v', w', hr, hown, hg, _, hat⟩ := run_append_own_at (P := Try.prog) W 0 t ty E i0 z size bytes ht hi0 hz0 hz1 hz2 hz hs (.slice none 0 0) 0 [] (World.ownsRow_nil _ _ _ _) ⟨g, 0, none⟩ n cap xs hsrc.1 (hsrc.cells rfl) h1 (by unfold maxLen; omega) (by rw [Nat.zero_add]; omega) (Nat.zero_le _)
    rw [Nat.zero_add, List.nil_append] at hown
    obtain ⟨a', cp', rfl, _⟩ := ownsRow_slice hown
    refine ⟨_, w', append_cap0 ht hi0 hpos hn (by have := growslice_fits (need := n) (old := 0) (bytes := i0.bytes) hpos (by rw [hz2]; omega); omega) hr, ⟨hg.os, hg.tape, hg.output, hg.size, fun k hk => hg.block k hk (by simp [Value.ownBlock])⟩, a', cp', rfl, hown, fun k hk => ?_⟩
    rcases hat with e | e
    · rw [hk] at e; simp [Value.ownBlock] at e
    · rw [hk] at e; simp at e; omega
def RCopyAt (R : RS) (w : World) (e : Ending) (w' : World) : Prop := ∃ b sv wv, e = .returned (.pointer (some ⟨b, 0, none⟩)) ∧ (∀ k, rfoot b sv wv k → w.heap.size ≤ k) ∧ RefAt w' b sv wv R ∧ NewMem w w'
theorem strCells_one (l : List ByteArray) : ∀ u ∈ strCells l, u.oneCell' = true := fun u hu => by
  obtain ⟨s, _, rfl⟩ := List.mem_map.1 hu; rfl
theorem putCells_one (l : List (Int × ByteArray)) : ∀ u ∈ putCells l, u.oneCell' = true := fun u hu => by
  obtain ⟨q, _, hu⟩ := List.mem_flatMap.1 hu
  simp at hu; rcases hu with rfl | rfl <;> rfl
set_option maxRecDepth 100000 in
set_option maxHeartbeats 8000000 in
theorem rcopy_at (b : Nat) (sv wv : Value) (R : RS) (w : World) (h : RefAt w b sv wv R) :
    Calls Try.prog 38 #[.pointer (some ⟨b, 0, none⟩)] w (RCopyAt R w) := by
  have far : ∀ W, NewMem w W → RefAt W b sv wv R := fun W hW => h.kept (F := fun _ => False) (Mod.of_below hW) (fun _ _ => id)
  have FAR := Lib.hid far
  have HFEW := Lib.hid (⟨h.few, h.fewW, h.at'⟩ : R.S.length ≤ 4096 ∧ R.W.length ≤ 1000000 ∧ _)
  obtain ⟨is, his, _⟩ := info_parts info_str
  obtain ⟨ip, hip, _⟩ := info_parts info_put
  have HIS := Lib.hid his
  have HIP := Lib.hid hip
  clear h far his hip
  go_enter Try.func38, Try.ntmps38
  go_wp2_with fail
  refine' wp_region_factsT (S := (fun W => NewMem w W)) (R := NewMem) [emptyN w.heap.size 9, eqF _ _, eqF _ _, eqF _ _, eqF _ sv, clonedN w.heap.size 9 1 R.S.length (strCells R.S), emptyN w.heap.size 115, eqF _ _, eqF _ _, eqF _ _, eqF _ wv, clonedN w.heap.size 115 2 R.W.length (putCells R.W), eqF _ _, eqF _ _, eqF _ _, eqF _ (.int .i64 R.fuse), eqF _ _, eqF _ _, eqF _ _, eqF _ (.bool R.gone)] (by kernel_rfl) (by kernel_rfl) ?hS ?h0 (steps_cons ?s0 (steps_cons ?s1 (steps_cons ?s2 (steps_cons ?s3 (steps_cons ?s4 (steps_cons ?s5 (steps_cons ?s6 (steps_cons ?s7 (steps_cons ?s8 (steps_cons ?s9 (steps_cons ?s10 (steps_cons ?s11 (steps_cons ?s12 (steps_cons ?s13 (steps_cons ?s14 (steps_cons ?s15 (steps_cons ?s16 (steps_cons ?s17 (steps_cons ?s18 (steps_cons ?s19 (steps_nil))))))))))))))))))))) ?fin
  case s0 =>
    intro g W hSW hd
    try simp only [Nat.zero_add, Nat.reduceAdd] at hd ⊢
    with_reducible refine OpGives.pre_reads [] 25 ?_ ?_ ?_
    · rfl
    · kernel_rfl
    simp only [List.map_cons, List.map_nil]
    exact OpGives.val (v := .slice (some ⟨W.heap.size, 0, none⟩) 0 0) (w' := W.alloc (.cells #[] 9)) (exec_buildSlice 25 0 #[] rfl (by rw [Array.map_empty]; exact build_none 25 9 is Try.underlying25 HIS.out W)) ⟨NewMem.alloc _ _, W.heap.size, rfl, heap_alloc_last W _, hSW.size⟩
  case s1 =>
    intro g W hSW hd
    try simp only [Nat.zero_add, Nat.reduceAdd] at hd ⊢
    with_reducible refine OpGives.pre_reads [] 25 ?_ ?_ ?_
    · rfl
    · kernel_rfl
    simp only [List.map_cons, List.map_nil]
    refine OpGives.val (w' := W) ?_ ⟨NewMem.refl _, rfl⟩
    go_simp
    try with_reducible rfl
  case s2 =>
    intro g W hSW hd
    try simp only [Nat.zero_add, Nat.reduceAdd] at hd ⊢
    have h1 : g 1 = _ := hd 1 (by decide) (by kernel_rfl)
    with_reducible refine OpGives.pre_reads [(4, 1)] 25 ?_ ?_ ?_
    · rfl
    · kernel_rfl
    simp only [List.map_cons, List.map_nil]
    refine OpGives.val (w' := W) ?_ ⟨NewMem.refl _, rfl⟩
    go_simp
    try with_reducible rfl
  case s3 =>
    intro g W hSW hd
    try simp only [Nat.zero_add, Nat.reduceAdd] at hd ⊢
    have h2 : g 2 = _ := hd 2 (by decide) (by kernel_rfl)
    with_reducible refine OpGives.pre_reads [(5, 2)] 25 ?_ ?_ ?_
    · rfl
    · kernel_rfl
    simp only [List.map_cons, List.map_nil]
    refine OpGives.val (w' := W) ?_ ⟨NewMem.refl _, rfl⟩
    go_simp
    try with_reducible rfl
  case s4 =>
    intro g W hSW hd
    try simp only [Nat.zero_add, Nat.reduceAdd] at hd ⊢
    have h3 : g 3 = _ := hd 3 (by decide) (by kernel_rfl)
    with_reducible refine OpGives.pre_reads [(6, 3)] 25 ?_ ?_ ?_
    · rfl
    · kernel_rfl
    simp only [List.map_cons, List.map_nil]
    have c0 := (FAR.out W hSW).cell.cells.1; refine OpGives.val (w' := W) ?_ ⟨NewMem.refl _, rfl⟩; go_simp
  case s5 =>
    intro g W hSW hd
    try simp only [Nat.zero_add, Nat.reduceAdd] at hd ⊢
    have h0 := hd 0 (by decide) (by kernel_rfl)
    change (emptyN w.heap.size 9).p (g 0) W at h0
    have h4 : g 4 = _ := hd 4 (by decide) (by kernel_rfl)
    with_reducible refine OpGives.pre_reads [(3, 0), (7, 4)] 25 ?_ ?_ ?_
    · rfl
    · kernel_rfl
    simp only [List.map_cons, List.map_nil]
    obtain ⟨v, W', hr, hn, hp⟩ := clone_step Try.underlying25 info_str rfl (by decide) (by decide) h0 (FAR.out W hSW).s (strCells_one _) (by have := HFEW.out.1; omega) hSW.size 25; rw [← h4] at hr; exact OpGives.val (v := v) (w' := W') (exec_append _ _ _ rfl hr) ⟨hn, hp⟩
  case s6 =>
    intro g W hSW hd
    try simp only [Nat.zero_add, Nat.reduceAdd] at hd ⊢
    with_reducible refine OpGives.pre_reads [] 25 ?_ ?_ ?_
    · rfl
    · kernel_rfl
    simp only [List.map_cons, List.map_nil]
    exact OpGives.val (v := .slice (some ⟨W.heap.size, 0, none⟩) 0 0) (w' := W.alloc (.cells #[] 115)) (exec_buildSlice 97 0 #[] rfl (by rw [Array.map_empty]; exact build_none 97 115 ip Try.underlying97 HIP.out W)) ⟨NewMem.alloc _ _, W.heap.size, rfl, heap_alloc_last W _, hSW.size⟩
  case s7 =>
    intro g W hSW hd
    try simp only [Nat.zero_add, Nat.reduceAdd] at hd ⊢
    with_reducible refine OpGives.pre_reads [] 25 ?_ ?_ ?_
    · rfl
    · kernel_rfl
    simp only [List.map_cons, List.map_nil]
    refine OpGives.val (w' := W) ?_ ⟨NewMem.refl _, rfl⟩
    go_simp
    try with_reducible rfl
  case s8 =>
    intro g W hSW hd
    try simp only [Nat.zero_add, Nat.reduceAdd] at hd ⊢
    have h7 : g 7 = _ := hd 7 (by decide) (by kernel_rfl)
    with_reducible refine OpGives.pre_reads [(10, 7)] 25 ?_ ?_ ?_
    · rfl
    · kernel_rfl
    simp only [List.map_cons, List.map_nil]
    refine OpGives.val (w' := W) ?_ ⟨NewMem.refl _, rfl⟩
    go_simp
    try with_reducible rfl
  case s9 =>
    intro g W hSW hd
    try simp only [Nat.zero_add, Nat.reduceAdd] at hd ⊢
    have h8 : g 8 = _ := hd 8 (by decide) (by kernel_rfl)
    with_reducible refine OpGives.pre_reads [(11, 8)] 25 ?_ ?_ ?_
    · rfl
    · kernel_rfl
    simp only [List.map_cons, List.map_nil]
    refine OpGives.val (w' := W) ?_ ⟨NewMem.refl _, rfl⟩
    go_simp
    try with_reducible rfl
  case s10 =>
    intro g W hSW hd
    try simp only [Nat.zero_add, Nat.reduceAdd] at hd ⊢
    have h9 : g 9 = _ := hd 9 (by decide) (by kernel_rfl)
    with_reducible refine OpGives.pre_reads [(12, 9)] 25 ?_ ?_ ?_
    · rfl
    · kernel_rfl
    simp only [List.map_cons, List.map_nil]
    have c0 := (FAR.out W hSW).cell.cells.2.1; refine OpGives.val (w' := W) ?_ ⟨NewMem.refl _, rfl⟩; go_simp
  case s11 =>
    intro g W hSW hd
    try simp only [Nat.zero_add, Nat.reduceAdd] at hd ⊢
    have h6 := hd 6 (by decide) (by kernel_rfl)
    change (emptyN w.heap.size 115).p (g 6) W at h6
    have h10 : g 10 = _ := hd 10 (by decide) (by kernel_rfl)
    with_reducible refine OpGives.pre_reads [(9, 6), (13, 10)] 25 ?_ ?_ ?_
    · rfl
    · kernel_rfl
    simp only [List.map_cons, List.map_nil]
    obtain ⟨v, W', hr, hn, hp⟩ := clone_step Try.underlying97 info_put rfl (by decide) (by decide) h6 (FAR.out W hSW).w (putCells_one _) HFEW.out.2.1 hSW.size 97; rw [← h10] at hr; exact OpGives.val (v := v) (w' := W') (exec_append _ _ _ rfl hr) ⟨hn, hp⟩
  case s12 =>
    intro g W hSW hd
    try simp only [Nat.zero_add, Nat.reduceAdd] at hd ⊢
    with_reducible refine OpGives.pre_reads [] 25 ?_ ?_ ?_
    · rfl
    · kernel_rfl
    simp only [List.map_cons, List.map_nil]
    refine OpGives.val (w' := W) ?_ ⟨NewMem.refl _, rfl⟩
    go_simp
    try with_reducible rfl
  case s13 =>
    intro g W hSW hd
    try simp only [Nat.zero_add, Nat.reduceAdd] at hd ⊢
    have h12 : g 12 = _ := hd 12 (by decide) (by kernel_rfl)
    with_reducible refine OpGives.pre_reads [(15, 12)] 25 ?_ ?_ ?_
    · rfl
    · kernel_rfl
    simp only [List.map_cons, List.map_nil]
    refine OpGives.val (w' := W) ?_ ⟨NewMem.refl _, rfl⟩
    go_simp
    try with_reducible rfl
  case s14 =>
    intro g W hSW hd
    try simp only [Nat.zero_add, Nat.reduceAdd] at hd ⊢
    have h13 : g 13 = _ := hd 13 (by decide) (by kernel_rfl)
    with_reducible refine OpGives.pre_reads [(16, 13)] 25 ?_ ?_ ?_
    · rfl
    · kernel_rfl
    simp only [List.map_cons, List.map_nil]
    refine OpGives.val (w' := W) ?_ ⟨NewMem.refl _, rfl⟩
    go_simp
    try with_reducible rfl
  case s15 =>
    intro g W hSW hd
    try simp only [Nat.zero_add, Nat.reduceAdd] at hd ⊢
    have h14 : g 14 = _ := hd 14 (by decide) (by kernel_rfl)
    with_reducible refine OpGives.pre_reads [(17, 14)] 25 ?_ ?_ ?_
    · rfl
    · kernel_rfl
    simp only [List.map_cons, List.map_nil]
    have c0 := (FAR.out W hSW).cell.cells.2.2.1; refine OpGives.val (w' := W) ?_ ⟨NewMem.refl _, rfl⟩; go_simp
  case s16 =>
    intro g W hSW hd
    try simp only [Nat.zero_add, Nat.reduceAdd] at hd ⊢
    with_reducible refine OpGives.pre_reads [] 25 ?_ ?_ ?_
    · rfl
    · kernel_rfl
    simp only [List.map_cons, List.map_nil]
    refine OpGives.val (w' := W) ?_ ⟨NewMem.refl _, rfl⟩
    go_simp
    try with_reducible rfl
  case s17 =>
    intro g W hSW hd
    try simp only [Nat.zero_add, Nat.reduceAdd] at hd ⊢
    have h16 : g 16 = _ := hd 16 (by decide) (by kernel_rfl)
    with_reducible refine OpGives.pre_reads [(19, 16)] 25 ?_ ?_ ?_
    · rfl
    · kernel_rfl
    simp only [List.map_cons, List.map_nil]
    refine OpGives.val (w' := W) ?_ ⟨NewMem.refl _, rfl⟩
    go_simp
    try with_reducible rfl
  case s18 =>
    intro g W hSW hd
    try simp only [Nat.zero_add, Nat.reduceAdd] at hd ⊢
    have h17 : g 17 = _ := hd 17 (by decide) (by kernel_rfl)
    with_reducible refine OpGives.pre_reads [(20, 17)] 25 ?_ ?_ ?_
    · rfl
    · kernel_rfl
    simp only [List.map_cons, List.map_nil]
    refine OpGives.val (w' := W) ?_ ⟨NewMem.refl _, rfl⟩
    go_simp
    try with_reducible rfl
  case s19 =>
    intro g W hSW hd
    try simp only [Nat.zero_add, Nat.reduceAdd] at hd ⊢
    have h18 : g 18 = _ := hd 18 (by decide) (by kernel_rfl)
    with_reducible refine OpGives.pre_reads [(21, 18)] 25 ?_ ?_ ?_
    · rfl
    · kernel_rfl
    simp only [List.map_cons, List.map_nil]
    have c0 := (FAR.out W hSW).cell.cells.2.2.2; refine OpGives.val (w' := W) ?_ ⟨NewMem.refl _, rfl⟩; go_simp
  case hS => exact fun a b h k => NewMem.trans h k
  case h0 => exact below_drewN' (n := 1) (Below.refl _ _)
  case fin =>
    intro v W hSW hf
    have h5 : (clonedN w.heap.size 9 1 R.S.length (strCells R.S)).p (v 5) W := hf 5 (Nat.lt_of_lt_of_eq (by decide : 5 < 20) rfl)
    have h11 : (clonedN w.heap.size 115 2 R.W.length (putCells R.W)).p (v 11) W := hf 11 (Nat.lt_of_lt_of_eq (by decide : 11 < 20) rfl)
    have h15 : v 15 = _ := hf 15 (Nat.lt_of_lt_of_eq (by decide : 15 < 20) rfl)
    have h19 : v 19 = _ := hf 19 (Nat.lt_of_lt_of_eq (by decide : 19 < 20) rfl)
    clear hf
    generalize hF : Ord.pre _ _ v _ = F
    rw [Ord.pre_lit [some 3, some 4, some 5, some 6, some 7, some 8, some 9, some 10, some 11, some 12, some 13, some 14, some 15, some 16, some 17, some 18, some 19, some 20, some 21, some 22]
      (by kernel_rfl)] at hF
    simp only [Ord.puts, Nat.zero_add, Nat.reduceAdd] at hF
    subst hF
    obtain ⟨a5, c5, e5, o5, k5⟩ := h5
    obtain ⟨a11, c11, e11, o11, k11⟩ := h11
    rw [h15, h19, e5, e11]
    have hdone : RCopyAt R w (.returned (.pointer (some ⟨W.heap.size, 0, none⟩))) (W.alloc (.cells #[.slice a5 R.S.length c5, .slice a11 R.W.length c11, .int .i64 R.fuse, .bool R.gone] 99)) := by
      refine ⟨W.heap.size, _, _, rfl, fun k hk => ?_, ⟨heap_alloc_last _ _, o5.alloc _, o11.alloc _, HFEW.out.1, HFEW.out.2.1, HFEW.out.2.2⟩, NewMem.trans hSW (NewMem.alloc _ _)⟩
      rcases hk with e | e | e
      · rw [e]; exact hSW.size
      · exact k5 k e
      · exact k11 k e
    have HD := Lib.hid hdone
    clear h15 h19 e5 e11 o5 o11 k5 k11 hdone
    refine any_one (i := 20) (by kernel_rfl) ?_
    refine wpOp_value (v := .agg #[.slice a5 R.S.length c5, .slice a11 R.W.length c11, .int .i64 R.fuse, .bool R.gone]) (w' := W) rfl rfl (by go_simp) ?_
    refine any_one (i := 21) (by kernel_rfl) ?_
    refine wpOp_value (v := .pointer (some ⟨W.heap.size, 0, none⟩)) (w' := W.alloc (.cells #[.slice a5 R.S.length c5, .slice a11 R.W.length c11, .int .i64 R.fuse, .bool R.gone] 99)) rfl rfl (by go_simp) ?_
    refine any_one (i := 22) (by kernel_rfl) ?_
    refine wpOp_value (v := .pointer (some ⟨W.heap.size, 0, none⟩)) (w' := W.alloc (.cells #[.slice a5 R.S.length c5, .slice a11 R.W.length c11, .int .i64 R.fuse, .bool R.gone] 99)) rfl rfl (by go_simp) ?_
    refine wpAny_done (by kernel_rfl) ?_ _
    simp only [List.getElem_toArray, List.getElem_cons_succ, List.getElem_cons_zero]
    go_frame
    generalize W.alloc (.cells #[.slice a5 R.S.length c5, .slice a11 R.W.length c11, .int .i64 R.fuse, .bool R.gone] 99) = W2 at *
    go_wp2_with fail
    go_ret
    exact HD.out
end Go.Proofs.Ytjnbdikhajnciaa.Drum
