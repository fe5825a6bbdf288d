/- The drum: Copy. -/
import Derived.Test.YtjnbdikhajnciaaEk
namespace Go.Proofs.Ytjnbdikhajnciaa.Drum
open Go.RowKit Go.Proofs.Ytjnbdikhajnciaa.Ord Go.Proofs.YtjnbdikhajnciaaW.PrintWords Go.Proofs.Ytjnbdikhajnciaa.Base
set_option linter.unusedVariables false
set_option linter.unusedSimpArgs false
attribute [local go_sem] rdl_const rdl_func rdl_global rdl_nil rdl_cons

/-- A copy. -/
def CopyAt (D : DS) (w : World) (e : Ending) (w' : World) : Prop := ∃ b sb cap lv, e = .returned (.pointer (some ⟨b, 0, none⟩)) ∧ w.heap.size ≤ b ∧ w.heap.size ≤ sb ∧ (∀ k, lv.ownBlock = some k → w.heap.size ≤ k) ∧ DrumAt w' b sb cap lv D ∧ NewMem w w'
theorem sureCells_one (l : List (List UInt8)) : ∀ u ∈ sureCells l, u.oneCell' = true := by
  intro u hu
  obtain ⟨s, _, hs⟩ := List.mem_flatMap.1 hu
  unfold secCells at hs; rw [nums_ints] at hs; exact Lib.byteCells_one _ u hs
theorem looseCells_one (l : List (Nat × List UInt8)) : ∀ u ∈ looseCells l, u.oneCell' = true := by
  intro u hu
  obtain ⟨s, _, hs⟩ := List.mem_flatMap.1 hu
  exact loose_one s.2 s.1 u hs
def clonedF (base : Nat) (E : TypeId) (size n : Nat) (xs : List Value) : Fact (Mod (fun _ => False)) :=
  ⟨fun v W => ∃ a cap, v = .slice a n cap ∧ W.ownsRow 0 E size (.slice a n cap) n xs ∧ (∀ k, (Value.slice a n cap).ownBlock = some k → base ≤ k), fun v W W' ⟨a, cap, e, ho, hk⟩ hm => ⟨a, cap, e, ownsRow_mod ho hm (fun _ _ => id), hk⟩⟩
theorem ownsRow_apart {w : World} {e e' : TypeId} {s s' : Nat} {v v' : Value} {n n' : Nat} {xs xs' : List Value} (h : w.ownsRow 0 e s v n xs) (h' : w.ownsRow 0 e' s' v' n' xs') (he : e ≠ e') (k : Nat) (hk : v.ownBlock = some k) : v'.ownBlock ≠ some k := by
  intro hk'
  rcases h.2 with ⟨rfl, _⟩ | ⟨g, cap, cur, rfl, _, hg, _⟩
  · simp [Value.ownBlock] at hk
  · rcases h'.2 with ⟨rfl, _⟩ | ⟨g', cap', cur', rfl, _, hg', _⟩
    · simp [Value.ownBlock] at hk'
    · simp [Value.ownBlock] at hk hk'
      subst hk; subst hk'
      rw [hg] at hg'
      injection hg' with hg'
      injection hg' with _ hg' _
      exact he hg'
set_option maxRecDepth 100000 in
set_option maxHeartbeats 8000000 in
theorem copy_at (b sb cap : Nat) (lv : Value) (D : DS) (w : World) (h : DrumAt w b sb cap lv D) (hn : D.loose.length ≤ 1000000) :
    Calls Try.prog 35 #[.pointer (some ⟨b, 0, none⟩)] w (CopyAt D w) := by
  have c0 := h.cell.cells.1
  have cm : Calls Try.prog 50 #[.pointer (some ⟨b, 0, none⟩)] w fun e w' => e = .returned (.bool true) ∧ w = w' := by
    have := made_of b _ _ _ w c0
    rwa [decide_eq_true h.pos] at this
  have CM := Lib.hid cm
  have hc := h.cell
  unfold DCell at hc
  have H := Lib.hid h
  clear cm c0 h
  have HC := Lib.hid hc
  have ho : (#[.slice (some ⟨sb, 0, none⟩) D.sure.length cap, lv, .bool D.armed, .int .i64 D.left, .bool D.down] : Array Value).all (·.oneCell') = true := by
    rcases H.out.loose.2 with ⟨e, _⟩ | ⟨_, _, _, e, _⟩ <;> (rw [e]; simp [Value.oneCell'])
  have HO := Lib.hid ho
  clear ho
  clear hc
  have hsz : (Try.prog.info? 73).map (·.size) = some 5 := by kernel_rfl
  go_enter Try.func35, Try.ntmps35
  go_wp2_with fail
  refine CM.out.mono ?_
  rintro e w' ⟨rfl, rfl⟩
  go_wp2_with (first
    | (refine wpList_load_row rfl 73 _ rfl b rfl 73 _ _ _ HC.out Try.underlying73 rfl hsz ?_)
    | (refine wpList_store_row rfl 73 _ _ rfl w.heap.size #[.slice (some ⟨sb, 0, none⟩) D.sure.length cap, lv, .bool D.armed, .int .i64 D.left, .bool D.down] rfl rfl 73 _ (heap_alloc_last _ _) hsz rfl HO.out ?_; rw [World.setRow_alloc_new]))
  go_frame
  obtain ⟨wx, hwx⟩ : ∃ wx : World, wx = w.alloc (.cells #[.slice (some ⟨sb, 0, none⟩) D.sure.length cap, lv, .bool D.armed, .int .i64 D.left, .bool D.down] 73) := ⟨_, rfl⟩
  rw [← hwx]
  obtain ⟨c, hc⟩ : ∃ c, c = w.heap.size := ⟨_, rfl⟩
  rw [← hc]
  have hx : DCell wx c (.slice (some ⟨sb, 0, none⟩) D.sure.length cap) lv D.armed D.left D.down := by rw [hwx, hc]; exact heap_alloc_last _ _
  have hnx : NewMem w wx := by rw [hwx]; exact NewMem.alloc _ _
  have hxs : wx.heap.size = c + 1 := by rw [hwx, hc]; simp
  have HX := Lib.hid hx
  have HNX := Lib.hid hnx
  have HXS := Lib.hid hxs
  have HCC := Lib.hid hc
  clear hx hnx hxs hc hwx
  have far : ∀ W, Mod (fun _ => False) wx W → DrumAt W b sb cap lv D ∧ DCell W c (.slice (some ⟨sb, 0, none⟩) D.sure.length cap) lv D.armed D.left D.down ∧ c + 1 ≤ W.heap.size := fun W hW =>
    ⟨(H.out.kept (F := fun _ => False) (Mod.of_below HNX.out) (fun _ _ => id)).kept hW (fun _ _ => id), HX.out.kept hW id, by have := hW.size; have := HXS.out; omega⟩
  have FAR := Lib.hid far
  clear far
  refine' wp_region_factsT (S := (fun W => Mod (fun _ => False) wx W)) (R := (Mod (fun _ => False))) [eqF _ _, eqF _ _, eqF _ _, eqF _ (.slice (some ⟨sb, 0, none⟩) D.sure.length cap), clonedF (c + 1) 84 64 D.sure.length (sureCells D.sure), eqF _ _, eqF _ _, eqF _ _, eqF _ lv, clonedF (c + 1) 86 65 D.loose.length (looseCells D.loose)] (by kernel_rfl) (by kernel_rfl) ?hS ?h0 (steps_cons ?s0 (steps_cons ?s1 (steps_cons ?s2 (steps_cons ?s3 (steps_cons ?s4 (steps_cons ?s5 (steps_cons ?s6 (steps_cons ?s7 (steps_cons ?s8 (steps_cons ?s9 (steps_nil))))))))))) ?fin
  case s0 =>
    intro g W hSW hd
    try simp only [Nat.zero_add, Nat.reduceAdd] at hd ⊢
    with_reducible refine OpGives.pre_reads [] 22 ?_ ?_ ?_
    · rfl
    · kernel_rfl
    simp only [List.map_cons, List.map_nil]
    refine OpGives.val (w' := W) ?_ ⟨Mod.refl _ _, rfl⟩
    go_simp
    try with_reducible rfl
  case s1 =>
    intro g W hSW hd
    try simp only [Nat.zero_add, Nat.reduceAdd] at hd ⊢
    have h0 : g 0 = _ := hd 0 (by decide) (by kernel_rfl)
    with_reducible refine OpGives.pre_reads [(10, 0)] 22 ?_ ?_ ?_
    · rfl
    · kernel_rfl
    simp only [List.map_cons, List.map_nil]
    refine OpGives.val (w' := W) ?_ ⟨Mod.refl _ _, rfl⟩
    go_simp
    try with_reducible rfl
  case s2 =>
    intro g W hSW hd
    try simp only [Nat.zero_add, Nat.reduceAdd] at hd ⊢
    have h1 : g 1 = _ := hd 1 (by decide) (by kernel_rfl)
    with_reducible refine OpGives.pre_reads [(11, 1)] 22 ?_ ?_ ?_
    · rfl
    · kernel_rfl
    simp only [List.map_cons, List.map_nil]
    refine OpGives.val (w' := W) ?_ ⟨Mod.refl _ _, rfl⟩
    go_simp
    try with_reducible rfl
  case s3 =>
    intro g W hSW hd
    try simp only [Nat.zero_add, Nat.reduceAdd] at hd ⊢
    have h2 : g 2 = _ := hd 2 (by decide) (by kernel_rfl)
    with_reducible refine OpGives.pre_reads [(12, 2)] 22 ?_ ?_ ?_
    · rfl
    · kernel_rfl
    simp only [List.map_cons, List.map_nil]
    have c0 := (FAR.out W hSW).1.cell.cells.1; refine OpGives.val (w' := W) ?_ ⟨Mod.refl _ _, rfl⟩; go_simp
  case s4 =>
    intro g W hSW hd
    try simp only [Nat.zero_add, Nat.reduceAdd] at hd ⊢
    have h3 : g 3 = _ := hd 3 (by decide) (by kernel_rfl)
    with_reducible refine OpGives.pre_reads [(13, 3)] 22 ?_ ?_ ?_
    · rfl
    · kernel_rfl
    simp only [List.map_cons, List.map_nil]
    refine OpGives.call (f := 61) (args := #[.slice (some ⟨sb, 0, none⟩) D.sure.length cap]) (w' := W) (by go_simp) ((clone_sector _ _ _ W (FAR.out W hSW).1.sure (sureCells_one _) (by have := H.out.few; omega)).mono fun e w' ⟨a, cp, he, hn, ho, hk⟩ => ⟨_, he, Mod.of_below hn, a, cp, rfl, ho, fun k e => Nat.le_trans (FAR.out W hSW).2.2 (hk k e)⟩)
  case s5 =>
    intro g W hSW hd
    try simp only [Nat.zero_add, Nat.reduceAdd] at hd ⊢
    with_reducible refine OpGives.pre_reads [] 22 ?_ ?_ ?_
    · rfl
    · kernel_rfl
    simp only [List.map_cons, List.map_nil]
    refine OpGives.val (w' := W) ?_ ⟨Mod.refl _ _, rfl⟩
    go_simp
    try with_reducible rfl
  case s6 =>
    intro g W hSW hd
    try simp only [Nat.zero_add, Nat.reduceAdd] at hd ⊢
    have h5 : g 5 = _ := hd 5 (by decide) (by kernel_rfl)
    with_reducible refine OpGives.pre_reads [(15, 5)] 22 ?_ ?_ ?_
    · rfl
    · kernel_rfl
    simp only [List.map_cons, List.map_nil]
    refine OpGives.val (w' := W) ?_ ⟨Mod.refl _ _, rfl⟩
    go_simp
    try with_reducible rfl
  case s7 =>
    intro g W hSW hd
    try simp only [Nat.zero_add, Nat.reduceAdd] at hd ⊢
    have h6 : g 6 = _ := hd 6 (by decide) (by kernel_rfl)
    with_reducible refine OpGives.pre_reads [(16, 6)] 22 ?_ ?_ ?_
    · rfl
    · kernel_rfl
    simp only [List.map_cons, List.map_nil]
    refine OpGives.val (w' := W) ?_ ⟨Mod.refl _ _, rfl⟩
    go_simp
    try with_reducible rfl
  case s8 =>
    intro g W hSW hd
    try simp only [Nat.zero_add, Nat.reduceAdd] at hd ⊢
    have h7 : g 7 = _ := hd 7 (by decide) (by kernel_rfl)
    with_reducible refine OpGives.pre_reads [(17, 7)] 22 ?_ ?_ ?_
    · rfl
    · kernel_rfl
    simp only [List.map_cons, List.map_nil]
    have c0 := (FAR.out W hSW).1.cell.cells.2.1; refine OpGives.val (w' := W) ?_ ⟨Mod.refl _ _, rfl⟩; go_simp
  case s9 =>
    intro g W hSW hd
    try simp only [Nat.zero_add, Nat.reduceAdd] at hd ⊢
    have h8 : g 8 = _ := hd 8 (by decide) (by kernel_rfl)
    with_reducible refine OpGives.pre_reads [(18, 8)] 22 ?_ ?_ ?_
    · rfl
    · kernel_rfl
    simp only [List.map_cons, List.map_nil]
    refine OpGives.call (f := 62) (args := #[lv]) (w' := W) (by go_simp) ((clone_loose _ _ _ W (FAR.out W hSW).1.loose (looseCells_one _) hn).mono fun e w' ⟨a, cp, he, hn, ho, hk⟩ => ⟨_, he, Mod.of_below hn, a, cp, rfl, ho, fun k e => Nat.le_trans (FAR.out W hSW).2.2 (hk k e)⟩)
  case hS => exact fun a b h k => Mod.trans h k (fun _ e => .inl e)
  case h0 => exact Mod.drew (Mod.refl _ _)
  case fin =>
    intro v W hSW hf
    have h4 : (clonedF (c + 1) 84 64 D.sure.length (sureCells D.sure)).p (v 4) W := hf 4 (Nat.lt_of_lt_of_eq (by decide : 4 < 10) rfl)
    have h9 : (clonedF (c + 1) 86 65 D.loose.length (looseCells D.loose)).p (v 9) W := hf 9 (Nat.lt_of_lt_of_eq (by decide : 9 < 10) rfl)
    clear hf
    generalize hF : Ord.pre _ _ v _ = F
    rw [Ord.pre_lit [some 10, some 11, some 12, some 13, some 14, some 15, some 16, some 17, some 18, some 19]
      (by kernel_rfl)] at hF
    simp only [Ord.puts, Nat.zero_add, Nat.reduceAdd] at hF
    subst hF
    obtain ⟨a4, cp4, e4, o4, k4⟩ := h4
    obtain ⟨a9, cp9, e9, o9, k9⟩ := h9
    obtain ⟨g4, c4', e4', _, _⟩ := o4.form H.out.pos
    injection e4' with e5 e6 e7
    subst e5
    rw [e4, e9]
    clear e4 e9
    obtain ⟨hdW, hcW, _⟩ := FAR.out W hSW
    have f0 := hcW.free 0
    have f1 := hcW.free 1
    have c0 := hcW.cells.1
    have c1 := hcW.cells.2.1
    have hm : Mod (fun i => i = c) W ((W.setCell ⟨c, 0, none⟩ (.slice (some ⟨g4, 0, none⟩) D.sure.length cp4)).setCell ⟨c, 1, none⟩ (.slice a9 D.loose.length cp9)) :=
      Mod.trans (F := fun i => i = c) (G := fun i => i = c) (Mod.setCell _ _ _ rfl) (Mod.setCell _ _ _ rfl) (fun _ e => .inl e)
    have hb4 : c + 1 ≤ g4 := k4 g4 rfl
    have hdone : CopyAt D w (.returned (.pointer (some ⟨c, 0, none⟩))) ((W.setCell ⟨c, 0, none⟩ (.slice (some ⟨g4, 0, none⟩) D.sure.length cp4)).setCell ⟨c, 1, none⟩ (.slice a9 D.loose.length cp9)) := by
      have hcc := HCC.out
      refine ⟨c, g4, cp4, .slice a9 D.loose.length cp9, rfl, by omega, by omega, fun k hk => by have := k9 k hk; omega, ⟨(hcW.set0 _).set1 _, ?_, ?_, by omega, fun e => by have := k9 c e; omega, ownsRow_apart o4 o9 (by decide) g4 rfl, H.out.pos, H.out.few, H.out.wsure, H.out.wloose⟩, ?_⟩
      · exact ownsRow_mod o4 hm (fun k hk e => by have := k4 k hk; omega)
      · exact ownsRow_mod o9 hm (fun k hk e => by have := k9 k hk; omega)
      · have h1 : Mod (fun i => i = c) w W := (Mod.of_below HNX.out : Mod (fun i => i = c) w wx).trans hSW (fun _ e => e.elim)
        exact (h1.trans hm (fun _ e => .inl e)).below (Nat.le_refl _) (fun i e => by omega)
    have HDONE := Lib.hid hdone
    clear hdone hm hdW hcW o4 o9 k4 k9 hb4
    refine any_one (i := 10) (by kernel_rfl) ?_
    refine wpOp_value (v := .pointer (some ⟨c, 0, none⟩)) (w' := W) rfl rfl (by go_simp) ?_
    refine any_one (i := 11) (by kernel_rfl) ?_
    refine wpOp_skip (w' := W.setCell ⟨c, 0, none⟩ (.slice (some ⟨g4, 0, none⟩) D.sure.length cp4)) rfl rfl (by go_simp) ?_
    refine any_one (i := 12) (by kernel_rfl) ?_
    refine wpOp_value (v := .pointer (some ⟨c, 1, none⟩)) (w' := W.setCell ⟨c, 0, none⟩ (.slice (some ⟨g4, 0, none⟩) D.sure.length cp4)) rfl rfl (by go_simp) ?_
    refine any_one (i := 13) (by kernel_rfl) ?_
    refine wpOp_skip (w' := (W.setCell ⟨c, 0, none⟩ (.slice (some ⟨g4, 0, none⟩) D.sure.length cp4)).setCell ⟨c, 1, none⟩ (.slice a9 D.loose.length cp9)) rfl rfl (by go_simp) ?_
    refine wpAny_done (by kernel_rfl) ?_ _
    simp only [List.getElem_toArray, List.getElem_cons_succ, List.getElem_cons_zero]
    go_frame
    generalize (W.setCell ⟨c, 0, none⟩ (.slice (some ⟨g4, 0, none⟩) D.sure.length cp4)).setCell ⟨c, 1, none⟩ (.slice a9 D.loose.length cp9) = W2 at *
    clear c0 c1 f0 f1
    go_wp2_with fail
    go_ret
    exact HDONE.out
end Go.Proofs.Ytjnbdikhajnciaa.Drum
