/- Texts of one proof, joined: TOG. -/
import Derived.Test.YtgjlchcfdbmmlaaDoorROcg
set_option linter.unusedSimpArgs false
set_option linter.unusedVariables false
/- node.cell walked. -/
namespace Go.Proofs.YtgjlchcfdbmmlaaDoor.PObjectTakes
open Go.RowKit Go.Proofs.YtgjlchcfdbmmlaaDoor.Ord Go.Proofs.YtgjlchcfdbmmlaaDoor.Obj Go.Proofs.YtgjlchcfdbmmlaaDoorW.PrintWords Go.Proofs.YtgjlchcfdbmmlaaDoorW.PrintLast Go.Proofs.YtgjlchcfdbmmlaaDoorW.PrintMore
set_option linter.unusedVariables false
set_option linter.unusedSimpArgs false
attribute [local irreducible] OpGives
attribute [local go_sem] rdl_const rdl_func rdl_global rdl_nil rdl_cons

def kidC (x : S60) : S42 := listC [numC x.f0, textC x.f1]
def nodeC (o : Ob) : S42 := listC [numC 1, textC o.label, rowsC o.rows, listC (o.kids.map kidC)]
theorem cellF_lower {b b' : Nat} {x : S42} {u : Value} {W : World} (h : cellF b x u W) (hb : b' ≤ b) : cellF b' x u W := by
  obtain ⟨v3, e, hr⟩ := h
  exact ⟨v3, e, Kd.R_lower hr hb⟩
theorem rC_own {b : Nat} {v : Value} {l : List S42} {W : World} (h : rC W b v l) : ∀ k, v.ownBlock = some k → k < W.heap.size := fun k hk => by
  obtain ⟨_, inner, ho, _⟩ := h
  exact own_lt ho k hk
theorem put4_below' {w W : World} {g : Nat} (h : Below w.heap.size w W) (hg : w.heap.size ≤ g) (a0 a1 a2 a3 : Value) : Below w.heap.size w (put4 W g a0 a1 a2 a3) :=
  ⟨h.os, h.tape, h.output, by rw [put4_size]; exact h.size, fun k hk => (put4_far (by omega) _ _ _ _).trans (h.block k hk)⟩
theorem box4 {W : World} {g : Nat} {t : TypeId} {a b c d : Value} (hg : W.heap[g]? = some (.cells #[a, b, c, d] t (0, 0))) : (W.cell? ⟨g, 0, none⟩ = some a ∧ W.cell? ⟨g, 1, none⟩ = some b ∧ W.cell? ⟨g, 2, none⟩ = some c ∧ W.cell? ⟨g, 3, none⟩ = some d) ∧ W.frozen? ⟨g, 0, none⟩ = false ∧ W.frozen? ⟨g, 1, none⟩ = false ∧ W.frozen? ⟨g, 2, none⟩ = false ∧ W.frozen? ⟨g, 3, none⟩ = false := by
  refine ⟨⟨?_, ?_, ?_, ?_⟩, Lib.frozen_of_heap hg 0, Lib.frozen_of_heap hg 1, Lib.frozen_of_heap hg 2, Lib.frozen_of_heap hg 3⟩ <;> (rw [Lib.cell_of_heap hg]; rfl)
set_option maxHeartbeats 16000000 in
set_option maxRecDepth 100000 in
theorem ncell_calls (o : Ob) (Ar : Option Addr) (cr : Nat) (Ak : Option Addr) (ck : Nat) (Ap : Option Addr) (cp : Nat) (w : World) (hO : ObAt w o Ar cr Ak ck Ap cp) (hrl : o.rows.length ≤ 1000000) (hkl : o.kids.length ≤ 1000000) (hk8 : ∀ x ∈ o.kids, 0 ≤ x.f0 ∧ x.f0 ≤ 255) :
    Calls Tryd.prog 107 #[.agg (obV o Ar cr Ak ck Ap cp)] w (CellPostR w.heap.size (nodeC o) w) := by
  obtain ⟨knd, lab, rws, kds, prs, stp, nte, rot⟩ := o
  unfold obV nodeC
  simp only at hO hrl hkl hk8 ⊢
  have hOk := hO.k
  have hOr := hO.r
  have hOlr := hO.lr
  simp only at hOk hOr hOlr
  obtain ⟨W1, hW1⟩ : ∃ W1, W1 = w.alloc (.cells #[.int .i64 knd, .string lab, .slice Ar rws.length cr, .slice Ak kds.length ck, .slice Ap prs.length cp, .int .i64 stp, .string nte, .string rot] 86) := ⟨_, rfl⟩
  have hn1 : Below w.heap.size w W1 := by rw [hW1]; exact (Below.refl _ _).alloc (Nat.le_refl _) _
  have hg1 : W1.heap[w.heap.size]? = some (.cells #[.int .i64 knd, .string lab, .slice Ar rws.length cr, .slice Ak kds.length ck, .slice Ap prs.length cp, .int .i64 stp, .string nte, .string rot] 86 (0, 0)) := by rw [hW1]; exact alloc_lastV _ _
  have hs1 : W1.heap.size = w.heap.size + 1 := by rw [hW1]; simp
  obtain ⟨W2, hW2⟩ : ∃ W2, W2 = W1.alloc (.cells #[.int .i64 0, .int .i64 0, .string (⟨#[]⟩ : ByteArray), .slice none 0 0] 42) := ⟨_, rfl⟩
  have hn2 : Below W1.heap.size W1 W2 := by rw [hW2]; exact (Below.refl _ _).alloc (Nat.le_refl _) _
  have hg2 : W2.heap[w.heap.size + 1]? = some (.cells #[.int .i64 0, .int .i64 0, .string (⟨#[]⟩ : ByteArray), .slice none 0 0] 42 (0, 0)) := by rw [hW2, ← hs1]; exact alloc_lastV _ _
  have hs2 : W2.heap.size = w.heap.size + 2 := by rw [hW2]; simp [hs1]
  have hgn := (hn2.block _ (Array.getElem?_eq_some_iff.1 hg1).1).trans hg1
  have hb2 : Below w.heap.size w W2 := hn1.trans (hn2.mono hn1.size)
  obtain ⟨⟨b0, b1, b2, b3⟩, b4, b5, b6, b7⟩ := box8 hgn
  have HK := Lib.hid (Kd.C_below hOk hb2)
  have HR := Lib.hid (Kd.C_below hOr hb2)
  have HGN := Lib.hid hgn
  have HG2 := Lib.hid hg2
  have HB2 := Lib.hid hb2
  have HS2 := Lib.hid hs2
  have HK8 := Lib.hid hk8
  rw [hW2, hW1] at b0 b1 b2 b3 b4 b5 b6 b7
  rw [hW1] at hW2
  have HW2 := Lib.hid hW2
  clear hW1 hW2 hn1 hg1 hs1 hn2 hg2 hs2 hgn hb2 hO hOk hOr hk8
  go_enter Tryd.func107, Tryd.ntmps107
  go_wp2_with fail
  rw [← HW2.out]
  clear b0 b1 b2 b3 b4 b5 b6 b7
  go_loopw [3, 9] (fun v i wr => ∃ k : Nat, i = .int .i64 (k : Int) ∧ k ≤ kds.length ∧ rC wr W2.heap.size v ((kds.take k).map kidC) ∧ Below W2.heap.size W2 wr) (fun _ i _ => kds.length - (intOf i).toNat)
  case atStart => exact ⟨0, rfl, Nat.zero_le _, Kd.R_nil _ _ _ _ _, Below.refl _ _⟩
  case round =>
    obtain ⟨i, rfl, hi, hrow, hbe⟩ := hrel
    have HROW := Lib.hid hrow
    have HBE := Lib.hid hbe
    by_cases hil : i < kds.length
    · obtain ⟨x, hx⟩ : ∃ x, kds[i]? = some x := ⟨_, List.getElem?_eq_getElem hil⟩
      obtain ⟨ad, rfl, c0, c1, hbk⟩ := kid_at (Kd.C_below HK.out hbe) hx
      have hx8 := HK8.out x (List.mem_of_getElem? hx)
      have HX := Lib.hid hx
      have hlen : ((kds.take i).map kidC).length ≤ 1000000 := by rw [List.length_map, List.length_take]; omega
      have HLEN := Lib.hid hlen
      have hwx : IntKind.i64.wrap x.f0 = x.f0 := by rw [IntKind.wrap_i64]; omega
      clear hx hlen hrow hbe hx8
      go_wp2_with fail
      obtain ⟨W7, hW7⟩ : ∃ W7, W7 = wr.alloc (.cells #[.int .u8 x.f0, .string x.f1] 60) := ⟨_, rfl⟩
      rw [← hW7]
      have hb7 : Below wr.heap.size wr W7 := by rw [hW7]; exact (Below.refl _ _).alloc (Nat.le_refl _) _
      have hx7 : W7.heap[wr.heap.size]? = some (.cells #[.int .u8 x.f0, .string x.f1] 60 (0, 0)) := by rw [hW7]; exact alloc_lastV _ _
      have HB7 := Lib.hid hb7
      have hcl : ∀ W, Below W7.heap.size W7 W → W.cell? ⟨wr.heap.size, 0, none⟩ = some (.int .u8 x.f0) ∧ W.cell? ⟨wr.heap.size, 1, none⟩ = some (.string x.f1) := fun W hW => by
        exact box2 ((hW.block _ (Array.getElem?_eq_some_iff.1 hx7).1).trans hx7)
      have HCL := Lib.hid hcl
      clear hcl hb7 hx7 hW7 c0 c1 hbk
      refine' wp_region_factsM (S := (fun _ W => Below W7.heap.size W7 W)) (fun _ W W' => Below W.heap.size W W') [eqM _, eqM _, eqM (.int .u8 x.f0), eqM (.int .i64 x.f0), cellF W7.heap.size (numC x.f0), eqM _, eqM (.string x.f1), cellF W7.heap.size (textC x.f1), litC W7.heap.size [numC x.f0, textC x.f1], cellF W7.heap.size (kidC x), litC W7.heap.size [kidC x]] (by kernel_rfl) (by kernel_rfl) ?hst ?h0 (Ord.stepsM_cons ?s0 (Ord.stepsM_cons ?s1 (Ord.stepsM_cons ?s2 (Ord.stepsM_cons ?s3 (Ord.stepsM_cons ?s4 (Ord.stepsM_cons ?s5 (Ord.stepsM_cons ?s6 (Ord.stepsM_cons ?s7 (Ord.stepsM_cons ?s8 (Ord.stepsM_cons ?s9 (Ord.stepsM_cons ?s10 (Ord.stepsM_nil)))))))))))) ?fin
      case s0 =>
        intro g W L hL hSW hd
        try simp only [Nat.zero_add, Nat.reduceAdd] at hd ⊢
        with_reducible refine OpGives.pre_reads [] 37 ?_ ?_ ?_
        · rfl
        · kernel_rfl
        simp only [List.map_cons, List.map_nil]
        refine OpGives.val (w' := W) ?_ ⟨Below.refl _ _, rfl, hSW⟩
        go_simp
        try with_reducible rfl
      case s1 =>
        intro g W L hL hSW hd
        try simp only [Nat.zero_add, Nat.reduceAdd] at hd ⊢
        with_reducible refine OpGives.pre_reads [] 37 ?_ ?_ ?_
        · rfl
        · kernel_rfl
        simp only [List.map_cons, List.map_nil]
        refine OpGives.val (w' := W) ?_ ⟨Below.refl _ _, rfl, hSW⟩
        go_simp
        try with_reducible rfl
      case s2 =>
        intro g W L hL hSW hd
        try simp only [Nat.zero_add, Nat.reduceAdd] at hd ⊢
        have h1 : g 1 = _ := hd 1 (by decide) (by kernel_rfl)
        with_reducible refine OpGives.pre_reads [(14, 1)] 37 ?_ ?_ ?_
        · rfl
        · kernel_rfl
        simp only [List.map_cons, List.map_nil]
        obtain ⟨z0, z1⟩ := HCL.out W hSW; refine OpGives.val (v := .int .u8 x.f0) (w' := W) ?_ ⟨Below.refl _ _, rfl, hSW⟩; go_simp
      case s3 =>
        intro g W L hL hSW hd
        try simp only [Nat.zero_add, Nat.reduceAdd] at hd ⊢
        have h2 : g 2 = _ := hd 2 (by decide) (by kernel_rfl)
        with_reducible refine OpGives.pre_reads [(15, 2)] 37 ?_ ?_ ?_
        · rfl
        · kernel_rfl
        simp only [List.map_cons, List.map_nil]
        refine OpGives.val (v := .int .i64 x.f0) (w' := W) ?_ ⟨Below.refl _ _, rfl, hSW⟩; go_simp
      case s4 =>
        intro g W L hL hSW hd
        try simp only [Nat.zero_add, Nat.reduceAdd] at hd ⊢
        have h3 : g 3 = _ := hd 3 (by decide) (by kernel_rfl)
        with_reducible refine OpGives.pre_reads [(16, 3)] 37 ?_ ?_ ?_
        · rfl
        · kernel_rfl
        simp only [List.map_cons, List.map_nil]
        rw [h3]; refine OpGives.call (f := 60) (args := #[.int .i64 x.f0]) (w' := W) (by go_simp) ((num_R x.f0 0 W).mono fun e W' ⟨he, hb⟩ => ⟨_, he, hb, num_F _ _ _, hSW.trans (hb.mono hSW.size)⟩)
      case s5 =>
        intro g W L hL hSW hd
        try simp only [Nat.zero_add, Nat.reduceAdd] at hd ⊢
        with_reducible refine OpGives.pre_reads [] 37 ?_ ?_ ?_
        · rfl
        · kernel_rfl
        simp only [List.map_cons, List.map_nil]
        refine OpGives.val (w' := W) ?_ ⟨Below.refl _ _, rfl, hSW⟩
        go_simp
        try with_reducible rfl
      case s6 =>
        intro g W L hL hSW hd
        try simp only [Nat.zero_add, Nat.reduceAdd] at hd ⊢
        have h5 : g 5 = _ := hd 5 (by decide) (by kernel_rfl)
        with_reducible refine OpGives.pre_reads [(18, 5)] 37 ?_ ?_ ?_
        · rfl
        · kernel_rfl
        simp only [List.map_cons, List.map_nil]
        obtain ⟨z0, z1⟩ := HCL.out W hSW; refine OpGives.val (v := .string x.f1) (w' := W) ?_ ⟨Below.refl _ _, rfl, hSW⟩; go_simp
      case s7 =>
        intro g W L hL hSW hd
        try simp only [Nat.zero_add, Nat.reduceAdd] at hd ⊢
        have h6 : g 6 = _ := hd 6 (by decide) (by kernel_rfl)
        with_reducible refine OpGives.pre_reads [(19, 6)] 37 ?_ ?_ ?_
        · rfl
        · kernel_rfl
        simp only [List.map_cons, List.map_nil]
        rw [h6]; refine OpGives.call (f := 61) (args := #[.string x.f1]) (w' := W) (by go_simp) ((text_R x.f1 0 W).mono fun e W' ⟨he, hb⟩ => ⟨_, he, hb, text_F _ _ _, hSW.trans (hb.mono hSW.size)⟩)
      case s8 =>
        intro g W L hL hSW hd
        try simp only [Nat.zero_add, Nat.reduceAdd] at hd ⊢
        have h4 := hd 4 (by decide) (by kernel_rfl)
        change (cellF W7.heap.size (numC x.f0)) (g 4) W at h4
        have h7 := hd 7 (by decide) (by kernel_rfl)
        change (cellF W7.heap.size (textC x.f1)) (g 7) W at h7
        with_reducible refine OpGives.pre_reads [(17, 4), (20, 7)] 37 ?_ ?_ ?_
        · rfl
        · kernel_rfl
        simp only [List.map_cons, List.map_nil]
        refine OpGives.val (v := .slice (some ⟨W.heap.size, 0, none⟩) 2 2) (w' := W.alloc (.cells ([g 4, g 7].flatMap fun v => v.cells.toList).toArray 42)) (exec_buildSlice 40 2 _ rfl (lit_run2 h4 h7 _ (by simp [rdl_cons]))) ⟨(Below.refl _ _).alloc (Nat.le_refl _) _, litC_of (repsM_2 h4 h7) hSW.size, hSW.alloc hSW.size _⟩
      case s9 =>
        intro g W L hL hSW hd
        try simp only [Nat.zero_add, Nat.reduceAdd] at hd ⊢
        have h8 := hd 8 (by decide) (by kernel_rfl)
        change (litC W7.heap.size [numC x.f0, textC x.f1]) (g 8) W at h8
        with_reducible refine OpGives.pre_reads [(21, 8)] 37 ?_ ?_ ?_
        · rfl
        · kernel_rfl
        simp only [List.map_cons, List.map_nil]
        refine OpGives.call (f := 62) (args := #[g 8]) (w' := W) (by go_simp) ((List_lit h8 (by simp) hSW.size).mono fun e W' ⟨u, he, hf, hb⟩ => ⟨u, he, hb, hf, hSW.trans (hb.mono hSW.size)⟩)
      case s10 =>
        intro g W L hL hSW hd
        try simp only [Nat.zero_add, Nat.reduceAdd] at hd ⊢
        have h9 := hd 9 (by decide) (by kernel_rfl)
        change (cellF W7.heap.size (kidC x)) (g 9) W at h9
        with_reducible refine OpGives.pre_reads [(22, 9)] 37 ?_ ?_ ?_
        · rfl
        · kernel_rfl
        simp only [List.map_cons, List.map_nil]
        refine OpGives.val (v := .slice (some ⟨W.heap.size, 0, none⟩) 1 1) (w' := W.alloc (.cells ([g 9].flatMap fun v => v.cells.toList).toArray 42)) (exec_buildSlice 40 1 _ rfl (lit_run1 h9 _ (by simp [rdl_cons]))) ⟨(Below.refl _ _).alloc (Nat.le_refl _) _, litC_of (repsM_1 h9) hSW.size, hSW.alloc hSW.size _⟩
      case hst =>
        refine fun i j v w w' _ h hR => st_of (R := fun W W' => Below W.heap.size W W') ?_ i v w w' h hR
        repeat' first
          | exact trivial
          | with_reducible refine StL.eq ?_
          | refine ⟨fun v w w' h hR => cellF_below h hR, ?_⟩
          | refine ⟨fun v w w' h hR => litC_below h hR, ?_⟩
      case h0 => exact (Below.refl _ _).drew
      case fin =>
        intro v' W L hL hSW hf
        have h10 := hf 10 (Nat.lt_of_lt_of_eq (by decide : 10 < 11) rfl)
        have h0 : v' 0 = _ := hf 0 (Nat.lt_of_lt_of_eq (by decide : 0 < 11) rfl)
        change litC W7.heap.size [kidC x] (v' 10) W at h10
        clear hf
        generalize hF : Ord.pre _ _ v' _ = F
        rw [Ord.pre_lit [some 13, some 14, some 15, some 16, some 17, some 18, some 19, some 20, some 21, some 22, some 23]
          (by kernel_rfl)] at hF
        simp only [Ord.puts, Nat.zero_add, Nat.reduceAdd] at hF
        subst hF
        rw [h0]
        have hb7W := HB7.out.trans (hSW.mono HB7.out.size)
        have hrW := Kd.R_below HROW.out (⟨hb7W.os, hb7W.tape, hb7W.output, hb7W.size, hb7W.block⟩)
        obtain ⟨v8, W8, hr8, hg8, hR8⟩ := append_lit (b0 := W2.heap.size) (lo := W7.heap.size) hrW (fun k hk => Nat.lt_of_lt_of_le (rC_own HROW.out k hk) HB7.out.size) (Nat.le_trans HBE.out.size HB7.out.size) h10 HLEN.out 40
        have hB8 := grown_below hrW hg8 (HBE.out.trans (hb7W.mono HBE.out.size)) (Nat.le_trans HBE.out.size hb7W.size)
        have hR8' : rC W8 W2.heap.size v8 ((kds.take (i + 1)).map kidC) := by
          rw [List.take_add_one, HX.out]; simpa using hR8
        have HR8 := Lib.hid hR8'
        have HB8 := Lib.hid hB8
        clear hg8 hR8 hR8' hB8 hrW hb7W hSW h10
        refine any_one (i := 11) (by kernel_rfl) ?_
        refine wpOp_value (v := v8) (w' := W8) rfl rfl ?_ ?_
        · refine exec_append (.tmp 13) (.tmp 23) 40 rfl ?_
          have key : ∀ a b ty, a = u3 → b = v' 10 → ty = 40 → (Builtin.append_ #[40, 40] ty #[a, b]).run Tryd.prog W = .ok v8 W8 := by rintro _ _ _ rfl rfl rfl; exact hr8
          refine key _ _ _ ?_ ?_ rfl
          · go_simp
          · go_simp
        refine any_one (i := 12) (by kernel_rfl) ?_
        refine wpOp_value (v := v8) (w' := W8) rfl rfl (by go_simp) ?_
        refine wpAny_done (by kernel_rfl) ?_ _
        try simp only [List.getElem_toArray, List.getElem_cons_succ, List.getElem_cons_zero]
        go_frame
        clear hr8
        go_wp2_with fail
        go_roundw
        case rel => exact ⟨i + 1, by go_num, hil, HR8.out, HB8.out⟩
        case measure => simp [intOf]; omega
    · have hie : i = kds.length := by omega
      rw [hie, List.take_length] at hrow
      have HROW2 := Lib.hid hrow
      have hcl : ∀ W, Below wr.heap.size wr W → (W.cell? ⟨w.heap.size, 1, none⟩ = some (.string lab) ∧ W.cell? ⟨w.heap.size, 2, none⟩ = some (.slice Ar rws.length cr)) ∧ W.heap[w.heap.size + 1]? = some (.cells #[.int .i64 0, .int .i64 0, .string (⟨#[]⟩ : ByteArray), .slice none 0 0] 42 (0, 0)) ∧ Kd.C k55 W Ar rws.length rws ∧ rC W W2.heap.size u3 (kds.map kidC) ∧ W2.heap.size ≤ W.heap.size := fun W hW => by
        have h2 : Below W2.heap.size W2 W := HBE.out.trans (hW.mono HBE.out.size)
        obtain ⟨⟨_, b1, b2, _⟩, _⟩ := box8 ((h2.block _ (Array.getElem?_eq_some_iff.1 HGN.out).1).trans HGN.out)
        exact ⟨⟨b1, b2⟩, (h2.block _ (Array.getElem?_eq_some_iff.1 HG2.out).1).trans HG2.out, Kd.C_below HR.out h2, Kd.R_below HROW2.out hW, h2.size⟩
      have HCL := Lib.hid hcl
      have hkml : (kds.map kidC).length ≤ 1000000 := by rw [List.length_map]; exact hkl
      clear hrow hie hbe hcl
      go_wp2_with fail
      refine' wp_region_factsM (S := (fun _ W => Below wr.heap.size wr W)) (fun _ W W' => Below W.heap.size W W') [cellF W2.heap.size (numC 1), eqM _, eqM (.string lab), cellF W2.heap.size (textC lab), eqM _, eqM (.slice Ar rws.length cr), cellF W2.heap.size (rowsC rws), eqM _, cellF W2.heap.size (listC (kds.map kidC)), litC W2.heap.size [numC 1, textC lab, rowsC rws, listC (kds.map kidC)], cellF W2.heap.size (listC [numC 1, textC lab, rowsC rws, listC (kds.map kidC)])] (by kernel_rfl) (by kernel_rfl) ?hst ?h0 (Ord.stepsM_cons ?s0 (Ord.stepsM_cons ?s1 (Ord.stepsM_cons ?s2 (Ord.stepsM_cons ?s3 (Ord.stepsM_cons ?s4 (Ord.stepsM_cons ?s5 (Ord.stepsM_cons ?s6 (Ord.stepsM_cons ?s7 (Ord.stepsM_cons ?s8 (Ord.stepsM_cons ?s9 (Ord.stepsM_cons ?s10 (Ord.stepsM_nil)))))))))))) ?fin
      case s0 =>
        intro g W L hL hSW hd
        try simp only [Nat.zero_add, Nat.reduceAdd] at hd ⊢
        with_reducible refine OpGives.pre_reads [] 37 ?_ ?_ ?_
        · rfl
        · kernel_rfl
        simp only [List.map_cons, List.map_nil]
        refine OpGives.call (f := 60) (args := #[.int .i64 1]) (w' := W) (by go_simp) ((num_R 1 0 W).mono fun e W' ⟨he, hb⟩ => ⟨_, he, hb, num_F _ _ _, hSW.trans (hb.mono hSW.size)⟩)
      case s1 =>
        intro g W L hL hSW hd
        try simp only [Nat.zero_add, Nat.reduceAdd] at hd ⊢
        with_reducible refine OpGives.pre_reads [] 37 ?_ ?_ ?_
        · rfl
        · kernel_rfl
        simp only [List.map_cons, List.map_nil]
        refine OpGives.val (w' := W) ?_ ⟨Below.refl _ _, rfl, hSW⟩
        go_simp
        try with_reducible rfl
      case s2 =>
        intro g W L hL hSW hd
        try simp only [Nat.zero_add, Nat.reduceAdd] at hd ⊢
        have h1 : g 1 = _ := hd 1 (by decide) (by kernel_rfl)
        with_reducible refine OpGives.pre_reads [(27, 1)] 37 ?_ ?_ ?_
        · rfl
        · kernel_rfl
        simp only [List.map_cons, List.map_nil]
        obtain ⟨⟨z1, z2⟩, _⟩ := HCL.out W hSW; refine OpGives.val (v := .string lab) (w' := W) ?_ ⟨Below.refl _ _, rfl, hSW⟩; go_simp
      case s3 =>
        intro g W L hL hSW hd
        try simp only [Nat.zero_add, Nat.reduceAdd] at hd ⊢
        have h2 : g 2 = _ := hd 2 (by decide) (by kernel_rfl)
        with_reducible refine OpGives.pre_reads [(28, 2)] 37 ?_ ?_ ?_
        · rfl
        · kernel_rfl
        simp only [List.map_cons, List.map_nil]
        rw [h2]; refine OpGives.call (f := 61) (args := #[.string lab]) (w' := W) (by go_simp) ((text_R lab 0 W).mono fun e W' ⟨he, hb⟩ => ⟨_, he, hb, text_F _ _ _, hSW.trans (hb.mono hSW.size)⟩)
      case s4 =>
        intro g W L hL hSW hd
        try simp only [Nat.zero_add, Nat.reduceAdd] at hd ⊢
        with_reducible refine OpGives.pre_reads [] 37 ?_ ?_ ?_
        · rfl
        · kernel_rfl
        simp only [List.map_cons, List.map_nil]
        refine OpGives.val (w' := W) ?_ ⟨Below.refl _ _, rfl, hSW⟩
        go_simp
        try with_reducible rfl
      case s5 =>
        intro g W L hL hSW hd
        try simp only [Nat.zero_add, Nat.reduceAdd] at hd ⊢
        have h4 : g 4 = _ := hd 4 (by decide) (by kernel_rfl)
        with_reducible refine OpGives.pre_reads [(30, 4)] 37 ?_ ?_ ?_
        · rfl
        · kernel_rfl
        simp only [List.map_cons, List.map_nil]
        obtain ⟨⟨z1, z2⟩, _⟩ := HCL.out W hSW; refine OpGives.val (v := .slice Ar rws.length cr) (w' := W) ?_ ⟨Below.refl _ _, rfl, hSW⟩; go_simp
      case s6 =>
        intro g W L hL hSW hd
        try simp only [Nat.zero_add, Nat.reduceAdd] at hd ⊢
        have h5 : g 5 = _ := hd 5 (by decide) (by kernel_rfl)
        with_reducible refine OpGives.pre_reads [(31, 5)] 37 ?_ ?_ ?_
        · rfl
        · kernel_rfl
        simp only [List.map_cons, List.map_nil]
        rw [h5]; refine OpGives.call (f := 37) (args := #[.slice Ar rws.length cr]) (w' := W) (by go_simp) ((rows_calls rws Ar cr W (HCL.out W hSW).2.2.1 hOlr hrl).mono fun e W' ⟨u, he, hf, hb⟩ => ⟨u, he, hb, cellF_lower hf (HCL.out W hSW).2.2.2.2, hSW.trans (hb.mono hSW.size)⟩)
      case s7 =>
        intro g W L hL hSW hd
        try simp only [Nat.zero_add, Nat.reduceAdd] at hd ⊢
        with_reducible refine OpGives.pre_reads [] 37 ?_ ?_ ?_
        · rfl
        · kernel_rfl
        simp only [List.map_cons, List.map_nil]
        refine OpGives.val (w' := W) ?_ ⟨Below.refl _ _, rfl, hSW⟩
        go_simp
        try with_reducible rfl
      case s8 =>
        intro g W L hL hSW hd
        try simp only [Nat.zero_add, Nat.reduceAdd] at hd ⊢
        have h7 : g 7 = _ := hd 7 (by decide) (by kernel_rfl)
        with_reducible refine OpGives.pre_reads [(33, 7)] 37 ?_ ?_ ?_
        · rfl
        · kernel_rfl
        simp only [List.map_cons, List.map_nil]
        rw [h7]; refine OpGives.call (f := 62) (args := #[u3]) (w' := W) (by go_simp) ((List_own (HCL.out W hSW).2.2.2.1 hkml (HCL.out W hSW).2.2.2.2).mono fun e W' ⟨u, he, hf, hb⟩ => ⟨u, he, hb, hf, hSW.trans (hb.mono hSW.size)⟩)
      case s9 =>
        intro g W L hL hSW hd
        try simp only [Nat.zero_add, Nat.reduceAdd] at hd ⊢
        have h0 := hd 0 (by decide) (by kernel_rfl)
        change (cellF W2.heap.size (numC 1)) (g 0) W at h0
        have h3 := hd 3 (by decide) (by kernel_rfl)
        change (cellF W2.heap.size (textC lab)) (g 3) W at h3
        have h6 := hd 6 (by decide) (by kernel_rfl)
        change (cellF W2.heap.size (rowsC rws)) (g 6) W at h6
        have h8 := hd 8 (by decide) (by kernel_rfl)
        change (cellF W2.heap.size (listC (kds.map kidC))) (g 8) W at h8
        with_reducible refine OpGives.pre_reads [(26, 0), (29, 3), (32, 6), (34, 8)] 37 ?_ ?_ ?_
        · rfl
        · kernel_rfl
        simp only [List.map_cons, List.map_nil]
        refine OpGives.val (v := .slice (some ⟨W.heap.size, 0, none⟩) 4 4) (w' := W.alloc (.cells ([g 0, g 3, g 6, g 8].flatMap fun v => v.cells.toList).toArray 42)) (exec_buildSlice 40 4 _ rfl (lit_run4 h0 h3 h6 h8 _ (by simp [rdl_cons]))) ⟨(Below.refl _ _).alloc (Nat.le_refl _) _, litC_of (repsM_4 h0 h3 h6 h8) (HCL.out W hSW).2.2.2.2, hSW.alloc hSW.size _⟩
      case s10 =>
        intro g W L hL hSW hd
        try simp only [Nat.zero_add, Nat.reduceAdd] at hd ⊢
        have h9 := hd 9 (by decide) (by kernel_rfl)
        change (litC W2.heap.size [numC 1, textC lab, rowsC rws, listC (kds.map kidC)]) (g 9) W at h9
        with_reducible refine OpGives.pre_reads [(35, 9)] 37 ?_ ?_ ?_
        · rfl
        · kernel_rfl
        simp only [List.map_cons, List.map_nil]
        refine OpGives.call (f := 62) (args := #[g 9]) (w' := W) (by go_simp) ((List_lit h9 (by simp) (HCL.out W hSW).2.2.2.2).mono fun e W' ⟨u, he, hf, hb⟩ => ⟨u, he, hb, hf, hSW.trans (hb.mono hSW.size)⟩)
      case hst =>
        refine fun i j v w w' _ h hR => st_of (R := fun W W' => Below W.heap.size W W') ?_ i v w w' h hR
        repeat' first
          | exact trivial
          | with_reducible refine StL.eq ?_
          | refine ⟨fun v w w' h hR => cellF_below h hR, ?_⟩
          | refine ⟨fun v w w' h hR => litC_below h hR, ?_⟩
      case h0 => exact (Below.refl _ _).drew
      case fin =>
        intro v' W L hL hSW hf
        have h10 := hf 10 (Nat.lt_of_lt_of_eq (by decide : 10 < 11) rfl)
        change cellF W2.heap.size (listC [numC 1, textC lab, rowsC rws, listC (kds.map kidC)]) (v' 10) W at h10
        clear hf
        generalize hF : Ord.pre _ _ v' _ = F
        rw [Ord.pre_lit [some 26, some 27, some 28, some 29, some 30, some 31, some 32, some 33, some 34, some 35, some 36]
          (by kernel_rfl)] at hF
        simp only [Ord.puts, Nat.zero_add, Nat.reduceAdd] at hF
        subst hF
        obtain ⟨v3, e10, hR3⟩ := h10
        obtain ⟨A3, c3, rfl⟩ := R_slice hR3
        rw [e10]
        have hgb := (HCL.out W hSW).2.1
        obtain ⟨⟨z0, z1, z2, z3⟩, f0, f1, f2, f3⟩ := box4 hgb
        have hbw : Below w.heap.size w W := HB2.out.trans ((HBE.out.trans (hSW.mono HBE.out.size)).mono HB2.out.size)
        have HGB := Lib.hid hgb
        have HBW := Lib.hid hbw
        have HR3 := Lib.hid hR3
        clear hgb hbw hR3 hSW e10
        refine any_one (i := 11) (by kernel_rfl) ?_
        refine wpOp_skip (w' := put4 W (w.heap.size + 1) (.int .i64 3) (.int .i64 0) (.string (⟨#[]⟩ : ByteArray)) (.slice A3 (listC [numC 1, textC lab, rowsC rws, listC (kds.map kidC)]).f3.length c3)) rfl rfl (by unfold put4 listC; go_simp) ?_
        refine wpAny_done (by kernel_rfl) ?_ _
        try simp only [List.getElem_toArray, List.getElem_cons_succ, List.getElem_cons_zero]
        go_frame
        have hgf := four_put HGB.out (.int .i64 3) (.int .i64 0) (.string (⟨#[]⟩ : ByteArray)) (.slice A3 (listC [numC 1, textC lab, rowsC rws, listC (kds.map kidC)]).f3.length c3)
        have hrf := rC_put HR3.out (g := w.heap.size + 1) (b0 := w.heap.size) (by have := HS2.out; omega) (by have := HS2.out; omega) (.int .i64 3) (.int .i64 0) (.string (⟨#[]⟩ : ByteArray)) (.slice A3 (listC [numC 1, textC lab, rowsC rws, listC (kds.map kidC)]).f3.length c3)
        have hbf := put4_below' HBW.out (g := w.heap.size + 1) (by omega) (.int .i64 3) (.int .i64 0) (.string (⟨#[]⟩ : ByteArray)) (.slice A3 (listC [numC 1, textC lab, rowsC rws, listC (kds.map kidC)]).f3.length c3)
        have HGF := Lib.hid (show (put4 W (w.heap.size + 1) (.int .i64 3) (.int .i64 0) (.string (⟨#[]⟩ : ByteArray)) (.slice A3 (listC [numC 1, textC lab, rowsC rws, listC (kds.map kidC)]).f3.length c3)).heap[w.heap.size + 1]? = _ from hgf)
        have HRF := Lib.hid hrf
        have HBF := Lib.hid hbf
        clear hgf hrf hbf z0 z1 z2 z3 f0 f1 f2 f3 HGB HBW HR3
        generalize put4 W (w.heap.size + 1) (.int .i64 3) (.int .i64 0) (.string (⟨#[]⟩ : ByteArray)) (.slice A3 (listC [numC 1, textC lab, rowsC rws, listC (kds.map kidC)]).f3.length c3) = WF at *
        go_wp2_with fail
        refine bodyPost_ret (results_cell_row rfl _ _ (w.heap.size + 1) 42 #[.int .i64 3, .int .i64 0, .string (⟨#[]⟩ : ByteArray), .slice A3 (listC [numC 1, textC lab, rowsC rws, listC (kds.map kidC)]).f3.length c3] (0, 0) _ rfl HGF.out Tryd.underlying42 rfl (by kernel_rfl)) rfl ?_
        exact ⟨_, rfl, ⟨_, rfl, HRF.out⟩, HBF.out⟩
end Go.Proofs.YtgjlchcfdbmmlaaDoor.PObjectTakes
