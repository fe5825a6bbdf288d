/- Texts of one proof, joined: TOH. -/
import Derived.Test.YtgjlchcfdbmmlaaDoorROdg
set_option linter.unusedSimpArgs false
set_option linter.unusedVariables false
/- commit.cell walked. -/
namespace Go.Proofs.YtgjlchcfdbmmlaaDoor.PObjectTakes
open Go.RowKit Go.Proofs.YtgjlchcfdbmmlaaDoor.Ord Go.Proofs.YtgjlchcfdbmmlaaDoor.Obj Go.Proofs.YtgjlchcfdbmmlaaDoorW.PrintWords Go.Proofs.YtgjlchcfdbmmlaaDoorW.PrintLast Go.Proofs.YtgjlchcfdbmmlaaDoorW.PrintMore
set_option linter.unusedVariables false
set_option linter.unusedSimpArgs false
attribute [local irreducible] OpGives
attribute [local go_sem] rdl_const rdl_func rdl_global rdl_nil rdl_cons

def commitC (o : Ob) : S42 := listC [numC 2, listC (o.parents.map textC), numC o.stamp, textC o.note, textC o.root]
set_option maxHeartbeats 16000000 in
set_option maxRecDepth 100000 in
theorem ccell_calls (o : Ob) (Ar : Option Addr) (cr : Nat) (Ak : Option Addr) (ck : Nat) (Ap : Option Addr) (cp : Nat) (w : World) (hO : ObAt w o Ar cr Ak ck Ap cp) (hpl : o.parents.length ≤ 1000000) :
    Calls Tryd.prog 109 #[.agg (obV o Ar cr Ak ck Ap cp)] w (CellPostR w.heap.size (commitC o) w) := by
  obtain ⟨knd, lab, rws, kds, prs, stp, nte, rot⟩ := o
  unfold obV commitC
  simp only at hO hpl ⊢
  have hOp := hO.p
  simp only at hOp
  obtain ⟨W1, hW1⟩ : ∃ W1, W1 = w.alloc (.cells #[.int .i64 knd, .string lab, .slice Ar rws.length cr, .slice Ak kds.length ck, .slice Ap prs.length cp, .int .i64 stp, .string nte, .string rot] 87) := ⟨_, rfl⟩
  have hn1 : Below w.heap.size w W1 := by rw [hW1]; exact (Below.refl _ _).alloc (Nat.le_refl _) _
  have hg1 : W1.heap[w.heap.size]? = some (.cells #[.int .i64 knd, .string lab, .slice Ar rws.length cr, .slice Ak kds.length ck, .slice Ap prs.length cp, .int .i64 stp, .string nte, .string rot] 87 (0, 0)) := by rw [hW1]; exact alloc_lastV _ _
  have hs1 : W1.heap.size = w.heap.size + 1 := by rw [hW1]; simp
  obtain ⟨W2, hW2⟩ : ∃ W2, W2 = W1.alloc (.cells #[.int .i64 0, .int .i64 0, .string (⟨#[]⟩ : ByteArray), .slice none 0 0] 42) := ⟨_, rfl⟩
  have hn2 : Below W1.heap.size W1 W2 := by rw [hW2]; exact (Below.refl _ _).alloc (Nat.le_refl _) _
  have hg2 : W2.heap[w.heap.size + 1]? = some (.cells #[.int .i64 0, .int .i64 0, .string (⟨#[]⟩ : ByteArray), .slice none 0 0] 42 (0, 0)) := by rw [hW2, ← hs1]; exact alloc_lastV _ _
  have hs2 : W2.heap.size = w.heap.size + 2 := by rw [hW2]; simp [hs1]
  have hgn := (hn2.block _ (Array.getElem?_eq_some_iff.1 hg1).1).trans hg1
  have hb2 : Below w.heap.size w W2 := hn1.trans (hn2.mono hn1.size)
  obtain ⟨⟨b0, b1, b2, b3⟩, b4, b5, b6, b7⟩ := box8 hgn
  have HP := Lib.hid (Kd.C_below hOp hb2)
  have HGN := Lib.hid hgn
  have HG2 := Lib.hid hg2
  have HB2 := Lib.hid hb2
  have HS2 := Lib.hid hs2
  rw [hW2, hW1] at b0 b1 b2 b3 b4 b5 b6 b7
  rw [hW1] at hW2
  have HW2 := Lib.hid hW2
  clear hW1 hW2 hn1 hg1 hs1 hn2 hg2 hs2 hgn hb2 hO hOp
  go_enter Tryd.func109, Tryd.ntmps109
  go_wp2_with fail
  rw [← HW2.out]
  clear b0 b1 b2 b3 b4 b5 b6 b7
  go_loopw [3, 9] (fun v i wr => ∃ k : Nat, i = .int .i64 (k : Int) ∧ k ≤ prs.length ∧ rC wr W2.heap.size v ((prs.take k).map textC) ∧ Below W2.heap.size W2 wr) (fun _ i _ => prs.length - (intOf i).toNat)
  case atStart => exact ⟨0, rfl, Nat.zero_le _, Kd.R_nil _ _ _ _ _, Below.refl _ _⟩
  case round =>
    obtain ⟨i, rfl, hi, hrow, hbe⟩ := hrel
    have HROW := Lib.hid hrow
    have HBE := Lib.hid hbe
    by_cases hil : i < prs.length
    · obtain ⟨x, hx⟩ : ∃ x, prs[i]? = some x := ⟨_, List.getElem?_eq_getElem hil⟩
      obtain ⟨ad, rfl, c0, hbk⟩ := str_at (Kd.C_below HP.out hbe) hx
      have HX := Lib.hid hx
      have hlen : ((prs.take i).map textC).length ≤ 1000000 := by rw [List.length_map, List.length_take]; omega
      have HLEN := Lib.hid hlen
      clear hx hlen hrow hbe
      go_wp2_with fail
      clear c0 hbk
      refine (text_R x 0 wr).mono ?_
      rintro e W4 ⟨rfl, hb4⟩
      obtain ⟨W5, hW5⟩ : ∃ W5, W5 = W4.alloc (.cells #[.int .i64 2, .int .i64 0, .string x, .slice none 0 0] 42) := ⟨_, rfl⟩
      have hl5 : litC W4.heap.size [textC x] (.slice (some ⟨W4.heap.size, 0, none⟩) 1 1) W5 := by rw [hW5]; exact litC_of (repsM_1 (text_F x _ _)) (Nat.le_refl _)
      have hb5 : Below W4.heap.size W4 W5 := by rw [hW5]; exact (Below.refl _ _).alloc (Nat.le_refl _) _
      have hbw : Below wr.heap.size wr W5 := hb4.trans (hb5.mono hb4.size)
      have hrW := Kd.R_below HROW.out hbw
      obtain ⟨v8, W8, hr8, hg8, hR8⟩ := append_lit (b0 := W2.heap.size) (lo := W4.heap.size) hrW (fun k hk => Nat.lt_of_lt_of_le (rC_own HROW.out k hk) hb4.size) (Nat.le_trans HBE.out.size hb4.size) hl5 HLEN.out 40
      have hB8 := grown_below hrW hg8 (HBE.out.trans (hbw.mono HBE.out.size)) (Nat.le_trans HBE.out.size hbw.size)
      have hR8' : rC W8 W2.heap.size v8 ((prs.take (i + 1)).map textC) := by
        rw [List.take_add_one, HX.out]; simpa using hR8
      have HR8 := Lib.hid hR8'
      have HB8 := Lib.hid hB8
      rw [hW5] at hr8
      have HAPP := Lib.hid hr8
      clear hg8 hR8 hR8' hB8 hrW hbw hl5 hb5 hW5 hb4 hr8
      go_wp2_with (refine wpList_value rfl (exec_append _ _ 40 rfl HAPP.out) ?_)
      go_roundw
      case rel => exact ⟨i + 1, by go_num, hil, HR8.out, HB8.out⟩
      case measure => simp [intOf]; omega
    · have hie : i = prs.length := by omega
      rw [hie, List.take_length] at hrow
      have HROW2 := Lib.hid hrow
      have hcl : ∀ W, Below wr.heap.size wr W → (W.cell? ⟨w.heap.size, 5, none⟩ = some (.int .i64 stp) ∧ W.cell? ⟨w.heap.size, 6, none⟩ = some (.string nte) ∧ W.cell? ⟨w.heap.size, 7, none⟩ = some (.string rot)) ∧ W.heap[w.heap.size + 1]? = some (.cells #[.int .i64 0, .int .i64 0, .string (⟨#[]⟩ : ByteArray), .slice none 0 0] 42 (0, 0)) ∧ rC W W2.heap.size u3 (prs.map textC) ∧ W2.heap.size ≤ W.heap.size := fun W hW => by
        have h2 : Below W2.heap.size W2 W := HBE.out.trans (hW.mono HBE.out.size)
        obtain ⟨_, _, b5, b6, b7⟩ := box8 ((h2.block _ (Array.getElem?_eq_some_iff.1 HGN.out).1).trans HGN.out)
        exact ⟨⟨b5, b6, b7⟩, (h2.block _ (Array.getElem?_eq_some_iff.1 HG2.out).1).trans HG2.out, Kd.R_below HROW2.out hW, h2.size⟩
      have HCL := Lib.hid hcl
      have hkml : (prs.map textC).length ≤ 1000000 := by rw [List.length_map]; exact hpl
      clear hrow hie hbe hcl
      go_wp2_with fail
      refine' wp_region_factsM (S := (fun _ W => Below wr.heap.size wr W)) (fun _ W W' => Below W.heap.size W W') [cellF W2.heap.size (numC 2), eqM _, cellF W2.heap.size (listC (prs.map textC)), eqM _, eqM (.int .i64 stp), cellF W2.heap.size (numC stp), eqM _, eqM (.string nte), cellF W2.heap.size (textC nte), eqM _, eqM (.string rot), cellF W2.heap.size (textC rot), litC W2.heap.size [numC 2, listC (prs.map textC), numC stp, textC nte, textC rot], cellF W2.heap.size (listC [numC 2, listC (prs.map textC), numC stp, textC nte, textC rot])] (by kernel_rfl) (by kernel_rfl) ?hst ?h0 (Ord.stepsM_cons ?s0 (Ord.stepsM_cons ?s1 (Ord.stepsM_cons ?s2 (Ord.stepsM_cons ?s3 (Ord.stepsM_cons ?s4 (Ord.stepsM_cons ?s5 (Ord.stepsM_cons ?s6 (Ord.stepsM_cons ?s7 (Ord.stepsM_cons ?s8 (Ord.stepsM_cons ?s9 (Ord.stepsM_cons ?s10 (Ord.stepsM_cons ?s11 (Ord.stepsM_cons ?s12 (Ord.stepsM_cons ?s13 (Ord.stepsM_nil))))))))))))))) ?fin
      case s0 =>
        intro g W L hL hSW hd
        try simp only [Nat.zero_add, Nat.reduceAdd] at hd ⊢
        with_reducible refine OpGives.pre_reads [] 33 ?_ ?_ ?_
        · rfl
        · kernel_rfl
        simp only [List.map_cons, List.map_nil]
        refine OpGives.call (f := 60) (args := #[.int .i64 2]) (w' := W) (by go_simp) ((num_R 2 0 W).mono fun e W' ⟨he, hb⟩ => ⟨_, he, hb, num_F _ _ _, hSW.trans (hb.mono hSW.size)⟩)
      case s1 =>
        intro g W L hL hSW hd
        try simp only [Nat.zero_add, Nat.reduceAdd] at hd ⊢
        with_reducible refine OpGives.pre_reads [] 33 ?_ ?_ ?_
        · rfl
        · kernel_rfl
        simp only [List.map_cons, List.map_nil]
        refine OpGives.val (w' := W) ?_ ⟨Below.refl _ _, rfl, hSW⟩
        go_simp
        try with_reducible rfl
      case s2 =>
        intro g W L hL hSW hd
        try simp only [Nat.zero_add, Nat.reduceAdd] at hd ⊢
        have h1 : g 1 = _ := hd 1 (by decide) (by kernel_rfl)
        with_reducible refine OpGives.pre_reads [(20, 1)] 33 ?_ ?_ ?_
        · rfl
        · kernel_rfl
        simp only [List.map_cons, List.map_nil]
        rw [h1]; refine OpGives.call (f := 62) (args := #[u3]) (w' := W) (by go_simp) ((List_own (HCL.out W hSW).2.2.1 hkml (HCL.out W hSW).2.2.2).mono fun e W' ⟨u, he, hf, hb⟩ => ⟨u, he, hb, hf, hSW.trans (hb.mono hSW.size)⟩)
      case s3 =>
        intro g W L hL hSW hd
        try simp only [Nat.zero_add, Nat.reduceAdd] at hd ⊢
        with_reducible refine OpGives.pre_reads [] 33 ?_ ?_ ?_
        · rfl
        · kernel_rfl
        simp only [List.map_cons, List.map_nil]
        refine OpGives.val (w' := W) ?_ ⟨Below.refl _ _, rfl, hSW⟩
        go_simp
        try with_reducible rfl
      case s4 =>
        intro g W L hL hSW hd
        try simp only [Nat.zero_add, Nat.reduceAdd] at hd ⊢
        have h3 : g 3 = _ := hd 3 (by decide) (by kernel_rfl)
        with_reducible refine OpGives.pre_reads [(22, 3)] 33 ?_ ?_ ?_
        · rfl
        · kernel_rfl
        simp only [List.map_cons, List.map_nil]
        obtain ⟨⟨z1, z2, z3⟩, _⟩ := HCL.out W hSW; refine OpGives.val (v := .int .i64 stp) (w' := W) ?_ ⟨Below.refl _ _, rfl, hSW⟩; go_simp
      case s5 =>
        intro g W L hL hSW hd
        try simp only [Nat.zero_add, Nat.reduceAdd] at hd ⊢
        have h4 : g 4 = _ := hd 4 (by decide) (by kernel_rfl)
        with_reducible refine OpGives.pre_reads [(23, 4)] 33 ?_ ?_ ?_
        · rfl
        · kernel_rfl
        simp only [List.map_cons, List.map_nil]
        rw [h4]; refine OpGives.call (f := 60) (args := #[.int .i64 stp]) (w' := W) (by go_simp) ((num_R stp 0 W).mono fun e W' ⟨he, hb⟩ => ⟨_, he, hb, num_F _ _ _, hSW.trans (hb.mono hSW.size)⟩)
      case s6 =>
        intro g W L hL hSW hd
        try simp only [Nat.zero_add, Nat.reduceAdd] at hd ⊢
        with_reducible refine OpGives.pre_reads [] 33 ?_ ?_ ?_
        · rfl
        · kernel_rfl
        simp only [List.map_cons, List.map_nil]
        refine OpGives.val (w' := W) ?_ ⟨Below.refl _ _, rfl, hSW⟩
        go_simp
        try with_reducible rfl
      case s7 =>
        intro g W L hL hSW hd
        try simp only [Nat.zero_add, Nat.reduceAdd] at hd ⊢
        have h6 : g 6 = _ := hd 6 (by decide) (by kernel_rfl)
        with_reducible refine OpGives.pre_reads [(25, 6)] 33 ?_ ?_ ?_
        · rfl
        · kernel_rfl
        simp only [List.map_cons, List.map_nil]
        obtain ⟨⟨z1, z2, z3⟩, _⟩ := HCL.out W hSW; refine OpGives.val (v := .string nte) (w' := W) ?_ ⟨Below.refl _ _, rfl, hSW⟩; go_simp
      case s8 =>
        intro g W L hL hSW hd
        try simp only [Nat.zero_add, Nat.reduceAdd] at hd ⊢
        have h7 : g 7 = _ := hd 7 (by decide) (by kernel_rfl)
        with_reducible refine OpGives.pre_reads [(26, 7)] 33 ?_ ?_ ?_
        · rfl
        · kernel_rfl
        simp only [List.map_cons, List.map_nil]
        rw [h7]; refine OpGives.call (f := 61) (args := #[.string nte]) (w' := W) (by go_simp) ((text_R nte 0 W).mono fun e W' ⟨he, hb⟩ => ⟨_, he, hb, text_F _ _ _, hSW.trans (hb.mono hSW.size)⟩)
      case s9 =>
        intro g W L hL hSW hd
        try simp only [Nat.zero_add, Nat.reduceAdd] at hd ⊢
        with_reducible refine OpGives.pre_reads [] 33 ?_ ?_ ?_
        · rfl
        · kernel_rfl
        simp only [List.map_cons, List.map_nil]
        refine OpGives.val (w' := W) ?_ ⟨Below.refl _ _, rfl, hSW⟩
        go_simp
        try with_reducible rfl
      case s10 =>
        intro g W L hL hSW hd
        try simp only [Nat.zero_add, Nat.reduceAdd] at hd ⊢
        have h9 : g 9 = _ := hd 9 (by decide) (by kernel_rfl)
        with_reducible refine OpGives.pre_reads [(28, 9)] 33 ?_ ?_ ?_
        · rfl
        · kernel_rfl
        simp only [List.map_cons, List.map_nil]
        obtain ⟨⟨z1, z2, z3⟩, _⟩ := HCL.out W hSW; refine OpGives.val (v := .string rot) (w' := W) ?_ ⟨Below.refl _ _, rfl, hSW⟩; go_simp
      case s11 =>
        intro g W L hL hSW hd
        try simp only [Nat.zero_add, Nat.reduceAdd] at hd ⊢
        have h10 : g 10 = _ := hd 10 (by decide) (by kernel_rfl)
        with_reducible refine OpGives.pre_reads [(29, 10)] 33 ?_ ?_ ?_
        · rfl
        · kernel_rfl
        simp only [List.map_cons, List.map_nil]
        rw [h10]; refine OpGives.call (f := 61) (args := #[.string rot]) (w' := W) (by go_simp) ((text_R rot 0 W).mono fun e W' ⟨he, hb⟩ => ⟨_, he, hb, text_F _ _ _, hSW.trans (hb.mono hSW.size)⟩)
      case s12 =>
        intro g W L hL hSW hd
        try simp only [Nat.zero_add, Nat.reduceAdd] at hd ⊢
        have h0 := hd 0 (by decide) (by kernel_rfl)
        change (cellF W2.heap.size (numC 2)) (g 0) W at h0
        have h2 := hd 2 (by decide) (by kernel_rfl)
        change (cellF W2.heap.size (listC (prs.map textC))) (g 2) W at h2
        have h5 := hd 5 (by decide) (by kernel_rfl)
        change (cellF W2.heap.size (numC stp)) (g 5) W at h5
        have h8 := hd 8 (by decide) (by kernel_rfl)
        change (cellF W2.heap.size (textC nte)) (g 8) W at h8
        have h11 := hd 11 (by decide) (by kernel_rfl)
        change (cellF W2.heap.size (textC rot)) (g 11) W at h11
        with_reducible refine OpGives.pre_reads [(19, 0), (21, 2), (24, 5), (27, 8), (30, 11)] 33 ?_ ?_ ?_
        · rfl
        · kernel_rfl
        simp only [List.map_cons, List.map_nil]
        refine OpGives.val (v := .slice (some ⟨W.heap.size, 0, none⟩) 5 5) (w' := W.alloc (.cells ([g 0, g 2, g 5, g 8, g 11].flatMap fun v => v.cells.toList).toArray 42)) (exec_buildSlice 40 5 _ rfl (lit_run5 h0 h2 h5 h8 h11 _ (by simp [rdl_cons]))) ⟨(Below.refl _ _).alloc (Nat.le_refl _) _, litC_of (repsM_5 h0 h2 h5 h8 h11) (HCL.out W hSW).2.2.2, hSW.alloc hSW.size _⟩
      case s13 =>
        intro g W L hL hSW hd
        try simp only [Nat.zero_add, Nat.reduceAdd] at hd ⊢
        have h12 := hd 12 (by decide) (by kernel_rfl)
        change (litC W2.heap.size [numC 2, listC (prs.map textC), numC stp, textC nte, textC rot]) (g 12) W at h12
        with_reducible refine OpGives.pre_reads [(31, 12)] 33 ?_ ?_ ?_
        · rfl
        · kernel_rfl
        simp only [List.map_cons, List.map_nil]
        refine OpGives.call (f := 62) (args := #[g 12]) (w' := W) (by go_simp) ((List_lit h12 (by simp) (HCL.out W hSW).2.2.2).mono fun e W' ⟨u, he, hf, hb⟩ => ⟨u, he, hb, hf, hSW.trans (hb.mono hSW.size)⟩)
      case hst =>
        refine fun i j v w w' _ h hR => st_of (R := fun W W' => Below W.heap.size W W') ?_ i v w w' h hR
        repeat' first
          | exact trivial
          | with_reducible refine StL.eq ?_
          | refine ⟨fun v w w' h hR => cellF_below h hR, ?_⟩
          | refine ⟨fun v w w' h hR => litC_below h hR, ?_⟩
      case h0 => exact (Below.refl _ _).drew
      case fin =>
        intro v' W L hL hSW hf
        have h10 := hf 13 (Nat.lt_of_lt_of_eq (by decide : 13 < 14) rfl)
        change cellF W2.heap.size (listC [numC 2, listC (prs.map textC), numC stp, textC nte, textC rot]) (v' 13) W at h10
        clear hf
        generalize hF : Ord.pre _ _ v' _ = F
        rw [Ord.pre_lit [some 19, some 20, some 21, some 22, some 23, some 24, some 25, some 26, some 27, some 28, some 29, some 30, some 31, some 32]
          (by kernel_rfl)] at hF
        simp only [Ord.puts, Nat.zero_add, Nat.reduceAdd] at hF
        subst hF
        obtain ⟨v3, e10, hR3⟩ := h10
        obtain ⟨A3, c3, rfl⟩ := R_slice hR3
        rw [e10]
        have hgb := (HCL.out W hSW).2.1
        obtain ⟨⟨z0, z1, z2, z3⟩, f0, f1, f2, f3⟩ := box4 hgb
        have hbw : Below w.heap.size w W := HB2.out.trans ((HBE.out.trans (hSW.mono HBE.out.size)).mono HB2.out.size)
        have HGB := Lib.hid hgb
        have HBW := Lib.hid hbw
        have HR3 := Lib.hid hR3
        clear hgb hbw hR3 hSW e10
        refine any_one (i := 14) (by kernel_rfl) ?_
        refine wpOp_skip (w' := put4 W (w.heap.size + 1) (.int .i64 3) (.int .i64 0) (.string (⟨#[]⟩ : ByteArray)) (.slice A3 (listC [numC 2, listC (prs.map textC), numC stp, textC nte, textC rot]).f3.length c3)) rfl rfl (by unfold put4 listC; go_simp) ?_
        refine wpAny_done (by kernel_rfl) ?_ _
        try simp only [List.getElem_toArray, List.getElem_cons_succ, List.getElem_cons_zero]
        go_frame
        have hgf := four_put HGB.out (.int .i64 3) (.int .i64 0) (.string (⟨#[]⟩ : ByteArray)) (.slice A3 (listC [numC 2, listC (prs.map textC), numC stp, textC nte, textC rot]).f3.length c3)
        have hrf := rC_put HR3.out (g := w.heap.size + 1) (b0 := w.heap.size) (by have := HS2.out; omega) (by have := HS2.out; omega) (.int .i64 3) (.int .i64 0) (.string (⟨#[]⟩ : ByteArray)) (.slice A3 (listC [numC 2, listC (prs.map textC), numC stp, textC nte, textC rot]).f3.length c3)
        have hbf := put4_below' HBW.out (g := w.heap.size + 1) (by omega) (.int .i64 3) (.int .i64 0) (.string (⟨#[]⟩ : ByteArray)) (.slice A3 (listC [numC 2, listC (prs.map textC), numC stp, textC nte, textC rot]).f3.length c3)
        have HGF := Lib.hid (show (put4 W (w.heap.size + 1) (.int .i64 3) (.int .i64 0) (.string (⟨#[]⟩ : ByteArray)) (.slice A3 (listC [numC 2, listC (prs.map textC), numC stp, textC nte, textC rot]).f3.length c3)).heap[w.heap.size + 1]? = _ from hgf)
        have HRF := Lib.hid hrf
        have HBF := Lib.hid hbf
        clear hgf hrf hbf z0 z1 z2 z3 f0 f1 f2 f3 HGB HBW HR3
        generalize put4 W (w.heap.size + 1) (.int .i64 3) (.int .i64 0) (.string (⟨#[]⟩ : ByteArray)) (.slice A3 (listC [numC 2, listC (prs.map textC), numC stp, textC nte, textC rot]).f3.length c3) = WF at *
        go_wp2_with fail
        refine bodyPost_ret (results_cell_row rfl _ _ (w.heap.size + 1) 42 #[.int .i64 3, .int .i64 0, .string (⟨#[]⟩ : ByteArray), .slice A3 (listC [numC 2, listC (prs.map textC), numC stp, textC nte, textC rot]).f3.length c3] (0, 0) _ rfl HGF.out Tryd.underlying42 rfl (by kernel_rfl)) rfl ?_
        exact ⟨_, rfl, ⟨_, rfl, HRF.out⟩, HBF.out⟩
end Go.Proofs.YtgjlchcfdbmmlaaDoor.PObjectTakes
