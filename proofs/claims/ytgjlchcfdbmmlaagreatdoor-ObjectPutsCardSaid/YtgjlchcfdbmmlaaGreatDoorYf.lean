/- Texts of one proof, joined: ZOH, ZOI, ZUC, ZUD, ZOJ, ZUE, PObjectPutsx13. -/
import Derived.Test.YtgjlchcfdbmmlaaGreatDoorYe
import Derived.Test.YtgjlchcfdbmmlaaGreatDoorYd
import Derived.Handy
import Derived.Laws.OwnMore
import Derived.Test.YtgjlchcfdbmmlaaGreatDoorYc
set_option linter.unusedSimpArgs false
set_option linter.unusedVariables false
namespace Go.Proofs.YtgjlchcfdbmmlaaGreatDoor.PObjectPuts
open Go.RowKit Go.Proofs.YtgjlchcfdbmmlaaGreatDoor.Ord Go.Proofs.YtgjlchcfdbmmlaaGreatDoor.Obj Go.Proofs.YtgjlchcfdbmmlaaGreatDoorW.PrintWords Go.Proofs.YtgjlchcfdbmmlaaGreatDoorW.PrintLast Go.Proofs.YtgjlchcfdbmmlaaGreatDoorW.PrintMore
attribute [local irreducible] OpGives
attribute [local go_sem] rdl_const rdl_func rdl_global rdl_nil rdl_cons

def commitC (o : Ob) : S38 := listC [numC 2, listC (o.parents.map textC), numC o.stamp, textC o.note, textC o.root]
set_option maxHeartbeats 16000000 in
set_option maxRecDepth 100000 in
theorem ccell_calls (o : Ob) (Ar : Option Addr) (cr : Nat) (Ak : Option Addr) (ck : Nat) (Ap : Option Addr) (cp : Nat) (w : World) (hO : ObAt w o Ar cr Ak ck Ap cp) (hpl : o.parents.length ≤ 1000000) :
    Calls Tryz.prog 113 #[.agg (obV o Ar cr Ak ck Ap cp)] w (CellPostR w.heap.size (commitC o) w) := by
  obtain ⟨knd, lab, rws, kds, prs, stp, nte, rot⟩ := o
  unfold obV commitC
  simp only at hO hpl ⊢
  have hOp := hO.p
  simp only at hOp
  obtain ⟨W1, hW1⟩ : ∃ W1, W1 = w.alloc (.cells #[.int .i64 knd, .string lab, .slice Ar rws.length cr, .slice Ak kds.length ck, .slice Ap prs.length cp, .int .i64 stp, .string nte, .string rot] 74) := ⟨_, rfl⟩
  have hn1 : Below w.heap.size w W1 := by rw [hW1]; exact (Below.refl _ _).alloc (Nat.le_refl _) _
  have hg1 : W1.heap[w.heap.size]? = some (.cells #[.int .i64 knd, .string lab, .slice Ar rws.length cr, .slice Ak kds.length ck, .slice Ap prs.length cp, .int .i64 stp, .string nte, .string rot] 74 (0, 0)) := by rw [hW1]; exact alloc_lastV _ _
  have hs1 : W1.heap.size = w.heap.size + 1 := by rw [hW1]; simp
  obtain ⟨W2, hW2⟩ : ∃ W2, W2 = W1.alloc (.cells #[.int .i64 0, .int .i64 0, .string (⟨#[]⟩ : ByteArray), .slice none 0 0] 38) := ⟨_, rfl⟩
  have hn2 : Below W1.heap.size W1 W2 := by rw [hW2]; exact (Below.refl _ _).alloc (Nat.le_refl _) _
  have hg2 : W2.heap[w.heap.size + 1]? = some (.cells #[.int .i64 0, .int .i64 0, .string (⟨#[]⟩ : ByteArray), .slice none 0 0] 38 (0, 0)) := by rw [hW2, ← hs1]; exact alloc_lastV _ _
  have hs2 : W2.heap.size = w.heap.size + 2 := by rw [hW2]; simp [hs1]
  have hgn := (hn2.block _ (Array.getElem?_eq_some_iff.1 hg1).1).trans hg1
  have hb2 : Below w.heap.size w W2 := hn1.trans (hn2.mono hn1.size)
  obtain ⟨⟨b0, b1, b2, b3⟩, b4, b5, b6, b7⟩ := box8 hgn
  have HP := Lib.hid (Kd.C_below hOp hb2)
  have HGN := Lib.hid hgn
  have HG2 := Lib.hid hg2
  have HB2 := Lib.hid hb2
  have HS2 := Lib.hid hs2
  rw [hW2, hW1] at b0 b1 b2 b3 b4 b5 b6 b7
  rw [hW1] at hW2
  have HW2 := Lib.hid hW2
  clear hW1 hW2 hn1 hg1 hs1 hn2 hg2 hs2 hgn hb2 hO hOp
  go_enter Tryz.func113, Tryz.ntmps113
  go_wp2_with fail
  rw [← HW2.out]
  clear b0 b1 b2 b3 b4 b5 b6 b7
  go_loopw [3, 9] (fun v i wr => ∃ k : Nat, i = .int .i64 (k : Int) ∧ k ≤ prs.length ∧ rC wr W2.heap.size v ((prs.take k).map textC) ∧ Below W2.heap.size W2 wr) (fun _ i _ => prs.length - (intOf i).toNat)
  case atStart => exact ⟨0, rfl, Nat.zero_le _, Kd.R_nil _ _ _ _ _, Below.refl _ _⟩
  case round =>
    obtain ⟨i, rfl, hi, hrow, hbe⟩ := hrel
    have HROW := Lib.hid hrow
    have HBE := Lib.hid hbe
    by_cases hil : i < prs.length
    · obtain ⟨x, hx⟩ : ∃ x, prs[i]? = some x := ⟨_, List.getElem?_eq_getElem hil⟩
      obtain ⟨ad, rfl, c0, hbk⟩ := str_at (Kd.C_below HP.out hbe) hx
      have HX := Lib.hid hx
      have hlen : ((prs.take i).map textC).length ≤ 1000000 := by rw [List.length_map, List.length_take]; omega
      have HLEN := Lib.hid hlen
      clear hx hlen hrow hbe
      go_wp2_with fail
      clear c0 hbk
      refine (text_R x 0 wr).mono ?_
      rintro e W4 ⟨rfl, hb4⟩
      obtain ⟨W5, hW5⟩ : ∃ W5, W5 = W4.alloc (.cells #[.int .i64 2, .int .i64 0, .string x, .slice none 0 0] 38) := ⟨_, rfl⟩
      have hl5 : litC W4.heap.size [textC x] (.slice (some ⟨W4.heap.size, 0, none⟩) 1 1) W5 := by rw [hW5]; exact litC_of (repsM_1 (text_F x _ _)) (Nat.le_refl _)
      have hb5 : Below W4.heap.size W4 W5 := by rw [hW5]; exact (Below.refl _ _).alloc (Nat.le_refl _) _
      have hbw : Below wr.heap.size wr W5 := hb4.trans (hb5.mono hb4.size)
      have hrW := Kd.R_below HROW.out hbw
      obtain ⟨v8, W8, hr8, hg8, hR8⟩ := append_lit (b0 := W2.heap.size) (lo := W4.heap.size) hrW (fun k hk => Nat.lt_of_lt_of_le (rC_own HROW.out k hk) hb4.size) (Nat.le_trans HBE.out.size hb4.size) hl5 HLEN.out 36
      have hB8 := grown_below hrW hg8 (HBE.out.trans (hbw.mono HBE.out.size)) (Nat.le_trans HBE.out.size hbw.size)
      have hR8' : rC W8 W2.heap.size v8 ((prs.take (i + 1)).map textC) := by
        rw [List.take_add_one, HX.out]; simpa using hR8
      have HR8 := Lib.hid hR8'
      have HB8 := Lib.hid hB8
      rw [hW5] at hr8
      have HAPP := Lib.hid hr8
      clear hg8 hR8 hR8' hB8 hrW hbw hl5 hb5 hW5 hb4 hr8
      go_wp2_with (refine wpList_value rfl (exec_append _ _ 36 rfl HAPP.out) ?_)
      go_roundw
      case rel => exact ⟨i + 1, by go_num, hil, HR8.out, HB8.out⟩
      case measure => simp [intOf]; omega
    · have hie : i = prs.length := by omega
      rw [hie, List.take_length] at hrow
      have HROW2 := Lib.hid hrow
      have hcl : ∀ W, Below wr.heap.size wr W → (W.cell? ⟨w.heap.size, 5, none⟩ = some (.int .i64 stp) ∧ W.cell? ⟨w.heap.size, 6, none⟩ = some (.string nte) ∧ W.cell? ⟨w.heap.size, 7, none⟩ = some (.string rot)) ∧ W.heap[w.heap.size + 1]? = some (.cells #[.int .i64 0, .int .i64 0, .string (⟨#[]⟩ : ByteArray), .slice none 0 0] 38 (0, 0)) ∧ rC W W2.heap.size u3 (prs.map textC) ∧ W2.heap.size ≤ W.heap.size := fun W hW => by
        have h2 : Below W2.heap.size W2 W := HBE.out.trans (hW.mono HBE.out.size)
        obtain ⟨_, _, b5, b6, b7⟩ := box8 ((h2.block _ (Array.getElem?_eq_some_iff.1 HGN.out).1).trans HGN.out)
        exact ⟨⟨b5, b6, b7⟩, (h2.block _ (Array.getElem?_eq_some_iff.1 HG2.out).1).trans HG2.out, Kd.R_below HROW2.out hW, h2.size⟩
      have HCL := Lib.hid hcl
      have hkml : (prs.map textC).length ≤ 1000000 := by rw [List.length_map]; exact hpl
      clear hrow hie hbe hcl
      go_wp2_with fail
      refine' wp_region_factsM (S := (fun _ W => Below wr.heap.size wr W)) (fun _ W W' => Below W.heap.size W W') [cellF W2.heap.size (numC 2), eqM _, cellF W2.heap.size (listC (prs.map textC)), eqM _, eqM (.int .i64 stp), cellF W2.heap.size (numC stp), eqM _, eqM (.string nte), cellF W2.heap.size (textC nte), eqM _, eqM (.string rot), cellF W2.heap.size (textC rot), litC W2.heap.size [numC 2, listC (prs.map textC), numC stp, textC nte, textC rot], cellF W2.heap.size (listC [numC 2, listC (prs.map textC), numC stp, textC nte, textC rot])] (by kernel_rfl) (by kernel_rfl) ?hst ?h0 (Ord.stepsM_cons ?s0 (Ord.stepsM_cons ?s1 (Ord.stepsM_cons ?s2 (Ord.stepsM_cons ?s3 (Ord.stepsM_cons ?s4 (Ord.stepsM_cons ?s5 (Ord.stepsM_cons ?s6 (Ord.stepsM_cons ?s7 (Ord.stepsM_cons ?s8 (Ord.stepsM_cons ?s9 (Ord.stepsM_cons ?s10 (Ord.stepsM_cons ?s11 (Ord.stepsM_cons ?s12 (Ord.stepsM_cons ?s13 (Ord.stepsM_nil))))))))))))))) ?fin
      case s0 =>
        intro g W L hL hSW hd
        try simp only [Nat.zero_add, Nat.reduceAdd] at hd ⊢
        with_reducible refine OpGives.pre_reads [] 33 ?_ ?_ ?_
        · rfl
        · kernel_rfl
        simp only [List.map_cons, List.map_nil]
        refine OpGives.call (f := 49) (args := #[.int .i64 2]) (w' := W) (by go_simp) ((num_R 2 0 W).mono fun e W' ⟨he, hb⟩ => ⟨_, he, hb, num_F _ _ _, hSW.trans (hb.mono hSW.size)⟩)
      case s1 =>
        intro g W L hL hSW hd
        try simp only [Nat.zero_add, Nat.reduceAdd] at hd ⊢
        with_reducible refine OpGives.pre_reads [] 33 ?_ ?_ ?_
        · rfl
        · kernel_rfl
        simp only [List.map_cons, List.map_nil]
        refine OpGives.val (w' := W) ?_ ⟨Below.refl _ _, rfl, hSW⟩
        go_simp
        try with_reducible rfl
      case s2 =>
        intro g W L hL hSW hd
        try simp only [Nat.zero_add, Nat.reduceAdd] at hd ⊢
        have h1 : g 1 = _ := hd 1 (by decide) (by kernel_rfl)
        with_reducible refine OpGives.pre_reads [(20, 1)] 33 ?_ ?_ ?_
        · rfl
        · kernel_rfl
        simp only [List.map_cons, List.map_nil]
        rw [h1]; refine OpGives.call (f := 51) (args := #[u3]) (w' := W) (by go_simp) ((List_own (HCL.out W hSW).2.2.1 hkml (HCL.out W hSW).2.2.2).mono fun e W' ⟨u, he, hf, hb⟩ => ⟨u, he, hb, hf, hSW.trans (hb.mono hSW.size)⟩)
      case s3 =>
        intro g W L hL hSW hd
        try simp only [Nat.zero_add, Nat.reduceAdd] at hd ⊢
        with_reducible refine OpGives.pre_reads [] 33 ?_ ?_ ?_
        · rfl
        · kernel_rfl
        simp only [List.map_cons, List.map_nil]
        refine OpGives.val (w' := W) ?_ ⟨Below.refl _ _, rfl, hSW⟩
        go_simp
        try with_reducible rfl
      case s4 =>
        intro g W L hL hSW hd
        try simp only [Nat.zero_add, Nat.reduceAdd] at hd ⊢
        have h3 : g 3 = _ := hd 3 (by decide) (by kernel_rfl)
        with_reducible refine OpGives.pre_reads [(22, 3)] 33 ?_ ?_ ?_
        · rfl
        · kernel_rfl
        simp only [List.map_cons, List.map_nil]
        obtain ⟨⟨z1, z2, z3⟩, _⟩ := HCL.out W hSW; refine OpGives.val (v := .int .i64 stp) (w' := W) ?_ ⟨Below.refl _ _, rfl, hSW⟩; go_simp
      case s5 =>
        intro g W L hL hSW hd
        try simp only [Nat.zero_add, Nat.reduceAdd] at hd ⊢
        have h4 : g 4 = _ := hd 4 (by decide) (by kernel_rfl)
        with_reducible refine OpGives.pre_reads [(23, 4)] 33 ?_ ?_ ?_
        · rfl
        · kernel_rfl
        simp only [List.map_cons, List.map_nil]
        rw [h4]; refine OpGives.call (f := 49) (args := #[.int .i64 stp]) (w' := W) (by go_simp) ((num_R stp 0 W).mono fun e W' ⟨he, hb⟩ => ⟨_, he, hb, num_F _ _ _, hSW.trans (hb.mono hSW.size)⟩)
      case s6 =>
        intro g W L hL hSW hd
        try simp only [Nat.zero_add, Nat.reduceAdd] at hd ⊢
        with_reducible refine OpGives.pre_reads [] 33 ?_ ?_ ?_
        · rfl
        · kernel_rfl
        simp only [List.map_cons, List.map_nil]
        refine OpGives.val (w' := W) ?_ ⟨Below.refl _ _, rfl, hSW⟩
        go_simp
        try with_reducible rfl
      case s7 =>
        intro g W L hL hSW hd
        try simp only [Nat.zero_add, Nat.reduceAdd] at hd ⊢
        have h6 : g 6 = _ := hd 6 (by decide) (by kernel_rfl)
        with_reducible refine OpGives.pre_reads [(25, 6)] 33 ?_ ?_ ?_
        · rfl
        · kernel_rfl
        simp only [List.map_cons, List.map_nil]
        obtain ⟨⟨z1, z2, z3⟩, _⟩ := HCL.out W hSW; refine OpGives.val (v := .string nte) (w' := W) ?_ ⟨Below.refl _ _, rfl, hSW⟩; go_simp
      case s8 =>
        intro g W L hL hSW hd
        try simp only [Nat.zero_add, Nat.reduceAdd] at hd ⊢
        have h7 : g 7 = _ := hd 7 (by decide) (by kernel_rfl)
        with_reducible refine OpGives.pre_reads [(26, 7)] 33 ?_ ?_ ?_
        · rfl
        · kernel_rfl
        simp only [List.map_cons, List.map_nil]
        rw [h7]; refine OpGives.call (f := 50) (args := #[.string nte]) (w' := W) (by go_simp) ((text_R nte 0 W).mono fun e W' ⟨he, hb⟩ => ⟨_, he, hb, text_F _ _ _, hSW.trans (hb.mono hSW.size)⟩)
      case s9 =>
        intro g W L hL hSW hd
        try simp only [Nat.zero_add, Nat.reduceAdd] at hd ⊢
        with_reducible refine OpGives.pre_reads [] 33 ?_ ?_ ?_
        · rfl
        · kernel_rfl
        simp only [List.map_cons, List.map_nil]
        refine OpGives.val (w' := W) ?_ ⟨Below.refl _ _, rfl, hSW⟩
        go_simp
        try with_reducible rfl
      case s10 =>
        intro g W L hL hSW hd
        try simp only [Nat.zero_add, Nat.reduceAdd] at hd ⊢
        have h9 : g 9 = _ := hd 9 (by decide) (by kernel_rfl)
        with_reducible refine OpGives.pre_reads [(28, 9)] 33 ?_ ?_ ?_
        · rfl
        · kernel_rfl
        simp only [List.map_cons, List.map_nil]
        obtain ⟨⟨z1, z2, z3⟩, _⟩ := HCL.out W hSW; refine OpGives.val (v := .string rot) (w' := W) ?_ ⟨Below.refl _ _, rfl, hSW⟩; go_simp
      case s11 =>
        intro g W L hL hSW hd
        try simp only [Nat.zero_add, Nat.reduceAdd] at hd ⊢
        have h10 : g 10 = _ := hd 10 (by decide) (by kernel_rfl)
        with_reducible refine OpGives.pre_reads [(29, 10)] 33 ?_ ?_ ?_
        · rfl
        · kernel_rfl
        simp only [List.map_cons, List.map_nil]
        rw [h10]; refine OpGives.call (f := 50) (args := #[.string rot]) (w' := W) (by go_simp) ((text_R rot 0 W).mono fun e W' ⟨he, hb⟩ => ⟨_, he, hb, text_F _ _ _, hSW.trans (hb.mono hSW.size)⟩)
      case s12 =>
        intro g W L hL hSW hd
        try simp only [Nat.zero_add, Nat.reduceAdd] at hd ⊢
        have h0 := hd 0 (by decide) (by kernel_rfl)
        change (cellF W2.heap.size (numC 2)) (g 0) W at h0
        have h2 := hd 2 (by decide) (by kernel_rfl)
        change (cellF W2.heap.size (listC (prs.map textC))) (g 2) W at h2
        have h5 := hd 5 (by decide) (by kernel_rfl)
        change (cellF W2.heap.size (numC stp)) (g 5) W at h5
        have h8 := hd 8 (by decide) (by kernel_rfl)
        change (cellF W2.heap.size (textC nte)) (g 8) W at h8
        have h11 := hd 11 (by decide) (by kernel_rfl)
        change (cellF W2.heap.size (textC rot)) (g 11) W at h11
        with_reducible refine OpGives.pre_reads [(19, 0), (21, 2), (24, 5), (27, 8), (30, 11)] 33 ?_ ?_ ?_
        · rfl
        · kernel_rfl
        simp only [List.map_cons, List.map_nil]
        refine OpGives.val (v := .slice (some ⟨W.heap.size, 0, none⟩) 5 5) (w' := W.alloc (.cells ([g 0, g 2, g 5, g 8, g 11].flatMap fun v => v.cells.toList).toArray 38)) (exec_buildSlice 36 5 _ rfl (lit_run5 h0 h2 h5 h8 h11 _ (by simp [rdl_cons]))) ⟨(Below.refl _ _).alloc (Nat.le_refl _) _, litC_of (repsM_5 h0 h2 h5 h8 h11) (HCL.out W hSW).2.2.2, hSW.alloc hSW.size _⟩
      case s13 =>
        intro g W L hL hSW hd
        try simp only [Nat.zero_add, Nat.reduceAdd] at hd ⊢
        have h12 := hd 12 (by decide) (by kernel_rfl)
        change (litC W2.heap.size [numC 2, listC (prs.map textC), numC stp, textC nte, textC rot]) (g 12) W at h12
        with_reducible refine OpGives.pre_reads [(31, 12)] 33 ?_ ?_ ?_
        · rfl
        · kernel_rfl
        simp only [List.map_cons, List.map_nil]
        refine OpGives.call (f := 51) (args := #[g 12]) (w' := W) (by go_simp) ((List_lit h12 (by simp) (HCL.out W hSW).2.2.2).mono fun e W' ⟨u, he, hf, hb⟩ => ⟨u, he, hb, hf, hSW.trans (hb.mono hSW.size)⟩)
      case hst =>
        refine fun i j v w w' _ h hR => st_of (R := fun W W' => Below W.heap.size W W') ?_ i v w w' h hR
        repeat' first
          | exact trivial
          | with_reducible refine StL.eq ?_
          | refine ⟨fun v w w' h hR => cellF_below h hR, ?_⟩
          | refine ⟨fun v w w' h hR => litC_below h hR, ?_⟩
      case h0 => exact (Below.refl _ _).drew
      case fin =>
        intro v' W L hL hSW hf
        have h10 := hf 13 (Nat.lt_of_lt_of_eq (by decide : 13 < 14) rfl)
        change cellF W2.heap.size (listC [numC 2, listC (prs.map textC), numC stp, textC nte, textC rot]) (v' 13) W at h10
        clear hf
        generalize hF : Ord.pre _ _ v' _ = F
        rw [Ord.pre_lit [some 19, some 20, some 21, some 22, some 23, some 24, some 25, some 26, some 27, some 28, some 29, some 30, some 31, some 32]
          (by kernel_rfl)] at hF
        simp only [Ord.puts, Nat.zero_add, Nat.reduceAdd] at hF
        subst hF
        obtain ⟨v3, e10, hR3⟩ := h10
        obtain ⟨A3, c3, rfl⟩ := R_slice hR3
        rw [e10]
        have hgb := (HCL.out W hSW).2.1
        obtain ⟨⟨z0, z1, z2, z3⟩, f0, f1, f2, f3⟩ := box4 hgb
        have hbw : Below w.heap.size w W := HB2.out.trans ((HBE.out.trans (hSW.mono HBE.out.size)).mono HB2.out.size)
        have HGB := Lib.hid hgb
        have HBW := Lib.hid hbw
        have HR3 := Lib.hid hR3
        clear hgb hbw hR3 hSW e10
        refine any_one (i := 14) (by kernel_rfl) ?_
        refine wpOp_skip (w' := put4 W (w.heap.size + 1) (.int .i64 3) (.int .i64 0) (.string (⟨#[]⟩ : ByteArray)) (.slice A3 (listC [numC 2, listC (prs.map textC), numC stp, textC nte, textC rot]).f3.length c3)) rfl rfl (by unfold put4 listC; go_simp) ?_
        refine wpAny_done (by kernel_rfl) ?_ _
        try simp only [List.getElem_toArray, List.getElem_cons_succ, List.getElem_cons_zero]
        go_frame
        have hgf := four_put HGB.out (.int .i64 3) (.int .i64 0) (.string (⟨#[]⟩ : ByteArray)) (.slice A3 (listC [numC 2, listC (prs.map textC), numC stp, textC nte, textC rot]).f3.length c3)
        have hrf := rC_put HR3.out (g := w.heap.size + 1) (b0 := w.heap.size) (by have := HS2.out; omega) (by have := HS2.out; omega) (.int .i64 3) (.int .i64 0) (.string (⟨#[]⟩ : ByteArray)) (.slice A3 (listC [numC 2, listC (prs.map textC), numC stp, textC nte, textC rot]).f3.length c3)
        have hbf := put4_below' HBW.out (g := w.heap.size + 1) (by omega) (.int .i64 3) (.int .i64 0) (.string (⟨#[]⟩ : ByteArray)) (.slice A3 (listC [numC 2, listC (prs.map textC), numC stp, textC nte, textC rot]).f3.length c3)
        have HGF := Lib.hid (show (put4 W (w.heap.size + 1) (.int .i64 3) (.int .i64 0) (.string (⟨#[]⟩ : ByteArray)) (.slice A3 (listC [numC 2, listC (prs.map textC), numC stp, textC nte, textC rot]).f3.length c3)).heap[w.heap.size + 1]? = _ from hgf)
        have HRF := Lib.hid hrf
        have HBF := Lib.hid hbf
        clear hgf hrf hbf z0 z1 z2 z3 f0 f1 f2 f3 HGB HBW HR3
        generalize put4 W (w.heap.size + 1) (.int .i64 3) (.int .i64 0) (.string (⟨#[]⟩ : ByteArray)) (.slice A3 (listC [numC 2, listC (prs.map textC), numC stp, textC nte, textC rot]).f3.length c3) = WF at *
        go_wp2_with fail
        refine bodyPost_ret (results_cell_row rfl _ _ (w.heap.size + 1) 38 #[.int .i64 3, .int .i64 0, .string (⟨#[]⟩ : ByteArray), .slice A3 (listC [numC 2, listC (prs.map textC), numC stp, textC nte, textC rot]).f3.length c3] (0, 0) _ rfl HGF.out Tryz.underlying38 rfl (by kernel_rfl)) rfl ?_
        exact ⟨_, rfl, ⟨_, rfl, HRF.out⟩, HBF.out⟩
end Go.Proofs.YtgjlchcfdbmmlaaGreatDoor.PObjectPuts
namespace Go.Proofs.YtgjlchcfdbmmlaaGreatDoor.PObjectPuts
open Go.RowKit Go.Proofs.YtgjlchcfdbmmlaaGreatDoor.Ord Go.Proofs.YtgjlchcfdbmmlaaGreatDoor.Obj Go.Proofs.YtgjlchcfdbmmlaaGreatDoorW.PrintWords Go.Proofs.YtgjlchcfdbmmlaaGreatDoorW.PrintLast Go.Proofs.YtgjlchcfdbmmlaaGreatDoorW.PrintMore
attribute [local irreducible] OpGives

/-- Is an object right? -/
def okOb (o : Ob) : Bool := if o.kind = 1 then okNode o else if o.kind = 2 then okCommit o else false
/-- What formed answers. -/
def formV (o : Ob) (a : Array Value) : Value := if okOb o then (if o.kind = 1 then .iface 73 (.agg a) else .iface 74 (.agg a)) else .nilIface
set_option maxHeartbeats 8000000 in
set_option maxRecDepth 100000 in
theorem formed_calls (o : Ob) (Ar : Option Addr) (cr : Nat) (Ak : Option Addr) (ck : Nat) (Ap : Option Addr) (cp : Nat) (w : World) (hO : ObAt w o Ar cr Ak ck Ap cp) (hT : Lib.Utf8Tabs 0 1 w) :
    Calls Tryz.prog 17 #[.agg (obV o Ar cr Ak ck Ap cp)] w fun e w' => e = .returned (formV o (obV o Ar cr Ak ck Ap cp)) ∧ Below w.heap.size w w' := by
  obtain ⟨W1, hW1⟩ : ∃ W1, W1 = w.alloc (.cells (obV o Ar cr Ak ck Ap cp) 27) := ⟨_, rfl⟩
  have hn1 : Below w.heap.size w W1 := by rw [hW1]; exact (Below.refl _ _).alloc (Nat.le_refl _) _
  have hg1 : W1.heap[w.heap.size]? = some (.cells (obV o Ar cr Ak ck Ap cp) 27 (0, 0)) := by rw [hW1]; exact alloc_lastV _ _
  unfold obV at hg1
  obtain ⟨⟨b0, b1, b2, b3⟩, b4, b5, b6, b7⟩ := box8 hg1
  have HNR := Lib.hid (nright_calls o Ar cr Ak ck Ap cp W1 (hO.below hn1) (Utf8Tabs_below hT hn1))
  have HCR := Lib.hid (cright_calls o Ar cr Ak ck Ap cp W1 (hO.below hn1))
  have HN1 := Lib.hid hn1
  unfold formV okOb
  unfold obV at hW1 HNR HCR ⊢
  rw [hW1] at b0 b1 b2 b3 b4 b5 b6 b7
  have HW1 := Lib.hid hW1
  generalize okNode o = rn at HNR ⊢
  generalize okCommit o = rc at HCR ⊢
  clear hW1 hn1 hg1 hO hT
  obtain ⟨knd, lab, rws, kds, prs, stp, nte, rot⟩ := o
  simp only at HNR HCR HW1 b0 b1 b2 b3 b4 b5 b6 b7 ⊢
  by_cases hk1 : knd = 1
  · subst hk1
    simp only [if_true]
    go_enter Tryz.func17, Tryz.ntmps17
    go_wp2_with fail
    rw [← HW1.out]
    refine HNR.out.mono ?_
    rintro e W2 ⟨rfl, hb2⟩
    have HF := Lib.hid (HN1.out.trans (hb2.mono HN1.out.size))
    clear hb2
    cases rn with
    | true =>
      go_wp2_with fail
      go_ret
      exact ⟨rfl, HF.out⟩
    | false =>
      go_wp2_with fail
      go_ret
      exact ⟨rfl, HF.out⟩
  · have hk1' : (knd == 1) = false := by simpa using hk1
    rw [if_neg hk1]
    by_cases hk2 : knd = 2
    · subst hk2
      simp only [if_true]
      clear hk1 hk1'
      go_enter Tryz.func17, Tryz.ntmps17
      go_wp2_with fail
      rw [← HW1.out]
      refine HCR.out.mono ?_
      rintro e W2 ⟨rfl, hb2⟩
      have HF := Lib.hid (HN1.out.trans (hb2.mono HN1.out.size))
      clear hb2
      cases rc with
      | true =>
        go_wp2_with fail
        go_ret
        exact ⟨rfl, HF.out⟩
      | false =>
        go_wp2_with fail
        go_ret
        exact ⟨rfl, HF.out⟩
    · have hk2' : (knd == 2) = false := by simpa using hk2
      rw [if_neg hk2]
      go_enter Tryz.func17, Tryz.ntmps17
      go_wp2_with fail
      rw [← HW1.out]
      go_ret
      exact ⟨rfl, HN1.out⟩
end Go.Proofs.YtgjlchcfdbmmlaaGreatDoor.PObjectPuts
namespace Go.Proofs.YtgjlchcfdbmmlaaGreatDoor.PObjectPuts
open Go.RowKit Go.Proofs.YtgjlchcfdbmmlaaGreatDoor.Ord Go.Proofs.YtgjlchcfdbmmlaaGreatDoor.Obj Go.Proofs.YtgjlchcfdbmmlaaGreatDoorW.PrintWords Go.Proofs.YtgjlchcfdbmmlaaGreatDoorW.PrintLast Go.Proofs.YtgjlchcfdbmmlaaGreatDoorW.PrintMore

set_option maxHeartbeats 8000000 in
set_option maxRecDepth 100000 in
theorem rnode_calls (o : Ob) (Ar : Option Addr) (cr : Nat) (Ak : Option Addr) (ck : Nat) (Ap : Option Addr) (cp : Nat) (w : World) (h : ObAt w o Ar cr Ak ck Ap cp) :
    Calls Tryz.prog 35 #[.agg (obV o Ar cr Ak ck Ap cp)] w fun e w' => e = .returned (.bool (okNode o)) ∧ Below w.heap.size w w' := by
  obtain ⟨W1, hW1⟩ : ∃ W1, W1 = w.alloc (.cells (obV o Ar cr Ak ck Ap cp) 27) := ⟨_, rfl⟩
  have hn1 : Below w.heap.size w W1 := by rw [hW1]; exact (Below.refl _ _).alloc (Nat.le_refl _) _
  have hg1 : W1.heap[w.heap.size]? = some (.cells (obV o Ar cr Ak ck Ap cp) 27 (0, 0)) := by rw [hW1]; exact alloc_lastV _ _
  have HO := Lib.hid (h.below hn1)
  have HN1 := Lib.hid hn1
  have HG := Lib.hid hg1
  have HS := Lib.hid (rright_calls o.rows Ar cr W1 (h.below hn1).r h.lr)
  have hmk := h.k.2.1
  clear h hn1
  obtain ⟨RV, hRV⟩ : ∃ RV, RV = okNode o := ⟨_, rfl⟩
  rw [← hRV]
  obtain ⟨knd, lab, rws, kds, prs, stp, nte, rot⟩ := o
  unfold okNode at hRV
  unfold obV at hW1 hg1 HG ⊢
  simp only at hRV hW1 hg1 HG HS hmk ⊢
  have HRV := Lib.hid hRV
  obtain ⟨⟨b0, b1, b2, b3⟩, b4, b5, b6, b7⟩ := box8 hg1
  rw [hW1] at b0 b1 b2 b3 b4 b5 b6 b7
  have HW1 := Lib.hid hW1
  clear hW1 hg1 hRV
  by_cases h5 : lab.size ≤ 24
  case neg =>
    have h5' : (24 : Int) < (lab.size : Int) := by omega
    have HF := Lib.hid (show RV = false by rw [HRV.out, decide_eq_false h5]; simp)
    go_enter Tryz.func35, Tryz.ntmps35
    go_wp2_with fail
    go_ret
    exact ⟨by rw [HF.out]; rfl, (Below.refl _ _).alloc (Nat.le_refl _) _⟩
  have h5' : ¬ (24 : Int) < (lab.size : Int) := by omega
  go_enter Tryz.func35, Tryz.ntmps35
  go_wp2_with fail
  rw [← HW1.out]
  clear b0 b1 b2 b3 b4 b5 b6 b7
  refine HS.out.mono ?_
  rintro e W2 ⟨rfl, hb2⟩
  have HB2 := Lib.hid (HN1.out.trans (hb2.mono HN1.out.size))
  have HO2 := Lib.hid (HO.out.below hb2)
  have HG2 := Lib.hid ((hb2.block _ (Array.getElem?_eq_some_iff.1 HG.out).1).trans HG.out)
  obtain ⟨⟨b0, b1, b2, b3⟩, b4, b5, b6, b7⟩ := box8 HG2.out
  clear hb2
  cases hrw : okRows rws with
  | false =>
    have HF := Lib.hid (show RV = false by rw [HRV.out, hrw]; simp)
    go_wp2_with fail
    go_ret
    exact ⟨by rw [HF.out]; rfl, HB2.out⟩
  | true =>
    by_cases h1 : prs.length = 0
    case neg =>
      have h1' : (0 : Int) < (prs.length : Int) := by omega
      have HF := Lib.hid (show RV = false by rw [HRV.out, decide_eq_false h1]; rfl)
      go_wp2_with fail
      go_ret
      exact ⟨by rw [HF.out]; rfl, HB2.out⟩
    by_cases h2 : stp = 0
    case neg =>
      have h2' : (stp == 0) = false := by simpa using h2
      have HF := Lib.hid (show RV = false by rw [HRV.out, decide_eq_false h2]; simp)
      go_wp2_with fail
      go_ret
      exact ⟨by rw [HF.out]; rfl, HB2.out⟩
    subst h2
    by_cases h3 : nte.size = 0
    case neg =>
      have h3' := full_str h3
      have HF := Lib.hid (show RV = false by rw [HRV.out, decide_eq_false h3]; simp)
      go_wp2_with fail
      go_ret
      exact ⟨by rw [HF.out]; rfl, HB2.out⟩
    obtain rfl := empty_str h3
    by_cases h4 : rot.size = 0
    case neg =>
      have h4' := full_str h4
      have HF := Lib.hid (show RV = false by rw [HRV.out, decide_eq_false h4]; simp)
      go_wp2_with fail
      go_ret
      exact ⟨by rw [HF.out]; rfl, HB2.out⟩
    have HR := Lib.hid (show RV = kidsFrom (prevKid kds 0) (kds.drop 0) by rw [HRV.out, decide_eq_true h1, decide_eq_true rfl, decide_eq_true h3, decide_eq_true h4, decide_eq_true h5, hrw]; rfl)
    obtain rfl := empty_str h4
    clear h3 h4 HRV hrw
    go_wp2_with fail
    clear b0 b1 b2 b3 b4 b5 b6 b7
    go_loopw [3] (fun v wr => ∃ i : Nat, v = .int .i64 (i : Int) ∧ i ≤ kds.length ∧ Hid (RV = kidsFrom (prevKid kds i) (kds.drop i)) ∧ Below W2.heap.size W2 wr) (fun v _ => kds.length - (intOf v).toNat)
    case atStart => exact ⟨0, rfl, Nat.zero_le _, HR, Below.refl _ _⟩
    case round =>
      obtain ⟨i, rfl, hi, hr, hbe⟩ := hrel
      have b3 := (box8 ((hbe.block _ (Array.getElem?_eq_some_iff.1 HG2.out).1).trans HG2.out)).1.2.2.2
      have HBE := Lib.hid hbe
      have HBW := Lib.hid (HB2.out.trans (hbe.mono HB2.out.size))
      have HK := Lib.hid (HO2.out.below hbe).k
      clear hbe HR
      by_cases hil : i < kds.length
      case neg =>
        have hr2 := hr.out
        rw [show i = kds.length by omega, kidsFrom_end] at hr2
        have HF := Lib.hid hr2
        clear hr2 hr
        go_wp2_with fail
        go_ret
        exact ⟨by rw [HF.out]; rfl, HBW.out⟩
      obtain ⟨x, hx⟩ : ∃ x, kds[i]? = some x := ⟨_, List.getElem?_eq_getElem hil⟩
      obtain ⟨ad, rfl, c0, c1, hbk⟩ := kid_at HK.out hx
      have hr2 := hr.out
      rw [kidsFrom_step hx] at hr2
      have HR2 := Lib.hid hr2
      clear hr2 hr hx hbk
      have hix : (i : Int) < (kds.length : Int) := by omega
      go_wp2_with fail
      by_cases h32 : x.f1.size = 32
      case neg =>
        have h32n : ¬ (x.f1.size : Int) = 32 := by omega
        have h32' : ((x.f1.size : Int) != 32) = true := by simpa using h32n
        have HF := Lib.hid (show RV = false by rw [HR2.out, decide_eq_false h32]; rfl)
        go_quiet (fail)
        go_wp2_with fail
        go_ret
        exact ⟨by rw [HF.out]; rfl, pw_below_drewN HBW.out _⟩
      have h32' : ((x.f1.size : Int) == 32) = true := by rw [h32]; rfl
      have HR3 := Lib.hid (show RV = (kidNext (prevKid kds i) x && kidsFrom (prevKid kds (i + 1)) (kds.drop (i + 1))) by rw [HR2.out, decide_eq_true h32]; rfl)
      rcases Nat.eq_zero_or_pos i with hi0 | hi0
      · have HR5 := Lib.hid (show RV = kidsFrom (prevKid kds (i + 1)) (kds.drop (i + 1)) by rw [HR3.out, hi0]; rfl)
        have hgt : decide (0 < i) = false := decide_eq_false (by omega)
        clear hi0
        go_quiet (fail)
        go_wp2_with fail
        go_roundw
        case rel => exact ⟨i + 1, by go_num, hil, HR5, pw_below_drewN HBE.out _⟩
        case measure => simp [intOf]; omega
      obtain ⟨k, rfl⟩ : ∃ k, i = k + 1 := ⟨i - 1, by omega⟩
      obtain ⟨q, hq⟩ : ∃ q, kds[k]? = some q := ⟨_, List.getElem?_eq_getElem (by omega)⟩
      obtain ⟨ad', e', d0, d1, hbk'⟩ := kid_at HK.out hq
      cases e'
      have HR4 := Lib.hid (show RV = (decide (q.f0 < x.f0) && kidsFrom (prevKid kds (k + 1 + 1)) (kds.drop (k + 1 + 1))) by rw [HR3.out]; unfold prevKid; rw [if_neg (by omega), show k + 1 - 1 = k from rfl, hq]; rfl)
      clear hq hbk'
      have hgt : decide ((0 : Int) < (k : Int) + 1) = true := decide_eq_true (by omega)
      have hlk : (k : Int) < (kds.length : Int) := by omega
      have hwk : IntKind.i64.wrap (k : Int) = (k : Int) := by rw [IntKind.wrap_i64]; omega
      by_cases hlt : q.f0 < x.f0
      · have hlt' : ¬ x.f0 ≤ q.f0 := by omega
        have HR5 := Lib.hid (show RV = kidsFrom (prevKid kds (k + 1 + 1)) (kds.drop (k + 1 + 1)) by rw [HR4.out, decide_eq_true hlt]; rfl)
        go_quiet (fail)
        go_wp2_with fail
        go_roundw
        case rel => exact ⟨k + 1 + 1, by go_num, hil, HR5, pw_below_drewN HBE.out _⟩
        case measure => simp [intOf]; omega
      · have hlt' : x.f0 ≤ q.f0 := by omega
        have HF := Lib.hid (show RV = false by rw [HR4.out, decide_eq_false hlt]; rfl)
        go_quiet (fail)
        go_wp2_with fail
        go_ret
        exact ⟨by rw [HF.out]; rfl, pw_below_drewN HBW.out _⟩
set_option maxHeartbeats 8000000 in
set_option maxRecDepth 100000 in
theorem rcommit_calls (o : Ob) (Ar : Option Addr) (cr : Nat) (Ak : Option Addr) (ck : Nat) (Ap : Option Addr) (cp : Nat) (w : World) (h : ObAt w o Ar cr Ak ck Ap cp) :
    Calls Tryz.prog 36 #[.agg (obV o Ar cr Ak ck Ap cp)] w fun e w' => e = .returned (.bool (okCommit o)) ∧ Below w.heap.size w w' := by
  obtain ⟨W1, hW1⟩ : ∃ W1, W1 = w.alloc (.cells (obV o Ar cr Ak ck Ap cp) 27) := ⟨_, rfl⟩
  have hn1 : Below w.heap.size w W1 := by rw [hW1]; exact (Below.refl _ _).alloc (Nat.le_refl _) _
  have hg1 : W1.heap[w.heap.size]? = some (.cells (obV o Ar cr Ak ck Ap cp) 27 (0, 0)) := by rw [hW1]; exact alloc_lastV _ _
  have HO := Lib.hid (h.below hn1)
  have HN1 := Lib.hid hn1
  have HG := Lib.hid hg1
  clear h hn1
  obtain ⟨RV, hRV⟩ : ∃ RV, RV = okCommit o := ⟨_, rfl⟩
  rw [← hRV]
  obtain ⟨knd, lab, rws, kds, prs, stp, nte, rot⟩ := o
  unfold okCommit at hRV
  unfold obV at hW1 hg1 HG ⊢
  simp only at hRV hW1 hg1 HG ⊢
  generalize rws.length = rl at hRV hW1 hg1 HG ⊢
  generalize kds.length = kl at hRV hW1 hg1 HG ⊢
  have HRV := Lib.hid hRV
  obtain ⟨⟨b0, b1, b2, b3⟩, b4, b5, b6, b7⟩ := box8 hg1
  rw [hW1] at b0 b1 b2 b3 b4 b5 b6 b7
  have HW1 := Lib.hid hW1
  clear hW1 hg1 hRV
  by_cases h1 : lab.size = 0
  case neg =>
    have h1' := full_str h1
    have HF := Lib.hid (show RV = false by rw [HRV.out, decide_eq_false h1]; simp)
    go_enter Tryz.func36, Tryz.ntmps36
    go_wp2_with fail
    go_ret
    exact ⟨by rw [HF.out]; rfl, (Below.refl _ _).alloc (Nat.le_refl _) _⟩
  obtain rfl := empty_str h1
  by_cases h2 : rl = 0
  case neg =>
    have h2' : (0 : Int) < (rl : Int) := by omega
    have HF := Lib.hid (show RV = false by rw [HRV.out, decide_eq_false h2]; simp)
    go_enter Tryz.func36, Tryz.ntmps36
    go_wp2_with fail
    go_ret
    exact ⟨by rw [HF.out]; rfl, (Below.refl _ _).alloc (Nat.le_refl _) _⟩
  subst h2
  by_cases h3 : kl = 0
  case neg =>
    have h3' : (0 : Int) < (kl : Int) := by omega
    have HF := Lib.hid (show RV = false by rw [HRV.out, decide_eq_false h3]; simp)
    go_enter Tryz.func36, Tryz.ntmps36
    go_wp2_with fail
    go_ret
    exact ⟨by rw [HF.out]; rfl, (Below.refl _ _).alloc (Nat.le_refl _) _⟩
  subst h3
  by_cases h4 : 0 ≤ stp
  case neg =>
    have h4' : stp < 0 := by omega
    have HF := Lib.hid (show RV = false by rw [HRV.out, decide_eq_false h4]; simp)
    go_enter Tryz.func36, Tryz.ntmps36
    go_wp2_with fail
    go_ret
    exact ⟨by rw [HF.out]; rfl, (Below.refl _ _).alloc (Nat.le_refl _) _⟩
  have h4' : ¬ stp < 0 := by omega
  by_cases h5 : stp ≤ 1099511627776
  case neg =>
    have h5' : 1099511627776 < stp := by omega
    have HF := Lib.hid (show RV = false by rw [HRV.out, decide_eq_false h5]; simp)
    go_enter Tryz.func36, Tryz.ntmps36
    go_wp2_with fail
    go_ret
    exact ⟨by rw [HF.out]; rfl, (Below.refl _ _).alloc (Nat.le_refl _) _⟩
  have h5' : ¬ 1099511627776 < stp := by omega
  by_cases h6 : nte.size ≤ 40
  case neg =>
    have h6' : (40 : Int) < (nte.size : Int) := by omega
    have HF := Lib.hid (show RV = false by rw [HRV.out, decide_eq_false h6]; simp)
    go_enter Tryz.func36, Tryz.ntmps36
    go_wp2_with fail
    go_ret
    exact ⟨by rw [HF.out]; rfl, (Below.refl _ _).alloc (Nat.le_refl _) _⟩
  have h6' : ¬ (40 : Int) < (nte.size : Int) := by omega
  by_cases h7 : rot.size = 32
  case neg =>
    have h7' : ¬ (rot.size : Int) = 32 := by omega
    have HF := Lib.hid (show RV = false by rw [HRV.out, decide_eq_false h7]; simp)
    go_enter Tryz.func36, Tryz.ntmps36
    go_wp2_with fail
    go_ret
    exact ⟨by rw [HF.out]; rfl, (Below.refl _ _).alloc (Nat.le_refl _) _⟩
  have h7' : (rot.size : Int) = 32 := by omega
  by_cases h8 : prs.length ≤ 2
  case neg =>
    have h8' : (2 : Int) < (prs.length : Int) := by omega
    have HF := Lib.hid (show RV = false by rw [HRV.out, decide_eq_false h8]; simp)
    go_enter Tryz.func36, Tryz.ntmps36
    go_wp2_with fail
    go_ret
    exact ⟨by rw [HF.out]; rfl, (Below.refl _ _).alloc (Nat.le_refl _) _⟩
  have h8' : ¬ (2 : Int) < (prs.length : Int) := by omega
  have HR := Lib.hid (show RV = (!(prs.any wideB) && (decide (prs.length < 2) || !((prs.getD 0 ByteArray.empty).toList == (prs.getD 1 ByteArray.empty).toList))) by
    rw [HRV.out, decide_eq_true h1, decide_eq_true rfl, decide_eq_true h4, decide_eq_true h5, decide_eq_true h6, decide_eq_true h7, decide_eq_true h8]; rfl)
  clear HRV h1 h4 h5 h6 h7 h8
  go_enter Tryz.func36, Tryz.ntmps36
  go_wp2_with fail
  rw [← HW1.out]
  clear b0 b1 b2 b3 b4 b5 b6 b7
  go_loopw [3] (fun v wr => ∃ i : Nat, v = .int .i64 (i : Int) ∧ i ≤ prs.length ∧ Hid ((prs.take i).any wideB = false ∧ (2 ≤ i → ((prs.getD 0 ByteArray.empty).toList == (prs.getD 1 ByteArray.empty).toList) = false)) ∧ Below W1.heap.size W1 wr) (fun v _ => prs.length - (intOf v).toNat)
  case atStart => exact ⟨0, rfl, Nat.zero_le _, Lib.hid ⟨rfl, fun h => by omega⟩, Below.refl _ _⟩
  case round =>
    obtain ⟨i, rfl, hi, HT, hbe⟩ := hrel
    have b4 := (box8 ((hbe.block _ (Array.getElem?_eq_some_iff.1 HG.out).1).trans HG.out)).2.1
    have HBE := Lib.hid hbe
    have HBW := Lib.hid (HN1.out.trans (hbe.mono HN1.out.size))
    have HP := Lib.hid (HO.out.below hbe).p
    clear hbe
    by_cases hil : i < prs.length
    case neg =>
      have HF := Lib.hid (show RV = true by
        have ht := HT.out
        rw [show i = prs.length by omega, List.take_length] at ht
        rw [HR.out, ht.1]
        by_cases h2 : prs.length < 2
        · rw [decide_eq_true h2]; rfl
        · rw [ht.2 (by omega)]; simp)
      go_wp2_with fail
      go_ret
      exact ⟨by rw [HF.out]; rfl, HBW.out⟩
    obtain ⟨x, hx⟩ : ∃ x, prs[i]? = some x := ⟨_, List.getElem?_eq_getElem hil⟩
    obtain ⟨ad, rfl, c0, hbk⟩ := str_at HP.out hx
    have HX := Lib.hid hx
    have hix : (i : Int) < (prs.length : Int) := by omega
    clear hx hbk
    go_wp2_with fail
    by_cases h32 : x.size = 32
    case neg =>
      have h32n : ¬ (x.size : Int) = 32 := by omega
      have h32' : ((x.size : Int) != 32) = true := by simpa using h32n
      have HF := Lib.hid (show RV = false by
        have : prs.any wideB = true := List.any_eq_true.2 ⟨x, List.mem_of_getElem? HX.out, by unfold wideB; simpa using h32⟩
        rw [HR.out, this]; rfl)
      go_quiet (fail)
      go_wp2_with fail
      go_ret
      exact ⟨by rw [HF.out]; rfl, pw_below_drewN HBW.out _⟩
    have h32' : ((x.size : Int) == 32) = true := by rw [h32]; rfl
    have HA := Lib.hid (show (prs.take (i + 1)).any wideB = false by
      rw [List.take_add_one, HX.out, Option.toList_some, List.any_append, HT.out.1, Bool.false_or]
      simp [wideB, h32])
    rcases Nat.eq_zero_or_pos i with hi0 | hi0
    · have HA2 := Lib.hid (show (prs.take (i + 1)).any wideB = false ∧ (2 ≤ i + 1 → ((prs.getD 0 ByteArray.empty).toList == (prs.getD 1 ByteArray.empty).toList) = false) from ⟨HA.out, fun h => by omega⟩)
      have hgt : decide (0 < i) = false := decide_eq_false (by omega)
      clear hi0
      go_quiet (fail)
      go_wp2_with fail
      go_roundw
      case rel => exact ⟨i + 1, by go_num, hil, HA2, pw_below_drewN HBE.out _⟩
      case measure => simp [intOf]; omega
    obtain ⟨y, hy⟩ : ∃ y, prs[0]? = some y := ⟨_, List.getElem?_eq_getElem (by omega)⟩
    obtain ⟨ad', e', d0, hbk'⟩ := str_at HP.out hy
    cases e'
    have hi1 : i = 1 := by omega
    have HY := Lib.hid (show prs.getD 0 ByteArray.empty = y ∧ prs.getD 1 ByteArray.empty = x by rw [List.getD_eq_getElem?_getD, List.getD_eq_getElem?_getD, hy, ← hi1, HX.out]; exact ⟨rfl, rfl⟩)
    have hg0 : 0 < prs.length := by omega
    have hg1 : 1 < prs.length := by omega
    have hg1' : (1 : Int) < (prs.length : Int) := by omega
    have hgt : decide (0 < i) = true := decide_eq_true (by omega)
    rw [show ad.add 0 = ad from by simp [Addr.add]] at d0
    have d1 : wr.cell? ⟨ad.block, ad.off + 1, none⟩ = some (.string x) := by
      have := add_field ad 0 1 (by omega)
      rw [show ad.add 0 = ad from by simp [Addr.add]] at this
      rw [show (⟨ad.block, ad.off + 1, none⟩ : Addr) = ad.add 1 from this, ← hi1]; exact c0
    have HI1 := Lib.hid hi1
    clear hy hbk' hi1
    cases hq : (y.toList == x.toList) with
    | true =>
      have HF := Lib.hid (show RV = false by
        have := HI1.out
        rw [HR.out, HY.out.1, HY.out.2, hq, decide_eq_false (by omega)]; simp)
      go_quiet (fail)
      go_wp2_with fail
      go_ret
      exact ⟨by rw [HF.out]; rfl, pw_below_drewN HBW.out _⟩
    | false =>
      have HA2 := Lib.hid (show (prs.take (i + 1)).any wideB = false ∧ (2 ≤ i + 1 → ((prs.getD 0 ByteArray.empty).toList == (prs.getD 1 ByteArray.empty).toList) = false) from ⟨HA.out, fun _ => by rw [HY.out.1, HY.out.2]; exact hq⟩)
      go_quiet (fail)
      go_wp2_with fail
      go_roundw
      case rel => exact ⟨i + 1, by go_num, hil, HA2, pw_below_drewN HBE.out _⟩
      case measure => simp [intOf]; omega
set_option maxHeartbeats 8000000 in
set_option maxRecDepth 100000 in
theorem right7_calls (o : Ob) (Ar : Option Addr) (cr : Nat) (Ak : Option Addr) (ck : Nat) (Ap : Option Addr) (cp : Nat) (w : World) (h : ObAt w o Ar cr Ak ck Ap cp) (hk : o.kids.length ≤ 9223372036854775807) :
    Calls Tryz.prog 19 #[.agg (obV o Ar cr Ak ck Ap cp)] w fun e w' => e = .returned (.bool (okOb o)) ∧ Below w.heap.size w w' := by
  obtain ⟨W1, hW1⟩ : ∃ W1, W1 = w.alloc (.cells (obV o Ar cr Ak ck Ap cp) 27) := ⟨_, rfl⟩
  have hn1 : Below w.heap.size w W1 := by rw [hW1]; exact (Below.refl _ _).alloc (Nat.le_refl _) _
  have hg1 : W1.heap[w.heap.size]? = some (.cells (obV o Ar cr Ak ck Ap cp) 27 (0, 0)) := by rw [hW1]; exact alloc_lastV _ _
  have HO := Lib.hid (h.below hn1)
  have HN1 := Lib.hid hn1
  have HG := Lib.hid hg1
  have HND := Lib.hid (rnode_calls o Ar cr Ak ck Ap cp W1 (h.below hn1))
  have HCM := Lib.hid (rcommit_calls o Ar cr Ak ck Ap cp W1 (h.below hn1))
  clear h hn1
  obtain ⟨RV, hRV⟩ : ∃ RV, RV = okOb o := ⟨_, rfl⟩
  rw [← hRV]
  unfold okOb at hRV
  have HRV := Lib.hid hRV
  generalize okNode o = nd at HND HRV
  generalize okCommit o = cm at HCM HRV
  unfold obV at hW1 hg1 HG HND HCM ⊢
  obtain ⟨⟨b0, b1, b2, b3⟩, b4, b5, b6, b7⟩ := box8 hg1
  rw [hW1] at b0 b1 b2 b3 b4 b5 b6 b7
  have HW1 := Lib.hid hW1
  clear hW1 hg1 hRV
  by_cases h1 : o.kind = 1
  · have HF := Lib.hid (HRV.out.trans (if_pos h1))
    rw [h1] at HND HW1 b0 ⊢
    have h21 : ((1 : Int) == 2) = false := rfl
    go_enter Tryz.func19, Tryz.ntmps19
    go_wp2_with fail
    rw [← HW1.out]
    clear b0 b1 b2 b3 b4 b5 b6 b7
    refine HND.out.mono ?_
    rintro e W2 ⟨rfl, hb2⟩
    have hg2 := (hb2.block _ (Array.getElem?_eq_some_iff.1 HG.out).1).trans HG.out
    rw [h1] at hg2
    obtain ⟨⟨b0, b1, b2, b3⟩, b4, b5, b6, b7⟩ := box8 hg2
    have HB2 := Lib.hid (HN1.out.trans (hb2.mono HN1.out.size))
    clear hb2 hg2
    cases nd
    all_goals
      go_wp2_with fail
      go_ret
      exact ⟨by rw [HF.out]; rfl, HB2.out⟩
  have h1' : (o.kind == 1) = false := by simpa using h1
  have HRV := Lib.hid (HRV.out.trans (if_neg h1))
  by_cases h2 : o.kind = 2
  · have HF := Lib.hid (HRV.out.trans (if_pos h2))
    rw [h2] at HCM HW1 b0 ⊢
    go_enter Tryz.func19, Tryz.ntmps19
    go_wp2_with fail
    rw [← HW1.out]
    clear b0 b1 b2 b3 b4 b5 b6 b7
    refine HCM.out.mono ?_
    rintro e W2 ⟨rfl, hb2⟩
    have HB2 := Lib.hid (HN1.out.trans (hb2.mono HN1.out.size))
    clear hb2
    go_wp2_with fail
    go_ret
    exact ⟨by rw [HF.out]; rfl, HB2.out⟩
  have h2' : (o.kind == 2) = false := by simpa using h2
  have HF := Lib.hid (HRV.out.trans (if_neg h2))
  clear h1 h2
  go_enter Tryz.func19, Tryz.ntmps19
  go_wp2_with fail
  go_ret
  exact ⟨by rw [HF.out]; rfl, (Below.refl _ _).alloc (Nat.le_refl _) _⟩
end Go.Proofs.YtgjlchcfdbmmlaaGreatDoor.PObjectPuts
namespace Go.Proofs.YtgjlchcfdbmmlaaGreatDoor.PObjectPuts
open Go.RowKit Go.Proofs.YtgjlchcfdbmmlaaGreatDoor.Ord Go.Proofs.YtgjlchcfdbmmlaaGreatDoor.Obj Go.Proofs.YtgjlchcfdbmmlaaGreatDoorW.PrintWords Go.Proofs.YtgjlchcfdbmmlaaGreatDoorW.PrintLast Go.Proofs.YtgjlchcfdbmmlaaGreatDoorW.PrintMore
attribute [local irreducible] OpGives
attribute [local go_sem] rdl_const rdl_func rdl_global rdl_nil rdl_cons

set_option maxRecDepth 100000 in
theorem num7_R (n : Int) (w : World) : Calls Tryz.prog 39 #[.int .i64 n] w (fun e w' => e = .returned (.agg #[.int .i64 1, .int .i64 n, .string (⟨#[]⟩ : ByteArray), .slice none 0 0]) ∧ Below w.heap.size w w') := by
  go_enter Tryz.func39, Tryz.ntmps39
  go_wp2
  refine bodyPost_ret (results_cell_row rfl _ _ w.heap.size 38 #[.int .i64 1, .int .i64 n, .string (⟨#[]⟩ : ByteArray), .slice none 0 0] (0, 0) _ rfl (heap_alloc_last _ _) Tryz.underlying38 rfl (by kernel_rfl)) rfl ?_
  exact ⟨rfl, (Below.refl _ _).alloc (Nat.le_refl _) _⟩
set_option maxRecDepth 100000 in
theorem text7_R (s : ByteArray) (w : World) : Calls Tryz.prog 40 #[.string s] w (fun e w' => e = .returned (.agg #[.int .i64 2, .int .i64 0, .string s, .slice none 0 0]) ∧ Below w.heap.size w w') := by
  go_enter Tryz.func40, Tryz.ntmps40
  go_wp2
  refine bodyPost_ret (results_cell_row rfl _ _ w.heap.size 38 #[.int .i64 2, .int .i64 0, .string s, .slice none 0 0] (0, 0) _ rfl (heap_alloc_last _ _) Tryz.underlying38 rfl (by kernel_rfl)) rfl ?_
  exact ⟨rfl, (Below.refl _ _).alloc (Nat.le_refl _) _⟩
set_option maxRecDepth 100000 in
theorem list7_R {base : Nat} {l : List S38} {v : Value} {w : World} (h : rC w base v l) : Calls Tryz.prog 38 #[v] w (CellPostR base (listC l) w) := by
  obtain ⟨A, c, rfl⟩ := R_slice h
  have H := Lib.hid h
  clear h
  go_enter Tryz.func38, Tryz.ntmps38
  go_wp2
  refine bodyPost_ret (results_cell_row rfl _ _ w.heap.size 38 #[.int .i64 3, .int .i64 0, .string (⟨#[]⟩ : ByteArray), .slice A l.length c] (0, 0) _ rfl (heap_alloc_last _ _) Tryz.underlying38 rfl (by kernel_rfl)) rfl ?_
  exact ⟨_, rfl, ⟨_, rfl, rC_below H.out ((Below.refl _ _).alloc (Nat.le_refl _) _)⟩, (Below.refl _ _).alloc (Nat.le_refl _) _⟩
theorem append_itemB {W : World} {b0 lo : Nat} {v : Value} {acc : List S38} {x : S38} {g : Nat} {v3 : Value} (hR : rC W b0 v acc) (hv : ∀ k, v.ownBlock = some k → k < lo) (hb0 : b0 ≤ lo) (hgl : lo ≤ g)
    (hg : W.heap[g]? = some (.cells #[.int .i64 x.f0, .int .i64 x.f1, .string x.f2, v3] 38 (0, 0))) (hr3 : rC W lo v3 x.f3) (hn : acc.length ≤ 2513169434915) (ty : TypeId) :
    ∃ v' W', (Builtin.append_ #[36, 36] ty #[v, .slice (some ⟨g, 0, none⟩) 1 1]).run Tryz.prog W = .ok v' W' ∧ W.grownBy W' v.ownBlock ∧ rC W' b0 v' (acc ++ [x]) := by
  obtain ⟨i0, hi0, hz0, hz1, hz2⟩ := info_parts infoCell
  have h1 := R_one hr3
  have hgs := (Array.getElem?_eq_some_iff.1 hg).1
  obtain ⟨h0, inner, hown, hreps⟩ := hR
  have hbn : (acc.length + 1) * 56 ≤ 2513169434916 * 56 := Nat.mul_le_mul (by omega) (Nat.le_refl _)
  obtain ⟨h, cap, W', hr, hown', hgr, hat, _⟩ := run_append_lies (P := Tryz.prog) W 36 ty b0 38 i0 _ 4 56 Tryz.underlying36 hi0 hz0 hz1 hz2 (by rfl) (by decide) v acc.length _ hown ⟨g, 0, none⟩ 1 1 [.int .i64 x.f0, .int .i64 x.f1, .string x.f2, v3]
    (by rfl) (World.news_of_block (cs := #[.int .i64 x.f0, .int .i64 x.f1, .string x.f2, v3]) hg) (by
      intro u hu
      simp only [List.mem_cons, List.not_mem_nil, or_false] at hu
      rcases hu with rfl | rfl | rfl | rfl
      · rfl
      · rfl
      · rfl
      · exact h1) (by decide) (by unfold maxLen; omega) (by omega) (by omega) W.heap.size rfl
  have hm3 : Kd.M k38 W b0 (fun k => lo ≤ k) x [.int .i64 x.f0, .int .i64 x.f1, .string x.f2, v3] :=
    k38_mkM W b0 _ x (Kd.R_lower (Kd.R_mono (Kd.R_bound hr3) (fun k hk => hk.2.1)) hb0)
  have hres := Kd.R_appended (d := k38) (e := 38) (base := b0) (ok := fun _ => True) (W := W) (w1 := W') (v := v) (v1 := .slice (some ⟨h, 0, none⟩) (acc.length + 1) cap) h0 hreps hm3 (fun k hk => ⟨trivial, fun e => by have := hv k e.symm; omega⟩) (fun k hk => trivial) hown' hgr
    (hat.elim (fun e => .inl (by rw [e]; rfl)) (fun e => .inr ⟨h, rfl, by omega⟩))
  exact ⟨_, W', hr, hgr, hres⟩
theorem append_litB {W : World} {b0 lo : Nat} {v : Value} {acc : List S38} {x : S38} {u : Value} (hR : rC W b0 v acc) (hv : ∀ k, v.ownBlock = some k → k < lo) (hb0 : b0 ≤ lo)
    (h : litC lo [x] u W) (hn : acc.length ≤ 2513169434915) (ty : TypeId) :
    ∃ v' W', (Builtin.append_ #[36, 36] ty #[v, u]).run Tryz.prog W = .ok v' W' ∧ W.grownBy W' v.ownBlock ∧ rC W' b0 v' (acc ++ [x]) := by
  obtain ⟨g, cs, rfl, hlg, hg, hr⟩ := h
  have h4 : cs.length = 4 := by have := hr.1; simpa using this
  have hM : Kd.M k38 W lo (fun _ => True) x cs := by
    have := hr.2 0 x rfl
    rwa [Nat.zero_mul, List.drop_zero, ← h4, List.take_length] at this
  obtain ⟨v3, rfl, hr3⟩ := k38_openM hM
  exact append_itemB hR hv hb0 hlg hg hr3 hn ty
/-- A row of the call's own. -/
def rowF (lo : Nat) (xs : List S38) : Value → World → Prop := fun u W => rC W lo u xs
theorem rowF_below {lo : Nat} {xs : List S38} {u : Value} {W W' : World} (h : rowF lo xs u W) (hb : Below W.heap.size W W') : rowF lo xs u W' := rC_below h hb
theorem rowF_of {lo : Nat} {xs : List S38} {us : List Value} {W : World} (hr : repsM W lo xs (us.flatMap fun v => v.cells.toList)) (hlo : lo ≤ W.heap.size) (hn : xs.length ≤ 1000) :
    rowF lo xs (.slice (some ⟨W.heap.size, 0, none⟩) xs.length xs.length) (W.alloc (.cells (us.flatMap fun v => v.cells.toList).toArray 38)) := by
  have hb : Below W.heap.size W (W.alloc (.cells (us.flatMap fun v => v.cells.toList).toArray 38)) := (Below.refl _ _).alloc (Nat.le_refl _) _
  have hlen : (us.flatMap fun v => v.cells.toList).length = xs.length * (k38).sz := hr.1
  refine ⟨fun _ _ => trivial, us.flatMap fun v => v.cells.toList, ⟨hlen, .inr ⟨W.heap.size, xs.length, (us.flatMap fun v => v.cells.toList).toArray, rfl, hlo, heap_alloc_last _ _, Nat.le_refl _, by unfold maxLen; omega, by simpa using hlen, ?_⟩⟩, hlen, fun j p hj => ?_⟩
  · rw [← hlen]; exact List.take_length
  · exact Kd.M_below ((k38).M_mono (ok' := fun k => True ∧ some k ≠ (Value.slice (some ⟨W.heap.size, 0, none⟩) xs.length xs.length).ownBlock) (fun k hk => ⟨trivial, fun e => by
      have h1 := hk.2.2.1
      injection e with e1
      have e2 : k = W.heap.size := e1
      omega⟩) ((k38).M_bound (hr.2 j p hj))) hb
set_option maxHeartbeats 16000000 in
set_option maxRecDepth 100000 in
theorem rows7_calls (l : List S50) (A : Option Addr) (c : Nat) (w : World) (hA : Kd.C k50 w A l.length l) (hc : l.length ≤ c) (hl : l.length ≤ 2513169434916) :
    Calls Tryz.prog 27 #[.slice A l.length c] w (CellPostR w.heap.size (rowsC l) w) := by
  obtain ⟨W1, hW1⟩ : ∃ W1, W1 = w.alloc (.cells #[.int .i64 0, .int .i64 0, .string (⟨#[]⟩ : ByteArray), .slice none 0 0] 38) := ⟨_, rfl⟩
  have hn1 : Below w.heap.size w W1 := by rw [hW1]; exact (Below.refl _ _).alloc (Nat.le_refl _) _
  have hg1 : W1.heap[w.heap.size]? = some (.cells #[.int .i64 0, .int .i64 0, .string (⟨#[]⟩ : ByteArray), .slice none 0 0] 38 (0, 0)) := by rw [hW1]; exact heap_alloc_last _ _
  have hs1 : W1.heap.size = w.heap.size + 1 := by rw [hW1]; simp
  have HN1 := Lib.hid hn1
  have HG1 := Lib.hid hg1
  have HS1 := Lib.hid hs1
  have HA := Lib.hid hA
  have HW1 := Lib.hid hW1
  clear hW1 hn1 hg1 hs1 hA
  go_enter Tryz.func27, Tryz.ntmps27
  go_wp2_with fail
  rw [← HW1.out]
  go_loopw [3, 4] (fun v i wr => ∃ k : Nat, i = .int .i64 (k : Int) ∧ k ≤ l.length ∧ rC wr W1.heap.size v ((l.take k).map rowC) ∧ Below W1.heap.size W1 wr) (fun _ i _ => l.length - (intOf i).toNat)
  case atStart => exact ⟨0, rfl, Nat.zero_le _, Kd.R_nil _ _ _ _ _, Below.refl _ _⟩
  case round =>
    obtain ⟨i, rfl, hi, hrow, hbe⟩ := hrel
    have HROW := Lib.hid hrow
    have HBE := Lib.hid hbe
    have hb1 := HN1.out.trans (hbe.mono HN1.out.size)
    have HB1 := Lib.hid hb1
    clear hrow hbe hb1
    by_cases hil : i < l.length
    · obtain ⟨x, hx⟩ : ∃ x, l[i]? = some x := ⟨_, List.getElem?_eq_getElem hil⟩
      obtain ⟨ad, rfl, c0, c1, c2, c3, c4, hbk⟩ := row_at (Kd.C_below HA.out HB1.out) hx
      have HX := Lib.hid hx
      clear hx
      have hlen : ((l.take i).map rowC).length ≤ 2513169434915 := by rw [List.length_map, List.length_take]; omega
      have hown : ∀ k, u3.ownBlock = some k → k < wr.heap.size := fun k hk => by
        obtain ⟨_, inner, ho, _⟩ := HROW.out
        exact own_lt ho k hk
      have HLEN := Lib.hid hlen
      have HOWN := Lib.hid hown
      clear hlen hown
      go_wp2_with fail
      clear c0 c1 c2 c3 c4 hbk
      refine (num7_R x.f2.f1 wr).mono ?_
      rintro e W4 ⟨rfl, hb4⟩
      obtain ⟨W5, hW5⟩ : ∃ W5, W5 = W4.alloc (.cells #[.int .i64 1, .int .i64 x.f2.f1, .string (⟨#[]⟩ : ByteArray), .slice none 0 0] 38) := ⟨_, rfl⟩
      have hn5 : Below W4.heap.size W4 W5 := by rw [hW5]; exact (Below.refl _ _).alloc (Nat.le_refl _) _
      have hc5 : W5.heap[W4.heap.size]? = some (.cells #[.int .i64 1, .int .i64 x.f2.f1, .string (⟨#[]⟩ : ByteArray), .slice none 0 0] 38 (0, 0)) := by rw [hW5]; exact alloc_lastV _ _
      have hb5 : Below wr.heap.size wr W5 := hb4.trans (hn5.mono hb4.size)
      have hs4 : wr.heap.size ≤ W4.heap.size := hb4.size
      obtain ⟨ad', e', c0, c1, c2, c3, c4, hbk⟩ := row_at (Kd.C_below HA.out (HB1.out.trans (hb5.mono HB1.out.size))) HX.out
      cases e'
      rw [hW5] at c0 c1 c2 c3 c4
      have HC5 := Lib.hid hc5
      have HB5 := Lib.hid hb5
      have HW5 := Lib.hid hW5
      have HS4 := Lib.hid hs4
      clear hb4 hn5 hc5 hb5 hW5 hs4
      by_cases hk2 : x.f2.f0 = 2
      · have hk2' : (x.f2.f0 == 2) = true := by simpa using hk2
        have hval : valC x.f2 = textC x.f2.f2 := by unfold valC; rw [if_pos hk2]
        have HVAL := Lib.hid hval
        clear hk2 hval
        go_wp2_with fail
        rw [← HW5.out]
        clear c0 c1 c2 c3 c4 hbk
        refine (text7_R x.f2.f2 W5).mono ?_
        rintro e W6 ⟨rfl, hb6⟩
        have hc6 := (hb6.block _ (Array.getElem?_eq_some_iff.1 HC5.out).1).trans HC5.out
        have z0 : W6.cell? ⟨W4.heap.size, 0, none⟩ = some (.int .i64 1) := by rw [Lib.cell_of_heap hc6]; rfl
        have z1 : W6.cell? ⟨W4.heap.size, 1, none⟩ = some (.int .i64 x.f2.f1) := by rw [Lib.cell_of_heap hc6]; rfl
        have z2 : W6.cell? ⟨W4.heap.size, 2, none⟩ = some (.string (⟨#[]⟩ : ByteArray)) := by rw [Lib.cell_of_heap hc6]; rfl
        have z3 : W6.cell? ⟨W4.heap.size, 3, none⟩ = some (.slice none 0 0) := by rw [Lib.cell_of_heap hc6]; rfl
        have f0 := Lib.frozen_of_heap hc6 0
        have f1 := Lib.frozen_of_heap hc6 1
        have f2 := Lib.frozen_of_heap hc6 2
        have f3 := Lib.frozen_of_heap hc6 3
        obtain ⟨W7, hW7⟩ : ∃ W7, W7 = put4 W6 W4.heap.size (.int .i64 2) (.int .i64 0) (.string x.f2.f2) (.slice none 0 0) := ⟨_, rfl⟩
        have hc7 : W7.heap[W4.heap.size]? = some (.cells #[.int .i64 (valC x.f2).f0, .int .i64 (valC x.f2).f1, .string (valC x.f2).f2, .slice none 0 0] 38 (0, 0)) := by
          rw [HVAL.out, hW7]; exact four_put hc6 _ _ _ _
        have hfar : ∀ k, k ≠ W4.heap.size → W7.heap[k]? = W6.heap[k]? := fun k hk => by rw [hW7]; exact put4_far hk _ _ _ _
        have hb7 : Below wr.heap.size wr W7 := by
          have h1 : Below wr.heap.size wr W6 := HB5.out.trans (hb6.mono HB5.out.size)
          have hs := HS4.out
          exact ⟨by rw [hW7]; exact h1.os, by rw [hW7]; exact h1.tape, by rw [hW7]; exact h1.output, by rw [hW7, put4_size]; exact h1.size, fun k hk => (hfar k (by omega)).trans (h1.block k hk)⟩
        have HC7 := Lib.hid hc7
        have HB7 := Lib.hid hb7
        unfold put4 at hW7
        have HW7 := Lib.hid hW7
        clear hc6 hc7 hfar hb7 hW7 hb6
        go_wp2_with fail
        rw [← HW7.out]
        clear z0 z1 z2 z3 f0 f1 f2 f3
        have hcl : ∀ W, Below W7.heap.size W7 W → W.cell? (ad.add (i * 5)) = some (.int .i64 x.f0) ∧ W.cell? ⟨(ad.add (i * 5)).block, (ad.add (i * 5)).off + 1, none⟩ = some (.int .i64 x.f1) ∧ W.cell? ⟨W4.heap.size, 0, none⟩ = some (.int .i64 (valC x.f2).f0) ∧ W.cell? ⟨W4.heap.size, 1, none⟩ = some (.int .i64 (valC x.f2).f1) ∧ W.cell? ⟨W4.heap.size, 2, none⟩ = some (.string (valC x.f2).f2) ∧ W.cell? ⟨W4.heap.size, 3, none⟩ = some (.slice none 0 0) := fun W hW => by
          have hbW := HB1.out.trans ((HB7.out.trans (hW.mono HB7.out.size)).mono HB1.out.size)
          obtain ⟨ad', e', b0, b1, _⟩ := row_at (Kd.C_below HA.out hbW) HX.out
          cases e'
          have hc := (hW.block _ (Array.getElem?_eq_some_iff.1 HC7.out).1).trans HC7.out
          refine ⟨b0, b1, ?_, ?_, ?_, ?_⟩ <;> (rw [Lib.cell_of_heap hc]; rfl)
        have HCL := Lib.hid hcl
        have hlo : W7.heap.size ≤ W7.heap.size := Nat.le_refl _
        have hi0 : (0 : Int) ≤ (i : Int) := by omega
        have hi1 : (i : Int) < (l.length : Int) := by omega
        have hie : ∀ W : World, Exists fun v => True := fun _ => ⟨0, trivial⟩
        clear hcl hie
        refine' wp_region_factsM (S := (fun _ W => Below W7.heap.size W7 W)) (fun _ W W' => Below W.heap.size W W') [eqM _, eqM _, eqM _, eqM (.pointer (some (ad.add (i * 5)))), eqM (.pointer (some (ad.add (i * 5)))), eqM (.int .i64 x.f0), cellF W7.heap.size (numC x.f0), eqM _, eqM _, eqM (.pointer (some (ad.add (i * 5)))), eqM (.pointer (some ⟨(ad.add (i * 5)).block, (ad.add (i * 5)).off + 1, none⟩)), eqM (.int .i64 x.f1), cellF W7.heap.size (numC x.f1), cellF W7.heap.size (valC x.f2), rowF W7.heap.size [numC x.f0, numC x.f1, valC x.f2], cellF W7.heap.size (rowC x), litC W7.heap.size [rowC x]] (by kernel_rfl) (by kernel_rfl) ?hst ?h0 (Ord.stepsM_cons ?s0 (Ord.stepsM_cons ?s1 (Ord.stepsM_cons ?s2 (Ord.stepsM_cons ?s3 (Ord.stepsM_cons ?s4 (Ord.stepsM_cons ?s5 (Ord.stepsM_cons ?s6 (Ord.stepsM_cons ?s7 (Ord.stepsM_cons ?s8 (Ord.stepsM_cons ?s9 (Ord.stepsM_cons ?s10 (Ord.stepsM_cons ?s11 (Ord.stepsM_cons ?s12 (Ord.stepsM_cons ?s13 (Ord.stepsM_cons ?s14 (Ord.stepsM_cons ?s15 (Ord.stepsM_cons ?s16 (Ord.stepsM_nil)))))))))))))))))) ?fin
        case s0 =>
          intro g W L hL hSW hd
          try simp only [Nat.zero_add, Nat.reduceAdd] at hd ⊢
          with_reducible refine OpGives.pre_reads [] 53 ?_ ?_ ?_
          · rfl
          · kernel_rfl
          simp only [List.map_cons, List.map_nil]
          refine OpGives.val (w' := W) ?_ ⟨Below.refl _ _, rfl, hSW⟩
          go_simp
          try with_reducible rfl
        case s1 =>
          intro g W L hL hSW hd
          try simp only [Nat.zero_add, Nat.reduceAdd] at hd ⊢
          with_reducible refine OpGives.pre_reads [] 53 ?_ ?_ ?_
          · rfl
          · kernel_rfl
          simp only [List.map_cons, List.map_nil]
          refine OpGives.val (w' := W) ?_ ⟨Below.refl _ _, rfl, hSW⟩
          go_simp
          try with_reducible rfl
        case s2 =>
          intro g W L hL hSW hd
          try simp only [Nat.zero_add, Nat.reduceAdd] at hd ⊢
          with_reducible refine OpGives.pre_reads [] 53 ?_ ?_ ?_
          · rfl
          · kernel_rfl
          simp only [List.map_cons, List.map_nil]
          refine OpGives.val (w' := W) ?_ ⟨Below.refl _ _, rfl, hSW⟩
          go_simp
          try with_reducible rfl
        case s3 =>
          intro g W L hL hSW hd
          try simp only [Nat.zero_add, Nat.reduceAdd] at hd ⊢
          have h1 : g 1 = _ := hd 1 (by decide) (by kernel_rfl)
          have h2 : g 2 = _ := hd 2 (by decide) (by kernel_rfl)
          with_reducible refine OpGives.pre_reads [(34, 1), (35, 2)] 53 ?_ ?_ ?_
          · rfl
          · kernel_rfl
          simp only [List.map_cons, List.map_nil]
          refine OpGives.val (v := .pointer (some (ad.add (i * 5)))) (w' := W) ?_ ⟨Below.refl _ _, rfl, hSW⟩; rw [h1, h2]; go_simp
        case s4 =>
          intro g W L hL hSW hd
          try simp only [Nat.zero_add, Nat.reduceAdd] at hd ⊢
          have h3 : g 3 = _ := hd 3 (by decide) (by kernel_rfl)
          with_reducible refine OpGives.pre_reads [(36, 3)] 53 ?_ ?_ ?_
          · rfl
          · kernel_rfl
          simp only [List.map_cons, List.map_nil]
          rw [h3]; refine OpGives.val (v := .pointer (some (ad.add (i * 5)))) (w' := W) ?_ ⟨Below.refl _ _, rfl, hSW⟩; go_simp
        case s5 =>
          intro g W L hL hSW hd
          try simp only [Nat.zero_add, Nat.reduceAdd] at hd ⊢
          have h4 : g 4 = _ := hd 4 (by decide) (by kernel_rfl)
          with_reducible refine OpGives.pre_reads [(37, 4)] 53 ?_ ?_ ?_
          · rfl
          · kernel_rfl
          simp only [List.map_cons, List.map_nil]
          rw [h4]; obtain ⟨z0, z1, z2, z3, z4, z5⟩ := HCL.out W hSW; refine OpGives.val (v := .int .i64 x.f0) (w' := W) ?_ ⟨Below.refl _ _, rfl, hSW⟩; go_simp
        case s6 =>
          intro g W L hL hSW hd
          try simp only [Nat.zero_add, Nat.reduceAdd] at hd ⊢
          have h5 : g 5 = _ := hd 5 (by decide) (by kernel_rfl)
          with_reducible refine OpGives.pre_reads [(38, 5)] 53 ?_ ?_ ?_
          · rfl
          · kernel_rfl
          simp only [List.map_cons, List.map_nil]
          rw [h5]; refine OpGives.call (f := 39) (args := #[.int .i64 x.f0]) (w' := W) (by go_simp) ((num7_R x.f0 W).mono fun e W' ⟨he, hb⟩ => ⟨_, he, hb, num_F _ _ _, hSW.trans (hb.mono hSW.size)⟩)
        case s7 =>
          intro g W L hL hSW hd
          try simp only [Nat.zero_add, Nat.reduceAdd] at hd ⊢
          with_reducible refine OpGives.pre_reads [] 53 ?_ ?_ ?_
          · rfl
          · kernel_rfl
          simp only [List.map_cons, List.map_nil]
          refine OpGives.val (w' := W) ?_ ⟨Below.refl _ _, rfl, hSW⟩
          go_simp
          try with_reducible rfl
        case s8 =>
          intro g W L hL hSW hd
          try simp only [Nat.zero_add, Nat.reduceAdd] at hd ⊢
          with_reducible refine OpGives.pre_reads [] 53 ?_ ?_ ?_
          · rfl
          · kernel_rfl
          simp only [List.map_cons, List.map_nil]
          refine OpGives.val (w' := W) ?_ ⟨Below.refl _ _, rfl, hSW⟩
          go_simp
          try with_reducible rfl
        case s9 =>
          intro g W L hL hSW hd
          try simp only [Nat.zero_add, Nat.reduceAdd] at hd ⊢
          have h7 : g 7 = _ := hd 7 (by decide) (by kernel_rfl)
          have h8 : g 8 = _ := hd 8 (by decide) (by kernel_rfl)
          with_reducible refine OpGives.pre_reads [(40, 7), (41, 8)] 53 ?_ ?_ ?_
          · rfl
          · kernel_rfl
          simp only [List.map_cons, List.map_nil]
          refine OpGives.val (v := .pointer (some (ad.add (i * 5)))) (w' := W) ?_ ⟨Below.refl _ _, rfl, hSW⟩; rw [h7, h8]; go_simp
        case s10 =>
          intro g W L hL hSW hd
          try simp only [Nat.zero_add, Nat.reduceAdd] at hd ⊢
          have h9 : g 9 = _ := hd 9 (by decide) (by kernel_rfl)
          with_reducible refine OpGives.pre_reads [(42, 9)] 53 ?_ ?_ ?_
          · rfl
          · kernel_rfl
          simp only [List.map_cons, List.map_nil]
          rw [h9]; refine OpGives.val (v := .pointer (some ⟨(ad.add (i * 5)).block, (ad.add (i * 5)).off + 1, none⟩)) (w' := W) ?_ ⟨Below.refl _ _, rfl, hSW⟩; go_simp
        case s11 =>
          intro g W L hL hSW hd
          try simp only [Nat.zero_add, Nat.reduceAdd] at hd ⊢
          have h10 : g 10 = _ := hd 10 (by decide) (by kernel_rfl)
          with_reducible refine OpGives.pre_reads [(43, 10)] 53 ?_ ?_ ?_
          · rfl
          · kernel_rfl
          simp only [List.map_cons, List.map_nil]
          rw [h10]; obtain ⟨z0, z1, z2, z3, z4, z5⟩ := HCL.out W hSW; refine OpGives.val (v := .int .i64 x.f1) (w' := W) ?_ ⟨Below.refl _ _, rfl, hSW⟩; go_simp
        case s12 =>
          intro g W L hL hSW hd
          try simp only [Nat.zero_add, Nat.reduceAdd] at hd ⊢
          have h11 : g 11 = _ := hd 11 (by decide) (by kernel_rfl)
          with_reducible refine OpGives.pre_reads [(44, 11)] 53 ?_ ?_ ?_
          · rfl
          · kernel_rfl
          simp only [List.map_cons, List.map_nil]
          rw [h11]; refine OpGives.call (f := 39) (args := #[.int .i64 x.f1]) (w' := W) (by go_simp) ((num7_R x.f1 W).mono fun e W' ⟨he, hb⟩ => ⟨_, he, hb, num_F _ _ _, hSW.trans (hb.mono hSW.size)⟩)
        case s13 =>
          intro g W L hL hSW hd
          try simp only [Nat.zero_add, Nat.reduceAdd] at hd ⊢
          with_reducible refine OpGives.pre_reads [] 53 ?_ ?_ ?_
          · rfl
          · kernel_rfl
          simp only [List.map_cons, List.map_nil]
          obtain ⟨z0, z1, z2, z3, z4, z5⟩ := HCL.out W hSW; refine OpGives.val (v := valV x.f2) (w' := W) ?_ ⟨Below.refl _ _, val_F _ _ _, hSW⟩; unfold valV; go_simp
        case s14 =>
          intro g W L hL hSW hd
          try simp only [Nat.zero_add, Nat.reduceAdd] at hd ⊢
          have h6 := hd 6 (by decide) (by kernel_rfl)
          change (cellF W7.heap.size (numC x.f0)) (g 6) W at h6
          have h12 := hd 12 (by decide) (by kernel_rfl)
          change (cellF W7.heap.size (numC x.f1)) (g 12) W at h12
          have h13 := hd 13 (by decide) (by kernel_rfl)
          change (cellF W7.heap.size (valC x.f2)) (g 13) W at h13
          with_reducible refine OpGives.pre_reads [(39, 6), (45, 12), (46, 13)] 53 ?_ ?_ ?_
          · rfl
          · kernel_rfl
          simp only [List.map_cons, List.map_nil]
          refine OpGives.val (v := .slice (some ⟨W.heap.size, 0, none⟩) 3 3) (w' := W.alloc (.cells ([g 6, g 12, g 13].flatMap fun v => v.cells.toList).toArray 38)) (exec_buildSlice 36 3 _ rfl (lit_run3 h6 h12 h13 _ (by simp [rdl_cons]))) ⟨(Below.refl _ _).alloc (Nat.le_refl _) _, rowF_of (repsM_3 h6 h12 h13) hSW.size (by simp), hSW.alloc hSW.size _⟩
        case s15 =>
          intro g W L hL hSW hd
          try simp only [Nat.zero_add, Nat.reduceAdd] at hd ⊢
          have h14 := hd 14 (by decide) (by kernel_rfl)
          change (rowF W7.heap.size [numC x.f0, numC x.f1, valC x.f2]) (g 14) W at h14
          with_reducible refine OpGives.pre_reads [(47, 14)] 53 ?_ ?_ ?_
          · rfl
          · kernel_rfl
          simp only [List.map_cons, List.map_nil]
          refine OpGives.call (f := 38) (args := #[g 14]) (w' := W) (by go_simp) ((list7_R h14).mono fun e W' ⟨u, he, hf, hb⟩ => ⟨u, he, hb, hf, hSW.trans (hb.mono hSW.size)⟩)
        case s16 =>
          intro g W L hL hSW hd
          try simp only [Nat.zero_add, Nat.reduceAdd] at hd ⊢
          have h15 := hd 15 (by decide) (by kernel_rfl)
          change (cellF W7.heap.size (rowC x)) (g 15) W at h15
          with_reducible refine OpGives.pre_reads [(48, 15)] 53 ?_ ?_ ?_
          · rfl
          · kernel_rfl
          simp only [List.map_cons, List.map_nil]
          refine OpGives.val (v := .slice (some ⟨W.heap.size, 0, none⟩) 1 1) (w' := W.alloc (.cells ([g 15].flatMap fun v => v.cells.toList).toArray 38)) (exec_buildSlice 36 1 _ rfl (lit_run1 h15 _ (by simp [rdl_cons]))) ⟨(Below.refl _ _).alloc (Nat.le_refl _) _, litC_of (repsM_1 h15) hSW.size, hSW.alloc hSW.size _⟩
        case hst =>
          refine fun i j v w w' _ h hR => st_of (R := fun W W' => Below W.heap.size W W') ?_ i v w w' h hR
          repeat' first
            | exact trivial
            | with_reducible refine StL.eq ?_
            | refine ⟨fun v w w' h hR => cellF_below h hR, ?_⟩
            | refine ⟨fun v w w' h hR => rowF_below h hR, ?_⟩
            | refine ⟨fun v w w' h hR => litC_below h hR, ?_⟩
        case h0 => exact (Below.refl _ _).drew
        case fin =>
          intro v' W L hL hSW hf
          have h16 := hf 16 (Nat.lt_of_lt_of_eq (by decide : 16 < 17) rfl)
          have h0 : v' 0 = _ := hf 0 (Nat.lt_of_lt_of_eq (by decide : 0 < 17) rfl)
          change litC W7.heap.size [rowC x] (v' 16) W at h16
          clear hf
          generalize hF : Ord.pre _ _ v' _ = F
          rw [Ord.pre_lit [some 33, some 34, some 35, some 36, some 37, some 38, some 39, some 40, some 41, some 42, some 43, some 44, some 45, some 46, some 47, some 48, some 49]
            (by kernel_rfl)] at hF
          simp only [Ord.puts, Nat.zero_add, Nat.reduceAdd] at hF
          subst hF
          rw [h0]
          have hb7W := HB7.out.trans (hSW.mono HB7.out.size)
          have hrW := Kd.R_below HROW.out (⟨hb7W.os, hb7W.tape, hb7W.output, hb7W.size, hb7W.block⟩)
          obtain ⟨v8, W8, hr8, hg8, hR8⟩ := append_litB (b0 := W1.heap.size) (lo := W7.heap.size) hrW (fun k hk => Nat.lt_of_lt_of_le (HOWN.out k hk) HB7.out.size) (Nat.le_trans HBE.out.size HB7.out.size) h16 HLEN.out 36
          have hB8 := grown_below hrW hg8 (HBE.out.trans (hb7W.mono HBE.out.size)) (Nat.le_trans HBE.out.size hb7W.size)
          have hR8' : rC W8 W1.heap.size v8 ((l.take (i + 1)).map rowC) := by
            rw [List.take_add_one, HX.out]; simpa using hR8
          have HR8 := Lib.hid hR8'
          have HB8 := Lib.hid hB8
          clear hg8 hR8 hR8' hB8 hrW hb7W hSW h16
          refine any_one (i := 17) (by kernel_rfl) ?_
          refine wpOp_value (v := v8) (w' := W8) rfl rfl ?_ ?_
          · refine exec_append (.tmp 33) (.tmp 49) 36 rfl ?_
            have key : ∀ a b ty, a = u3 → b = v' 16 → ty = 36 → (Builtin.append_ #[36, 36] ty #[a, b]).run Tryz.prog W = .ok v8 W8 := by rintro _ _ _ rfl rfl rfl; exact hr8
            refine key _ _ _ ?_ ?_ rfl
            · go_simp
            · go_simp
          refine any_one (i := 18) (by kernel_rfl) ?_
          refine wpOp_value (v := v8) (w' := W8) rfl rfl (by go_simp) ?_
          refine wpAny_done (by kernel_rfl) ?_ _
          try simp only [List.getElem_toArray, List.getElem_cons_succ, List.getElem_cons_zero]
          go_frame
          clear hr8
          have hwi : IntKind.i64.wrap ((i : Int) + 1) = (i : Int) + 1 := by rw [IntKind.wrap_i64]; omega
          go_wp2_with fail
          go_roundw
          case rel => exact ⟨i + 1, by go_num, hil, HR8.out, HB8.out⟩
          case measure => simp [intOf]; omega
      · have hk2' : (x.f2.f0 == 2) = false := by simpa using hk2
        have hval : valC x.f2 = numC x.f2.f1 := by unfold valC; rw [if_neg hk2]
        have HVAL := Lib.hid hval
        have HC7 := Lib.hid (show W5.heap[W4.heap.size]? = some (.cells #[.int .i64 (valC x.f2).f0, .int .i64 (valC x.f2).f1, .string (valC x.f2).f2, .slice none 0 0] 38 (0, 0)) by rw [hval]; exact HC5.out)
        clear hk2 hval
        go_wp2_with fail
        rw [← HW5.out]
        clear c0 c1 c2 c3 c4 hbk
        have hcl : ∀ W, Below W5.heap.size W5 W → W.cell? (ad.add (i * 5)) = some (.int .i64 x.f0) ∧ W.cell? ⟨(ad.add (i * 5)).block, (ad.add (i * 5)).off + 1, none⟩ = some (.int .i64 x.f1) ∧ W.cell? ⟨W4.heap.size, 0, none⟩ = some (.int .i64 (valC x.f2).f0) ∧ W.cell? ⟨W4.heap.size, 1, none⟩ = some (.int .i64 (valC x.f2).f1) ∧ W.cell? ⟨W4.heap.size, 2, none⟩ = some (.string (valC x.f2).f2) ∧ W.cell? ⟨W4.heap.size, 3, none⟩ = some (.slice none 0 0) := fun W hW => by
          have hbW := HB1.out.trans ((HB5.out.trans (hW.mono HB5.out.size)).mono HB1.out.size)
          obtain ⟨ad', e', b0, b1, _⟩ := row_at (Kd.C_below HA.out hbW) HX.out
          cases e'
          have hc := (hW.block _ (Array.getElem?_eq_some_iff.1 HC7.out).1).trans HC7.out
          refine ⟨b0, b1, ?_, ?_, ?_, ?_⟩ <;> (rw [Lib.cell_of_heap hc]; rfl)
        have HCL := Lib.hid hcl
        have hlo : W5.heap.size ≤ W5.heap.size := Nat.le_refl _
        have hi0 : (0 : Int) ≤ (i : Int) := by omega
        have hi1 : (i : Int) < (l.length : Int) := by omega
        have hie : ∀ W : World, Exists fun v => True := fun _ => ⟨0, trivial⟩
        clear hcl hie
        refine' wp_region_factsM (S := (fun _ W => Below W5.heap.size W5 W)) (fun _ W W' => Below W.heap.size W W') [eqM _, eqM _, eqM _, eqM (.pointer (some (ad.add (i * 5)))), eqM (.pointer (some (ad.add (i * 5)))), eqM (.int .i64 x.f0), cellF W5.heap.size (numC x.f0), eqM _, eqM _, eqM (.pointer (some (ad.add (i * 5)))), eqM (.pointer (some ⟨(ad.add (i * 5)).block, (ad.add (i * 5)).off + 1, none⟩)), eqM (.int .i64 x.f1), cellF W5.heap.size (numC x.f1), cellF W5.heap.size (valC x.f2), rowF W5.heap.size [numC x.f0, numC x.f1, valC x.f2], cellF W5.heap.size (rowC x), litC W5.heap.size [rowC x]] (by kernel_rfl) (by kernel_rfl) ?hst ?h0 (Ord.stepsM_cons ?s0 (Ord.stepsM_cons ?s1 (Ord.stepsM_cons ?s2 (Ord.stepsM_cons ?s3 (Ord.stepsM_cons ?s4 (Ord.stepsM_cons ?s5 (Ord.stepsM_cons ?s6 (Ord.stepsM_cons ?s7 (Ord.stepsM_cons ?s8 (Ord.stepsM_cons ?s9 (Ord.stepsM_cons ?s10 (Ord.stepsM_cons ?s11 (Ord.stepsM_cons ?s12 (Ord.stepsM_cons ?s13 (Ord.stepsM_cons ?s14 (Ord.stepsM_cons ?s15 (Ord.stepsM_cons ?s16 (Ord.stepsM_nil)))))))))))))))))) ?fin
        case s0 =>
          intro g W L hL hSW hd
          try simp only [Nat.zero_add, Nat.reduceAdd] at hd ⊢
          with_reducible refine OpGives.pre_reads [] 53 ?_ ?_ ?_
          · rfl
          · kernel_rfl
          simp only [List.map_cons, List.map_nil]
          refine OpGives.val (w' := W) ?_ ⟨Below.refl _ _, rfl, hSW⟩
          go_simp
          try with_reducible rfl
        case s1 =>
          intro g W L hL hSW hd
          try simp only [Nat.zero_add, Nat.reduceAdd] at hd ⊢
          with_reducible refine OpGives.pre_reads [] 53 ?_ ?_ ?_
          · rfl
          · kernel_rfl
          simp only [List.map_cons, List.map_nil]
          refine OpGives.val (w' := W) ?_ ⟨Below.refl _ _, rfl, hSW⟩
          go_simp
          try with_reducible rfl
        case s2 =>
          intro g W L hL hSW hd
          try simp only [Nat.zero_add, Nat.reduceAdd] at hd ⊢
          with_reducible refine OpGives.pre_reads [] 53 ?_ ?_ ?_
          · rfl
          · kernel_rfl
          simp only [List.map_cons, List.map_nil]
          refine OpGives.val (w' := W) ?_ ⟨Below.refl _ _, rfl, hSW⟩
          go_simp
          try with_reducible rfl
        case s3 =>
          intro g W L hL hSW hd
          try simp only [Nat.zero_add, Nat.reduceAdd] at hd ⊢
          have h1 : g 1 = _ := hd 1 (by decide) (by kernel_rfl)
          have h2 : g 2 = _ := hd 2 (by decide) (by kernel_rfl)
          with_reducible refine OpGives.pre_reads [(34, 1), (35, 2)] 53 ?_ ?_ ?_
          · rfl
          · kernel_rfl
          simp only [List.map_cons, List.map_nil]
          refine OpGives.val (v := .pointer (some (ad.add (i * 5)))) (w' := W) ?_ ⟨Below.refl _ _, rfl, hSW⟩; rw [h1, h2]; go_simp
        case s4 =>
          intro g W L hL hSW hd
          try simp only [Nat.zero_add, Nat.reduceAdd] at hd ⊢
          have h3 : g 3 = _ := hd 3 (by decide) (by kernel_rfl)
          with_reducible refine OpGives.pre_reads [(36, 3)] 53 ?_ ?_ ?_
          · rfl
          · kernel_rfl
          simp only [List.map_cons, List.map_nil]
          rw [h3]; refine OpGives.val (v := .pointer (some (ad.add (i * 5)))) (w' := W) ?_ ⟨Below.refl _ _, rfl, hSW⟩; go_simp
        case s5 =>
          intro g W L hL hSW hd
          try simp only [Nat.zero_add, Nat.reduceAdd] at hd ⊢
          have h4 : g 4 = _ := hd 4 (by decide) (by kernel_rfl)
          with_reducible refine OpGives.pre_reads [(37, 4)] 53 ?_ ?_ ?_
          · rfl
          · kernel_rfl
          simp only [List.map_cons, List.map_nil]
          rw [h4]; obtain ⟨z0, z1, z2, z3, z4, z5⟩ := HCL.out W hSW; refine OpGives.val (v := .int .i64 x.f0) (w' := W) ?_ ⟨Below.refl _ _, rfl, hSW⟩; go_simp
        case s6 =>
          intro g W L hL hSW hd
          try simp only [Nat.zero_add, Nat.reduceAdd] at hd ⊢
          have h5 : g 5 = _ := hd 5 (by decide) (by kernel_rfl)
          with_reducible refine OpGives.pre_reads [(38, 5)] 53 ?_ ?_ ?_
          · rfl
          · kernel_rfl
          simp only [List.map_cons, List.map_nil]
          rw [h5]; refine OpGives.call (f := 39) (args := #[.int .i64 x.f0]) (w' := W) (by go_simp) ((num7_R x.f0 W).mono fun e W' ⟨he, hb⟩ => ⟨_, he, hb, num_F _ _ _, hSW.trans (hb.mono hSW.size)⟩)
        case s7 =>
          intro g W L hL hSW hd
          try simp only [Nat.zero_add, Nat.reduceAdd] at hd ⊢
          with_reducible refine OpGives.pre_reads [] 53 ?_ ?_ ?_
          · rfl
          · kernel_rfl
          simp only [List.map_cons, List.map_nil]
          refine OpGives.val (w' := W) ?_ ⟨Below.refl _ _, rfl, hSW⟩
          go_simp
          try with_reducible rfl
        case s8 =>
          intro g W L hL hSW hd
          try simp only [Nat.zero_add, Nat.reduceAdd] at hd ⊢
          with_reducible refine OpGives.pre_reads [] 53 ?_ ?_ ?_
          · rfl
          · kernel_rfl
          simp only [List.map_cons, List.map_nil]
          refine OpGives.val (w' := W) ?_ ⟨Below.refl _ _, rfl, hSW⟩
          go_simp
          try with_reducible rfl
        case s9 =>
          intro g W L hL hSW hd
          try simp only [Nat.zero_add, Nat.reduceAdd] at hd ⊢
          have h7 : g 7 = _ := hd 7 (by decide) (by kernel_rfl)
          have h8 : g 8 = _ := hd 8 (by decide) (by kernel_rfl)
          with_reducible refine OpGives.pre_reads [(40, 7), (41, 8)] 53 ?_ ?_ ?_
          · rfl
          · kernel_rfl
          simp only [List.map_cons, List.map_nil]
          refine OpGives.val (v := .pointer (some (ad.add (i * 5)))) (w' := W) ?_ ⟨Below.refl _ _, rfl, hSW⟩; rw [h7, h8]; go_simp
        case s10 =>
          intro g W L hL hSW hd
          try simp only [Nat.zero_add, Nat.reduceAdd] at hd ⊢
          have h9 : g 9 = _ := hd 9 (by decide) (by kernel_rfl)
          with_reducible refine OpGives.pre_reads [(42, 9)] 53 ?_ ?_ ?_
          · rfl
          · kernel_rfl
          simp only [List.map_cons, List.map_nil]
          rw [h9]; refine OpGives.val (v := .pointer (some ⟨(ad.add (i * 5)).block, (ad.add (i * 5)).off + 1, none⟩)) (w' := W) ?_ ⟨Below.refl _ _, rfl, hSW⟩; go_simp
        case s11 =>
          intro g W L hL hSW hd
          try simp only [Nat.zero_add, Nat.reduceAdd] at hd ⊢
          have h10 : g 10 = _ := hd 10 (by decide) (by kernel_rfl)
          with_reducible refine OpGives.pre_reads [(43, 10)] 53 ?_ ?_ ?_
          · rfl
          · kernel_rfl
          simp only [List.map_cons, List.map_nil]
          rw [h10]; obtain ⟨z0, z1, z2, z3, z4, z5⟩ := HCL.out W hSW; refine OpGives.val (v := .int .i64 x.f1) (w' := W) ?_ ⟨Below.refl _ _, rfl, hSW⟩; go_simp
        case s12 =>
          intro g W L hL hSW hd
          try simp only [Nat.zero_add, Nat.reduceAdd] at hd ⊢
          have h11 : g 11 = _ := hd 11 (by decide) (by kernel_rfl)
          with_reducible refine OpGives.pre_reads [(44, 11)] 53 ?_ ?_ ?_
          · rfl
          · kernel_rfl
          simp only [List.map_cons, List.map_nil]
          rw [h11]; refine OpGives.call (f := 39) (args := #[.int .i64 x.f1]) (w' := W) (by go_simp) ((num7_R x.f1 W).mono fun e W' ⟨he, hb⟩ => ⟨_, he, hb, num_F _ _ _, hSW.trans (hb.mono hSW.size)⟩)
        case s13 =>
          intro g W L hL hSW hd
          try simp only [Nat.zero_add, Nat.reduceAdd] at hd ⊢
          with_reducible refine OpGives.pre_reads [] 53 ?_ ?_ ?_
          · rfl
          · kernel_rfl
          simp only [List.map_cons, List.map_nil]
          obtain ⟨z0, z1, z2, z3, z4, z5⟩ := HCL.out W hSW; refine OpGives.val (v := valV x.f2) (w' := W) ?_ ⟨Below.refl _ _, val_F _ _ _, hSW⟩; unfold valV; go_simp
        case s14 =>
          intro g W L hL hSW hd
          try simp only [Nat.zero_add, Nat.reduceAdd] at hd ⊢
          have h6 := hd 6 (by decide) (by kernel_rfl)
          change (cellF W5.heap.size (numC x.f0)) (g 6) W at h6
          have h12 := hd 12 (by decide) (by kernel_rfl)
          change (cellF W5.heap.size (numC x.f1)) (g 12) W at h12
          have h13 := hd 13 (by decide) (by kernel_rfl)
          change (cellF W5.heap.size (valC x.f2)) (g 13) W at h13
          with_reducible refine OpGives.pre_reads [(39, 6), (45, 12), (46, 13)] 53 ?_ ?_ ?_
          · rfl
          · kernel_rfl
          simp only [List.map_cons, List.map_nil]
          refine OpGives.val (v := .slice (some ⟨W.heap.size, 0, none⟩) 3 3) (w' := W.alloc (.cells ([g 6, g 12, g 13].flatMap fun v => v.cells.toList).toArray 38)) (exec_buildSlice 36 3 _ rfl (lit_run3 h6 h12 h13 _ (by simp [rdl_cons]))) ⟨(Below.refl _ _).alloc (Nat.le_refl _) _, rowF_of (repsM_3 h6 h12 h13) hSW.size (by simp), hSW.alloc hSW.size _⟩
        case s15 =>
          intro g W L hL hSW hd
          try simp only [Nat.zero_add, Nat.reduceAdd] at hd ⊢
          have h14 := hd 14 (by decide) (by kernel_rfl)
          change (rowF W5.heap.size [numC x.f0, numC x.f1, valC x.f2]) (g 14) W at h14
          with_reducible refine OpGives.pre_reads [(47, 14)] 53 ?_ ?_ ?_
          · rfl
          · kernel_rfl
          simp only [List.map_cons, List.map_nil]
          refine OpGives.call (f := 38) (args := #[g 14]) (w' := W) (by go_simp) ((list7_R h14).mono fun e W' ⟨u, he, hf, hb⟩ => ⟨u, he, hb, hf, hSW.trans (hb.mono hSW.size)⟩)
        case s16 =>
          intro g W L hL hSW hd
          try simp only [Nat.zero_add, Nat.reduceAdd] at hd ⊢
          have h15 := hd 15 (by decide) (by kernel_rfl)
          change (cellF W5.heap.size (rowC x)) (g 15) W at h15
          with_reducible refine OpGives.pre_reads [(48, 15)] 53 ?_ ?_ ?_
          · rfl
          · kernel_rfl
          simp only [List.map_cons, List.map_nil]
          refine OpGives.val (v := .slice (some ⟨W.heap.size, 0, none⟩) 1 1) (w' := W.alloc (.cells ([g 15].flatMap fun v => v.cells.toList).toArray 38)) (exec_buildSlice 36 1 _ rfl (lit_run1 h15 _ (by simp [rdl_cons]))) ⟨(Below.refl _ _).alloc (Nat.le_refl _) _, litC_of (repsM_1 h15) hSW.size, hSW.alloc hSW.size _⟩
        case hst =>
          refine fun i j v w w' _ h hR => st_of (R := fun W W' => Below W.heap.size W W') ?_ i v w w' h hR
          repeat' first
            | exact trivial
            | with_reducible refine StL.eq ?_
            | refine ⟨fun v w w' h hR => cellF_below h hR, ?_⟩
            | refine ⟨fun v w w' h hR => rowF_below h hR, ?_⟩
            | refine ⟨fun v w w' h hR => litC_below h hR, ?_⟩
        case h0 => exact (Below.refl _ _).drew
        case fin =>
          intro v' W L hL hSW hf
          have h16 := hf 16 (Nat.lt_of_lt_of_eq (by decide : 16 < 17) rfl)
          have h0 : v' 0 = _ := hf 0 (Nat.lt_of_lt_of_eq (by decide : 0 < 17) rfl)
          change litC W5.heap.size [rowC x] (v' 16) W at h16
          clear hf
          generalize hF : Ord.pre _ _ v' _ = F
          rw [Ord.pre_lit [some 33, some 34, some 35, some 36, some 37, some 38, some 39, some 40, some 41, some 42, some 43, some 44, some 45, some 46, some 47, some 48, some 49]
            (by kernel_rfl)] at hF
          simp only [Ord.puts, Nat.zero_add, Nat.reduceAdd] at hF
          subst hF
          rw [h0]
          have hb7W := HB5.out.trans (hSW.mono HB5.out.size)
          have hrW := Kd.R_below HROW.out (⟨hb7W.os, hb7W.tape, hb7W.output, hb7W.size, hb7W.block⟩)
          obtain ⟨v8, W8, hr8, hg8, hR8⟩ := append_litB (b0 := W1.heap.size) (lo := W5.heap.size) hrW (fun k hk => Nat.lt_of_lt_of_le (HOWN.out k hk) HB5.out.size) (Nat.le_trans HBE.out.size HB5.out.size) h16 HLEN.out 36
          have hB8 := grown_below hrW hg8 (HBE.out.trans (hb7W.mono HBE.out.size)) (Nat.le_trans HBE.out.size hb7W.size)
          have hR8' : rC W8 W1.heap.size v8 ((l.take (i + 1)).map rowC) := by
            rw [List.take_add_one, HX.out]; simpa using hR8
          have HR8 := Lib.hid hR8'
          have HB8 := Lib.hid hB8
          clear hg8 hR8 hR8' hB8 hrW hb7W hSW h16
          refine any_one (i := 17) (by kernel_rfl) ?_
          refine wpOp_value (v := v8) (w' := W8) rfl rfl ?_ ?_
          · refine exec_append (.tmp 33) (.tmp 49) 36 rfl ?_
            have key : ∀ a b ty, a = u3 → b = v' 16 → ty = 36 → (Builtin.append_ #[36, 36] ty #[a, b]).run Tryz.prog W = .ok v8 W8 := by rintro _ _ _ rfl rfl rfl; exact hr8
            refine key _ _ _ ?_ ?_ rfl
            · go_simp
            · go_simp
          refine any_one (i := 18) (by kernel_rfl) ?_
          refine wpOp_value (v := v8) (w' := W8) rfl rfl (by go_simp) ?_
          refine wpAny_done (by kernel_rfl) ?_ _
          try simp only [List.getElem_toArray, List.getElem_cons_succ, List.getElem_cons_zero]
          go_frame
          clear hr8
          have hwi : IntKind.i64.wrap ((i : Int) + 1) = (i : Int) + 1 := by rw [IntKind.wrap_i64]; omega
          go_wp2_with fail
          go_roundw
          case rel => exact ⟨i + 1, by go_num, hil, HR8.out, HB8.out⟩
          case measure => simp [intOf]; omega
    · have hie : i = l.length := by omega
      have hrow := HROW.out
      rw [hie, List.take_length] at hrow
      have HL := Lib.hid (list7_R hrow)
      clear hrow hie
      go_wp2_with fail
      refine HL.out.mono ?_
      rintro e W2' ⟨u, rfl, ⟨v3, rfl, hR3⟩, hb3⟩
      obtain ⟨A3, c3, rfl⟩ := R_slice hR3
      have hb1' : Below W1.heap.size W1 W2' := HBE.out.trans (hb3.mono HBE.out.size)
      have hgb := (hb1'.block w.heap.size (by have := HS1.out; omega)).trans HG1.out
      have hbw : Below w.heap.size w W2' := HN1.out.trans (hb1'.mono HN1.out.size)
      have z0 : W2'.cell? ⟨w.heap.size, 0, none⟩ = some (.int .i64 0) := by rw [Lib.cell_of_heap hgb]; rfl
      have z1 : W2'.cell? ⟨w.heap.size, 1, none⟩ = some (.int .i64 0) := by rw [Lib.cell_of_heap hgb]; rfl
      have z2 : W2'.cell? ⟨w.heap.size, 2, none⟩ = some (.string (⟨#[]⟩ : ByteArray)) := by rw [Lib.cell_of_heap hgb]; rfl
      have z3 : W2'.cell? ⟨w.heap.size, 3, none⟩ = some (.slice none 0 0) := by rw [Lib.cell_of_heap hgb]; rfl
      have f0 := Lib.frozen_of_heap hgb 0
      have f1 := Lib.frozen_of_heap hgb 1
      have f2 := Lib.frozen_of_heap hgb 2
      have f3 := Lib.frozen_of_heap hgb 3
      have HGB := Lib.hid hgb
      have HBW := Lib.hid hbw
      have HR3 := Lib.hid hR3
      clear hb1' hgb hbw hR3 hb3
      go_wp2_with fail
      refine bodyPost_ret (results_cell_row rfl _ _ w.heap.size 38 #[.int .i64 3, .int .i64 0, .string (⟨#[]⟩ : ByteArray), .slice A3 (listC (l.map rowC)).f3.length c3] (0, 0) _ rfl (four_put HGB.out _ _ _ _) Tryz.underlying38 rfl (by kernel_rfl)) rfl ?_
      exact ⟨_, rfl, ⟨_, rfl, rC_put HR3.out (by have := HS1.out; omega) (by have := HS1.out; omega) _ _ _ _⟩, put4_below HBW.out _ _ _ _⟩
end Go.Proofs.YtgjlchcfdbmmlaaGreatDoor.PObjectPuts
namespace Go.Proofs.YtgjlchcfdbmmlaaGreatDoor.PObjectPuts
open Go.RowKit Go.Proofs.YtgjlchcfdbmmlaaGreatDoor.Ord Go.Proofs.YtgjlchcfdbmmlaaGreatDoor.Obj Go.Proofs.YtgjlchcfdbmmlaaGreatDoorW.PrintWords Go.Proofs.YtgjlchcfdbmmlaaGreatDoorW.PrintLast Go.Proofs.YtgjlchcfdbmmlaaGreatDoorW.PrintMore

theorem okS_num (d : Nat) (n : Int) : okS (d + 1) (numC n) = true := by unfold numC; rw [okS, if_pos rfl]; rfl
theorem okS_text (d : Nat) {s : ByteArray} (h : s.size ≤ 65535) : okS (d + 1) (textC s) = true := by
  unfold textC; rw [okS, if_neg (by decide), if_pos rfl]; simp [h]
theorem okS_list (d : Nat) {l : List S38} (h : l.length ≤ 4095) (hl : ∀ y ∈ l, okS d y = true) : okS (d + 1) (listC l) = true := by
  unfold listC; rw [okS, if_neg (by decide), if_neg (by decide), if_pos rfl]
  simp only [decide_true, Bool.true_and, Bool.and_eq_true, decide_eq_true_eq]
  exact ⟨rfl, h, List.all_eq_true.2 hl⟩
theorem wfS_num {n : Int} (h0 : -9223372036854775808 ≤ n) (h1 : n ≤ 9223372036854775807) : wfS (numC n) := by unfold numC; rw [wfS, wfL]; exact ⟨h0, h1, by decide, by decide, trivial⟩
theorem wfS_text {s : ByteArray} (h : s.size ≤ 65535) : wfS (textC s) := by unfold textC; rw [wfS, wfL]; exact ⟨by decide, by decide, by omega, by decide, trivial⟩
theorem wfS_list {l : List S38} (h : l.length ≤ 4095) (hl : ∀ y ∈ l, wfS y) : wfS (listC l) := by unfold listC; rw [wfS]; exact ⟨by decide, by decide, by decide, by omega, wfL_of hl⟩
theorem parts_num (n : Int) : parts (numC n) = 1 := by unfold numC; rw [parts, partsL]; rfl
theorem parts_text {s : ByteArray} (h : s.size < 100) : parts (textC s) = 1 := by unfold textC; rw [parts, partsL]; omega
theorem parts_list (l : List S38) : parts (listC l) = 1 + partsL l := by unfold listC; rw [parts]; rfl
theorem partsL_le {n : Nat} : ∀ {l : List S38}, (∀ y ∈ l, parts y ≤ n) → partsL l ≤ l.length * n
  | [], _ => by rw [partsL]; omega
  | x :: xs, h => by
    rw [partsL, List.length_cons, Nat.add_mul, Nat.one_mul]
    have := partsL_le (fun y hy => h y (List.mem_cons_of_mem _ hy))
    have := h x List.mem_cons_self
    omega
/-- A cell that is right, in range, and of so many parts. -/
structure Fine (d n : Nat) (x : S38) : Prop where
  ok : okS d x = true
  wf : wfS x
  pt : parts x ≤ n
theorem fine_num (d : Nat) {n : Int} (h0 : -9223372036854775808 ≤ n) (h1 : n ≤ 9223372036854775807) : Fine (d + 1) 1 (numC n) := ⟨okS_num d n, wfS_num h0 h1, by rw [parts_num]; exact Nat.le_refl _⟩
theorem fine_text (d : Nat) {s : ByteArray} (h : s.size < 100) : Fine (d + 1) 1 (textC s) := ⟨okS_text d (by omega), wfS_text (by omega), by rw [parts_text h]; exact Nat.le_refl _⟩
theorem fine_list (d : Nat) {n : Nat} {l : List S38} (h : l.length ≤ 4095) (hl : ∀ y ∈ l, Fine d n y) : Fine (d + 1) (1 + l.length * n) (listC l) :=
  ⟨okS_list d h (fun y hy => (hl y hy).ok), wfS_list h (fun y hy => (hl y hy).wf), by rw [parts_list]; have := partsL_le (fun y hy => (hl y hy).pt); omega⟩
theorem Fine.mono {d n m : Nat} {x : S38} (h : Fine d n x) (hm : n ≤ m) : Fine d m x := ⟨h.ok, h.wf, Nat.le_trans h.pt hm⟩
/-- Numbers within their kinds. -/
structure wfOb (o : Ob) : Prop where
  stamp : -9223372036854775808 ≤ o.stamp ∧ o.stamp ≤ 9223372036854775807
  rows : ∀ x ∈ o.rows, (-9223372036854775808 ≤ x.f0 ∧ x.f0 ≤ 9223372036854775807) ∧ (-9223372036854775808 ≤ x.f1 ∧ x.f1 ≤ 9223372036854775807) ∧ -9223372036854775808 ≤ x.f2.f1 ∧ x.f2.f1 ≤ 9223372036854775807
  kids : ∀ x ∈ o.kids, 0 ≤ x.f0 ∧ x.f0 ≤ 255
theorem okV_size {v : S48} (h : okV v = true) : v.f2.size ≤ 40 ∧ (v.f0 = 1 ∨ v.f0 = 2) ∧ (v.f0 = 1 → v.f2.size = 0) ∧ (v.f0 = 2 → v.f1 = 0) := by
  unfold okV at h
  split at h
  · rename_i h1
    have h2 : v.f2.size = 0 := of_decide_eq_true h
    exact ⟨by omega, .inl h1, fun _ => h2, fun h3 => by omega⟩
  · split at h
    · rename_i h1 h2
      simp only [Bool.and_eq_true, decide_eq_true_eq] at h
      exact ⟨h.2.1, .inr h2, fun h3 => by omega, fun _ => h.1⟩
    · cases h
theorem rowsFrom_mem : ∀ {l : List S50} {p : Option S50}, rowsFrom p l = true → ∀ x ∈ l, isS x.f0 x.f1 = true ∧ okV x.f2 = true
  | [], _, _, x, hx => by cases hx
  | y :: ys, p, h, x, hx => by
    rw [rowsFrom] at h
    simp only [Bool.and_eq_true] at h
    rcases List.mem_cons.1 hx with rfl | hx
    · exact ⟨h.1.1, h.1.2⟩
    · exact rowsFrom_mem h.2.2 x hx
theorem isS_parts {a b : Int} (h : isS a b = true) : 0 ≤ a ∧ a < b ∧ b ≤ 1099511627776 := by
  unfold isS at h
  simpa [Bool.and_eq_true, decide_eq_true_eq, and_assoc] using h
theorem okRows_parts {l : List S50} (h : okRows l = true) : l.length ≤ 64 ∧ ∀ x ∈ l, isS x.f0 x.f1 = true ∧ okV x.f2 = true := by
  unfold okRows at h
  simp only [Bool.and_eq_true, decide_eq_true_eq] at h
  exact ⟨h.1, rowsFrom_mem h.2⟩
theorem fine_val (d : Nat) {v : S48} (h : okV v = true) (h0 : -9223372036854775808 ≤ v.f1) (h1 : v.f1 ≤ 9223372036854775807) : Fine (d + 1) 1 (valC v) := by
  obtain ⟨hs, _⟩ := okV_size h
  unfold valC
  split
  · exact fine_text d (by omega)
  · exact fine_num d h0 h1
theorem fine_row (d : Nat) {x : S50} (h : isS x.f0 x.f1 = true ∧ okV x.f2 = true) (hw : -9223372036854775808 ≤ x.f2.f1 ∧ x.f2.f1 ≤ 9223372036854775807) : Fine (d + 2) 4 (rowC x) := by
  obtain ⟨a, b, c⟩ := isS_parts h.1
  refine (fine_list (n := 1) (d + 1) (by simp) (fun y hy => ?_)).mono (by simp)
  simp only [List.mem_cons, List.not_mem_nil, or_false] at hy
  rcases hy with rfl | rfl | rfl
  · exact fine_num d (by omega) (by omega)
  · exact fine_num d (by omega) (by omega)
  · exact fine_val d h.2 hw.1 hw.2
theorem fine_rows (d : Nat) {l : List S50} (h : okRows l = true) (hw : ∀ x ∈ l, -9223372036854775808 ≤ x.f2.f1 ∧ x.f2.f1 ≤ 9223372036854775807) : Fine (d + 3) 257 (rowsC l) := by
  obtain ⟨hl, hx⟩ := okRows_parts h
  refine (fine_list (n := 4) (d + 2) (by rw [List.length_map]; omega) (fun y hy => ?_)).mono (by rw [List.length_map]; omega)
  obtain ⟨x, hm, rfl⟩ := List.mem_map.1 hy
  exact fine_row d (hx x hm) (hw x hm)
theorem kids_some : ∀ {l : List S52} {q : S52}, kidsFrom (some q) l = true → (∀ x ∈ l, x.f0 ≤ 255) → 0 ≤ q.f0 → q.f0 ≤ 255 → (l.length : Int) + q.f0 ≤ 255
  | [], q, _, _, h0, h1 => by simp only [List.length_nil]; omega
  | y :: ys, q, h, hb, h0, h1 => by
    rw [kidsFrom] at h
    simp only [Bool.and_eq_true] at h
    have hq : q.f0 < y.f0 := of_decide_eq_true h.2.1
    have := kids_some h.2.2 (fun x hx => hb x (List.mem_cons_of_mem _ hx)) (by omega) (hb y List.mem_cons_self)
    rw [List.length_cons]
    omega
theorem kids_len {l : List S52} (h : kidsFrom none l = true) (hb : ∀ x ∈ l, 0 ≤ x.f0 ∧ x.f0 ≤ 255) : l.length ≤ 256 := by
  cases l with
  | nil => simp
  | cons y ys =>
    rw [kidsFrom] at h
    simp only [Bool.and_eq_true] at h
    have h0 := hb y List.mem_cons_self
    have := kids_some h.2.2 (fun x hx => (hb x (List.mem_cons_of_mem _ hx)).2) h0.1 h0.2
    rw [List.length_cons]
    omega
theorem kids_mem : ∀ {l : List S52} {p : Option S52}, kidsFrom p l = true → ∀ x ∈ l, x.f1.size = 32
  | [], _, _, x, hx => by cases hx
  | y :: ys, p, h, x, hx => by
    rw [kidsFrom] at h
    simp only [Bool.and_eq_true, decide_eq_true_eq] at h
    rcases List.mem_cons.1 hx with rfl | hx
    · exact h.1
    · exact kids_mem h.2.2 x hx
structure NodeP (o : Ob) : Prop where
  par : o.parents = []
  stamp : o.stamp = 0
  note : o.note = ⟨#[]⟩
  root : o.root = ⟨#[]⟩
  label : o.label.size ≤ 24
  rows : okRows o.rows = true
  kids : kidsFrom none o.kids = true
theorem okNode_parts {o : Ob} (h : okNode o = true) : NodeP o := by
  unfold okNode at h
  simp only [Bool.and_eq_true, decide_eq_true_eq] at h
  obtain ⟨h1, h2, h3, h4, h5, h6, h7⟩ := h
  exact ⟨List.eq_nil_of_length_eq_zero h1, h2, empty_str h3, empty_str h4, h5, h6, h7⟩
structure CommitP (o : Ob) : Prop where
  rows : o.rows = []
  kids : o.kids = []
  label : o.label = ⟨#[]⟩
  stamp : 0 ≤ o.stamp ∧ o.stamp ≤ 1099511627776
  note : o.note.size ≤ 40
  root : o.root.size = 32
  len : o.parents.length ≤ 2
  wide : ∀ x ∈ o.parents, x.size = 32
theorem okCommit_parts {o : Ob} (h : okCommit o = true) : CommitP o := by
  unfold okCommit at h
  simp only [Bool.and_eq_true, decide_eq_true_eq, Bool.not_eq_true'] at h
  obtain ⟨h1, h2, h3, h4, h5, h6, h7, h8, h9, _⟩ := h
  refine ⟨List.eq_nil_of_length_eq_zero h1, List.eq_nil_of_length_eq_zero h2, empty_str h3, ⟨h4, h5⟩, h6, h7, h8, fun x hx => ?_⟩
  rw [List.any_eq_false] at h9
  have := h9 x hx
  unfold wideB at this
  simpa using this
def cellOf (o : Ob) : S38 := if o.kind = 1 then nodeC o else commitC o
theorem fine_node {o : Ob} (h : okNode o = true) (hw : wfOb o) : Fine 16 5000 (nodeC o) := by
  have p := okNode_parts h
  have hk := kids_len p.kids hw.kids
  have h1 : Fine 15 1 (numC 1) := fine_num 14 (by decide) (by decide)
  have h2 : Fine 15 1 (textC o.label) := fine_text 14 (by have := p.label; omega)
  have h3 : Fine 15 257 (rowsC o.rows) := fine_rows 12 p.rows (fun x hx => (hw.rows x hx).2.2)
  have h4 : Fine 15 769 (listC (o.kids.map kidC)) := by
    refine (fine_list (n := 3) 14 (by rw [List.length_map]; omega) (fun y hy => ?_)).mono (by rw [List.length_map]; omega)
    obtain ⟨x, hm, rfl⟩ := List.mem_map.1 hy
    have hx := hw.kids x hm
    have hs := kids_mem p.kids x hm
    refine (fine_list (n := 1) 13 (by simp) (fun z hz => ?_)).mono (by simp)
    simp only [List.mem_cons, List.not_mem_nil, or_false] at hz
    rcases hz with rfl | rfl
    · exact fine_num 12 (by omega) (by omega)
    · exact fine_text 12 (by omega)
  refine (fine_list (n := 769) 15 (by simp) (fun y hy => ?_)).mono (by simp)
  simp only [List.mem_cons, List.not_mem_nil, or_false] at hy
  rcases hy with rfl | rfl | rfl | rfl
  · exact h1.mono (by omega)
  · exact h2.mono (by omega)
  · exact h3.mono (by omega)
  · exact h4
theorem fine_commit {o : Ob} (h : okCommit o = true) : Fine 16 5000 (commitC o) := by
  have p := okCommit_parts h
  refine (fine_list (n := 3) 15 (by simp) (fun y hy => ?_)).mono (by simp)
  simp only [List.mem_cons, List.not_mem_nil, or_false] at hy
  rcases hy with rfl | rfl | rfl | rfl | rfl
  · exact (fine_num 14 (by decide) (by decide)).mono (by omega)
  · refine (fine_list (n := 1) 14 (by rw [List.length_map]; have := p.len; omega) (fun z hz => ?_)).mono (by rw [List.length_map]; have := p.len; omega)
    obtain ⟨x, hm, rfl⟩ := List.mem_map.1 hz
    exact fine_text 13 (by have := p.wide x hm; omega)
  · exact (fine_num 14 (by have := p.stamp; omega) (by have := p.stamp; omega)).mono (by omega)
  · exact (fine_text 14 (by have := p.note; omega)).mono (by omega)
  · exact (fine_text 14 (by have := p.root; omega)).mono (by omega)
theorem fine_ob {o : Ob} (h : okOb o = true) (hw : wfOb o) : Fine 16 5000 (cellOf o) := by
  unfold okOb at h
  unfold cellOf
  split at h
  · rename_i h1; rw [if_pos h1]; exact fine_node h hw
  · rename_i h1
    rw [if_neg h1]
    split at h
    · exact fine_commit h
    · cases h
theorem Fine.enc {x : S38} (h : Fine 16 5000 x) : (encS x).length ≤ 600000 := by
  have := enc_le x h.wf
  have := h.pt
  omega
theorem Fine.check {x : S38} (h : Fine 16 5000 x) : checkR x = 0 := by
  unfold checkR
  rw [h.ok]; rfl
end Go.Proofs.YtgjlchcfdbmmlaaGreatDoor.PObjectPuts
namespace Go.Proofs.YtgjlchcfdbmmlaaGreatDoor.PObjectPuts
open Go.RowKit Go.Proofs.YtgjlchcfdbmmlaaGreatDoor.Ord Go.Proofs.YtgjlchcfdbmmlaaGreatDoor.Obj Go.Proofs.YtgjlchcfdbmmlaaGreatDoorW.PrintWords Go.Proofs.YtgjlchcfdbmmlaaGreatDoorW.PrintLast Go.Proofs.YtgjlchcfdbmmlaaGreatDoorW.PrintMore
attribute [local irreducible] OpGives
attribute [local go_sem] rdl_const rdl_func rdl_global rdl_nil rdl_cons

set_option maxHeartbeats 16000000 in
set_option maxRecDepth 100000 in
theorem shape_node (o : Ob) (Ar : Option Addr) (cr : Nat) (Ak : Option Addr) (ck : Nat) (Ap : Option Addr) (cp : Nat) (w : World) (hO : ObAt w o Ar cr Ak ck Ap cp) (hrl : o.rows.length ≤ 1000000) (hkl : o.kids.length ≤ 1000000) (hk8 : ∀ x ∈ o.kids, 0 ≤ x.f0 ∧ x.f0 ≤ 255) (hk1 : o.kind = 1) :
    Calls Tryz.prog 21 #[.agg (obV o Ar cr Ak ck Ap cp)] w (CellPostR w.heap.size (nodeC o) w) := by
  obtain ⟨knd, lab, rws, kds, prs, stp, nte, rot⟩ := o
  unfold obV nodeC
  simp only at hO hrl hkl hk8 hk1 ⊢
  subst hk1
  have hOk := hO.k
  have hOr := hO.r
  have hOlr := hO.lr
  simp only at hOk hOr hOlr
  obtain ⟨W1, hW1⟩ : ∃ W1, W1 = w.alloc (.cells #[.int .i64 1, .string lab, .slice Ar rws.length cr, .slice Ak kds.length ck, .slice Ap prs.length cp, .int .i64 stp, .string nte, .string rot] 27) := ⟨_, rfl⟩
  have hn1 : Below w.heap.size w W1 := by rw [hW1]; exact (Below.refl _ _).alloc (Nat.le_refl _) _
  have hg1 : W1.heap[w.heap.size]? = some (.cells #[.int .i64 1, .string lab, .slice Ar rws.length cr, .slice Ak kds.length ck, .slice Ap prs.length cp, .int .i64 stp, .string nte, .string rot] 27 (0, 0)) := by rw [hW1]; exact alloc_lastV _ _
  have hs1 : W1.heap.size = w.heap.size + 1 := by rw [hW1]; simp
  obtain ⟨W2, hW2⟩ : ∃ W2, W2 = W1.alloc (.cells #[.int .i64 0, .int .i64 0, .string (⟨#[]⟩ : ByteArray), .slice none 0 0] 38) := ⟨_, rfl⟩
  have hn2 : Below W1.heap.size W1 W2 := by rw [hW2]; exact (Below.refl _ _).alloc (Nat.le_refl _) _
  have hg2 : W2.heap[w.heap.size + 1]? = some (.cells #[.int .i64 0, .int .i64 0, .string (⟨#[]⟩ : ByteArray), .slice none 0 0] 38 (0, 0)) := by rw [hW2, ← hs1]; exact alloc_lastV _ _
  have hs2 : W2.heap.size = w.heap.size + 2 := by rw [hW2]; simp [hs1]
  have hgn := (hn2.block _ (Array.getElem?_eq_some_iff.1 hg1).1).trans hg1
  have hb2 : Below w.heap.size w W2 := hn1.trans (hn2.mono hn1.size)
  obtain ⟨⟨b0, b1, b2, b3⟩, b4, b5, b6, b7⟩ := box8 hgn
  have HK := Lib.hid (Kd.C_below hOk hb2)
  have HR := Lib.hid (Kd.C_below hOr hb2)
  have HGN := Lib.hid hgn
  have HG2 := Lib.hid hg2
  have HB2 := Lib.hid hb2
  have HS2 := Lib.hid hs2
  have HK8 := Lib.hid hk8
  rw [hW2, hW1] at b0 b1 b2 b3 b4 b5 b6 b7
  rw [hW1] at hW2
  have HW2 := Lib.hid hW2
  clear hW1 hW2 hn1 hg1 hs1 hn2 hg2 hs2 hgn hb2 hO hOk hOr hk8
  go_enter Tryz.func21, Tryz.ntmps21
  go_wp2_with fail
  rw [← HW2.out]
  clear b0 b1 b2 b3 b4 b5 b6 b7
  go_loopw [3, 4] (fun v i wr => ∃ k : Nat, i = .int .i64 (k : Int) ∧ k ≤ kds.length ∧ rC wr W2.heap.size v ((kds.take k).map kidC) ∧ Below W2.heap.size W2 wr) (fun _ i _ => kds.length - (intOf i).toNat)
  case atStart => exact ⟨0, rfl, Nat.zero_le _, Kd.R_nil _ _ _ _ _, Below.refl _ _⟩
  case round =>
    obtain ⟨i, rfl, hi, hrow, hbe⟩ := hrel
    have HROW := Lib.hid hrow
    have HBE := Lib.hid hbe
    have b3 := (box8 ((hbe.block _ (Array.getElem?_eq_some_iff.1 HGN.out).1).trans HGN.out)).1.2.2.2
    by_cases hil : i < kds.length
    · obtain ⟨x, hx⟩ : ∃ x, kds[i]? = some x := ⟨_, List.getElem?_eq_getElem hil⟩
      obtain ⟨ad, rfl, c0, c1, hbk⟩ := kid_at (Kd.C_below HK.out hbe) hx
      have hx8 := HK8.out x (List.mem_of_getElem? hx)
      have HX := Lib.hid hx
      have hlen : ((kds.take i).map kidC).length ≤ 1000000 := by rw [List.length_map, List.length_take]; omega
      have HLEN := Lib.hid hlen
      have hwx : IntKind.i64.wrap x.f0 = x.f0 := by rw [IntKind.wrap_i64]; omega
      clear hx hlen hrow hbe hx8
      have hbx : ∀ W, Below wr.heap.size wr W → W.cell? ⟨w.heap.size, 3, none⟩ = some (.slice (some ad) kds.length ck) := fun W hW => by
        have h2 : Below W2.heap.size W2 W := HBE.out.trans (hW.mono HBE.out.size)
        exact (box8 ((h2.block _ (Array.getElem?_eq_some_iff.1 HGN.out).1).trans HGN.out)).1.2.2.2
      have hcl : ∀ W, Below wr.heap.size wr W → W.cell? (ad.add (i * 2)) = some (.int .u8 x.f0) ∧ W.cell? ⟨(ad.add (i * 2)).block, (ad.add (i * 2)).off + 1, none⟩ = some (.string x.f1) := fun W hW => by
        obtain ⟨ad', e', q0, q1, _⟩ := kid_at (Kd.C_below HK.out (HBE.out.trans (hW.mono HBE.out.size))) HX.out
        cases e'
        exact ⟨q0, q1⟩
      have HCL := Lib.hid hcl
      have HBX := Lib.hid hbx
      have HB7 := Lib.hid (Below.refl wr.heap.size wr)
      have hi0 : (0 : Int) ≤ (i : Int) := by omega
      have hi1 : (i : Int) < (kds.length : Int) := by omega
      clear hcl hbx c0 c1 hbk
      go_wp2_with fail
      clear b3
      refine' wp_region_factsM (S := (fun _ W => Below wr.heap.size wr W)) (fun _ W W' => Below W.heap.size W W') [eqM _, eqM _, eqM (.slice (some ad) kds.length ck), eqM _, eqM (.pointer (some (ad.add (i * 2)))), eqM (.pointer (some (ad.add (i * 2)))), eqM (.int .u8 x.f0), eqM (.int .i64 x.f0), cellF wr.heap.size (numC x.f0), eqM _, eqM (.slice (some ad) kds.length ck), eqM _, eqM (.pointer (some (ad.add (i * 2)))), eqM (.pointer (some ⟨(ad.add (i * 2)).block, (ad.add (i * 2)).off + 1, none⟩)), eqM (.string x.f1), cellF wr.heap.size (textC x.f1), rowF wr.heap.size [numC x.f0, textC x.f1], cellF wr.heap.size (kidC x), litC wr.heap.size [kidC x]] (by kernel_rfl) (by kernel_rfl) ?hst ?h0 (Ord.stepsM_cons ?s0 (Ord.stepsM_cons ?s1 (Ord.stepsM_cons ?s2 (Ord.stepsM_cons ?s3 (Ord.stepsM_cons ?s4 (Ord.stepsM_cons ?s5 (Ord.stepsM_cons ?s6 (Ord.stepsM_cons ?s7 (Ord.stepsM_cons ?s8 (Ord.stepsM_cons ?s9 (Ord.stepsM_cons ?s10 (Ord.stepsM_cons ?s11 (Ord.stepsM_cons ?s12 (Ord.stepsM_cons ?s13 (Ord.stepsM_cons ?s14 (Ord.stepsM_cons ?s15 (Ord.stepsM_cons ?s16 (Ord.stepsM_cons ?s17 (Ord.stepsM_cons ?s18 (Ord.stepsM_nil)))))))))))))))))))) ?fin
      case s0 =>
        intro g W L hL hSW hd
        try simp only [Nat.zero_add, Nat.reduceAdd] at hd ⊢
        with_reducible refine OpGives.pre_reads [] 78 ?_ ?_ ?_
        · rfl
        · kernel_rfl
        simp only [List.map_cons, List.map_nil]
        refine OpGives.val (w' := W) ?_ ⟨Below.refl _ _, rfl, hSW⟩
        go_simp
        try with_reducible rfl
      case s1 =>
        intro g W L hL hSW hd
        try simp only [Nat.zero_add, Nat.reduceAdd] at hd ⊢
        with_reducible refine OpGives.pre_reads [] 78 ?_ ?_ ?_
        · rfl
        · kernel_rfl
        simp only [List.map_cons, List.map_nil]
        refine OpGives.val (w' := W) ?_ ⟨Below.refl _ _, rfl, hSW⟩
        go_simp
        try with_reducible rfl
      case s2 =>
        intro g W L hL hSW hd
        try simp only [Nat.zero_add, Nat.reduceAdd] at hd ⊢
        have h1 : g 1 = _ := hd 1 (by decide) (by kernel_rfl)
        with_reducible refine OpGives.pre_reads [(18, 1)] 78 ?_ ?_ ?_
        · rfl
        · kernel_rfl
        simp only [List.map_cons, List.map_nil]
        have z3 := HBX.out W hSW; refine OpGives.val (v := .slice (some ad) kds.length ck) (w' := W) ?_ ⟨Below.refl _ _, rfl, hSW⟩; rw [h1]; go_simp
      case s3 =>
        intro g W L hL hSW hd
        try simp only [Nat.zero_add, Nat.reduceAdd] at hd ⊢
        with_reducible refine OpGives.pre_reads [] 78 ?_ ?_ ?_
        · rfl
        · kernel_rfl
        simp only [List.map_cons, List.map_nil]
        refine OpGives.val (w' := W) ?_ ⟨Below.refl _ _, rfl, hSW⟩
        go_simp
        try with_reducible rfl
      case s4 =>
        intro g W L hL hSW hd
        try simp only [Nat.zero_add, Nat.reduceAdd] at hd ⊢
        have h2 : g 2 = _ := hd 2 (by decide) (by kernel_rfl)
        have h3 : g 3 = _ := hd 3 (by decide) (by kernel_rfl)
        with_reducible refine OpGives.pre_reads [(19, 2), (20, 3)] 78 ?_ ?_ ?_
        · rfl
        · kernel_rfl
        simp only [List.map_cons, List.map_nil]
        refine OpGives.val (v := .pointer (some (ad.add (i * 2)))) (w' := W) ?_ ⟨Below.refl _ _, rfl, hSW⟩; rw [h2, h3]; go_simp
      case s5 =>
        intro g W L hL hSW hd
        try simp only [Nat.zero_add, Nat.reduceAdd] at hd ⊢
        have h4 : g 4 = _ := hd 4 (by decide) (by kernel_rfl)
        with_reducible refine OpGives.pre_reads [(21, 4)] 78 ?_ ?_ ?_
        · rfl
        · kernel_rfl
        simp only [List.map_cons, List.map_nil]
        rw [h4]; refine OpGives.val (v := .pointer (some (ad.add (i * 2)))) (w' := W) ?_ ⟨Below.refl _ _, rfl, hSW⟩; go_simp
      case s6 =>
        intro g W L hL hSW hd
        try simp only [Nat.zero_add, Nat.reduceAdd] at hd ⊢
        have h5 : g 5 = _ := hd 5 (by decide) (by kernel_rfl)
        with_reducible refine OpGives.pre_reads [(22, 5)] 78 ?_ ?_ ?_
        · rfl
        · kernel_rfl
        simp only [List.map_cons, List.map_nil]
        rw [h5]; obtain ⟨z0, z1⟩ := HCL.out W hSW; refine OpGives.val (v := .int .u8 x.f0) (w' := W) ?_ ⟨Below.refl _ _, rfl, hSW⟩; go_simp
      case s7 =>
        intro g W L hL hSW hd
        try simp only [Nat.zero_add, Nat.reduceAdd] at hd ⊢
        have h6 : g 6 = _ := hd 6 (by decide) (by kernel_rfl)
        with_reducible refine OpGives.pre_reads [(23, 6)] 78 ?_ ?_ ?_
        · rfl
        · kernel_rfl
        simp only [List.map_cons, List.map_nil]
        rw [h6]; refine OpGives.val (v := .int .i64 x.f0) (w' := W) ?_ ⟨Below.refl _ _, rfl, hSW⟩; go_simp
      case s8 =>
        intro g W L hL hSW hd
        try simp only [Nat.zero_add, Nat.reduceAdd] at hd ⊢
        have h7 : g 7 = _ := hd 7 (by decide) (by kernel_rfl)
        with_reducible refine OpGives.pre_reads [(24, 7)] 78 ?_ ?_ ?_
        · rfl
        · kernel_rfl
        simp only [List.map_cons, List.map_nil]
        rw [h7]; refine OpGives.call (f := 39) (args := #[.int .i64 x.f0]) (w' := W) (by go_simp) ((num7_R x.f0 W).mono fun e W' ⟨he, hb⟩ => ⟨_, he, hb, num_F _ _ _, hSW.trans (hb.mono hSW.size)⟩)
      case s9 =>
        intro g W L hL hSW hd
        try simp only [Nat.zero_add, Nat.reduceAdd] at hd ⊢
        with_reducible refine OpGives.pre_reads [] 78 ?_ ?_ ?_
        · rfl
        · kernel_rfl
        simp only [List.map_cons, List.map_nil]
        refine OpGives.val (w' := W) ?_ ⟨Below.refl _ _, rfl, hSW⟩
        go_simp
        try with_reducible rfl
      case s10 =>
        intro g W L hL hSW hd
        try simp only [Nat.zero_add, Nat.reduceAdd] at hd ⊢
        have h9 : g 9 = _ := hd 9 (by decide) (by kernel_rfl)
        with_reducible refine OpGives.pre_reads [(26, 9)] 78 ?_ ?_ ?_
        · rfl
        · kernel_rfl
        simp only [List.map_cons, List.map_nil]
        have z3 := HBX.out W hSW; refine OpGives.val (v := .slice (some ad) kds.length ck) (w' := W) ?_ ⟨Below.refl _ _, rfl, hSW⟩; rw [h9]; go_simp
      case s11 =>
        intro g W L hL hSW hd
        try simp only [Nat.zero_add, Nat.reduceAdd] at hd ⊢
        with_reducible refine OpGives.pre_reads [] 78 ?_ ?_ ?_
        · rfl
        · kernel_rfl
        simp only [List.map_cons, List.map_nil]
        refine OpGives.val (w' := W) ?_ ⟨Below.refl _ _, rfl, hSW⟩
        go_simp
        try with_reducible rfl
      case s12 =>
        intro g W L hL hSW hd
        try simp only [Nat.zero_add, Nat.reduceAdd] at hd ⊢
        have h10 : g 10 = _ := hd 10 (by decide) (by kernel_rfl)
        have h11 : g 11 = _ := hd 11 (by decide) (by kernel_rfl)
        with_reducible refine OpGives.pre_reads [(27, 10), (28, 11)] 78 ?_ ?_ ?_
        · rfl
        · kernel_rfl
        simp only [List.map_cons, List.map_nil]
        refine OpGives.val (v := .pointer (some (ad.add (i * 2)))) (w' := W) ?_ ⟨Below.refl _ _, rfl, hSW⟩; rw [h10, h11]; go_simp
      case s13 =>
        intro g W L hL hSW hd
        try simp only [Nat.zero_add, Nat.reduceAdd] at hd ⊢
        have h12 : g 12 = _ := hd 12 (by decide) (by kernel_rfl)
        with_reducible refine OpGives.pre_reads [(29, 12)] 78 ?_ ?_ ?_
        · rfl
        · kernel_rfl
        simp only [List.map_cons, List.map_nil]
        rw [h12]; refine OpGives.val (v := .pointer (some ⟨(ad.add (i * 2)).block, (ad.add (i * 2)).off + 1, none⟩)) (w' := W) ?_ ⟨Below.refl _ _, rfl, hSW⟩; go_simp
      case s14 =>
        intro g W L hL hSW hd
        try simp only [Nat.zero_add, Nat.reduceAdd] at hd ⊢
        have h13 : g 13 = _ := hd 13 (by decide) (by kernel_rfl)
        with_reducible refine OpGives.pre_reads [(30, 13)] 78 ?_ ?_ ?_
        · rfl
        · kernel_rfl
        simp only [List.map_cons, List.map_nil]
        rw [h13]; obtain ⟨z0, z1⟩ := HCL.out W hSW; refine OpGives.val (v := .string x.f1) (w' := W) ?_ ⟨Below.refl _ _, rfl, hSW⟩; go_simp
      case s15 =>
        intro g W L hL hSW hd
        try simp only [Nat.zero_add, Nat.reduceAdd] at hd ⊢
        have h14 : g 14 = _ := hd 14 (by decide) (by kernel_rfl)
        with_reducible refine OpGives.pre_reads [(31, 14)] 78 ?_ ?_ ?_
        · rfl
        · kernel_rfl
        simp only [List.map_cons, List.map_nil]
        rw [h14]; refine OpGives.call (f := 40) (args := #[.string x.f1]) (w' := W) (by go_simp) ((text7_R x.f1 W).mono fun e W' ⟨he, hb⟩ => ⟨_, he, hb, text_F _ _ _, hSW.trans (hb.mono hSW.size)⟩)
      case s16 =>
        intro g W L hL hSW hd
        try simp only [Nat.zero_add, Nat.reduceAdd] at hd ⊢
        have h8 := hd 8 (by decide) (by kernel_rfl)
        change (cellF wr.heap.size (numC x.f0)) (g 8) W at h8
        have h15 := hd 15 (by decide) (by kernel_rfl)
        change (cellF wr.heap.size (textC x.f1)) (g 15) W at h15
        with_reducible refine OpGives.pre_reads [(25, 8), (32, 15)] 78 ?_ ?_ ?_
        · rfl
        · kernel_rfl
        simp only [List.map_cons, List.map_nil]
        refine OpGives.val (v := .slice (some ⟨W.heap.size, 0, none⟩) 2 2) (w' := W.alloc (.cells ([g 8, g 15].flatMap fun v => v.cells.toList).toArray 38)) (exec_buildSlice 36 2 _ rfl (lit_run2 h8 h15 _ (by simp [rdl_cons]))) ⟨(Below.refl _ _).alloc (Nat.le_refl _) _, rowF_of (repsM_2 h8 h15) hSW.size (by simp), hSW.alloc hSW.size _⟩
      case s17 =>
        intro g W L hL hSW hd
        try simp only [Nat.zero_add, Nat.reduceAdd] at hd ⊢
        have h16 := hd 16 (by decide) (by kernel_rfl)
        change (rowF wr.heap.size [numC x.f0, textC x.f1]) (g 16) W at h16
        with_reducible refine OpGives.pre_reads [(33, 16)] 78 ?_ ?_ ?_
        · rfl
        · kernel_rfl
        simp only [List.map_cons, List.map_nil]
        refine OpGives.call (f := 38) (args := #[g 16]) (w' := W) (by go_simp) ((list7_R h16).mono fun e W' ⟨u, he, hf, hb⟩ => ⟨u, he, hb, hf, hSW.trans (hb.mono hSW.size)⟩)
      case s18 =>
        intro g W L hL hSW hd
        try simp only [Nat.zero_add, Nat.reduceAdd] at hd ⊢
        have h17 := hd 17 (by decide) (by kernel_rfl)
        change (cellF wr.heap.size (kidC x)) (g 17) W at h17
        with_reducible refine OpGives.pre_reads [(34, 17)] 78 ?_ ?_ ?_
        · rfl
        · kernel_rfl
        simp only [List.map_cons, List.map_nil]
        refine OpGives.val (v := .slice (some ⟨W.heap.size, 0, none⟩) 1 1) (w' := W.alloc (.cells ([g 17].flatMap fun v => v.cells.toList).toArray 38)) (exec_buildSlice 36 1 _ rfl (lit_run1 h17 _ (by simp [rdl_cons]))) ⟨(Below.refl _ _).alloc (Nat.le_refl _) _, litC_of (repsM_1 h17) hSW.size, hSW.alloc hSW.size _⟩
      case hst =>
        refine fun i j v w w' _ h hR => st_of (R := fun W W' => Below W.heap.size W W') ?_ i v w w' h hR
        repeat' first
          | exact trivial
          | with_reducible refine StL.eq ?_
          | refine ⟨fun v w w' h hR => cellF_below h hR, ?_⟩
          | refine ⟨fun v w w' h hR => rowF_below h hR, ?_⟩
          | refine ⟨fun v w w' h hR => litC_below h hR, ?_⟩
      case h0 => exact (Below.refl _ _).drew
      case fin =>
        intro v' W L hL hSW hf
        have h10 := hf 18 (Nat.lt_of_lt_of_eq (by decide : 18 < 19) rfl)
        have h0 : v' 0 = _ := hf 0 (Nat.lt_of_lt_of_eq (by decide : 0 < 19) rfl)
        change litC wr.heap.size [kidC x] (v' 18) W at h10
        clear hf
        generalize hF : Ord.pre _ _ v' _ = F
        rw [Ord.pre_lit [some 17, some 18, some 19, some 20, some 21, some 22, some 23, some 24, some 25, some 26, some 27, some 28, some 29, some 30, some 31, some 32, some 33, some 34, some 35]
          (by kernel_rfl)] at hF
        simp only [Ord.puts, Nat.zero_add, Nat.reduceAdd] at hF
        subst hF
        rw [h0]
        have hb7W := HB7.out.trans (hSW.mono HB7.out.size)
        have hrW := Kd.R_below HROW.out (⟨hb7W.os, hb7W.tape, hb7W.output, hb7W.size, hb7W.block⟩)
        obtain ⟨v8, W8, hr8, hg8, hR8⟩ := append_lit (b0 := W2.heap.size) (lo := wr.heap.size) hrW (fun k hk => Nat.lt_of_lt_of_le (rC_own HROW.out k hk) HB7.out.size) (Nat.le_trans HBE.out.size HB7.out.size) h10 HLEN.out 36
        have hB8 := grown_below hrW hg8 (HBE.out.trans (hb7W.mono HBE.out.size)) (Nat.le_trans HBE.out.size hb7W.size)
        have hR8' : rC W8 W2.heap.size v8 ((kds.take (i + 1)).map kidC) := by
          rw [List.take_add_one, HX.out]; simpa using hR8
        have HR8 := Lib.hid hR8'
        have HB8 := Lib.hid hB8
        clear hg8 hR8 hR8' hB8 hrW hb7W hSW h10
        refine any_one (i := 19) (by kernel_rfl) ?_
        refine wpOp_value (v := v8) (w' := W8) rfl rfl ?_ ?_
        · refine exec_append (.tmp 17) (.tmp 35) 36 rfl ?_
          have key : ∀ a b ty, a = u3 → b = v' 18 → ty = 36 → (Builtin.append_ #[36, 36] ty #[a, b]).run Tryz.prog W = .ok v8 W8 := by rintro _ _ _ rfl rfl rfl; exact hr8
          refine key _ _ _ ?_ ?_ rfl
          · go_simp
          · go_simp
        refine any_one (i := 20) (by kernel_rfl) ?_
        refine wpOp_value (v := v8) (w' := W8) rfl rfl (by go_simp) ?_
        refine wpAny_done (by kernel_rfl) ?_ _
        try simp only [List.getElem_toArray, List.getElem_cons_succ, List.getElem_cons_zero]
        go_frame
        clear hr8
        have hwi : IntKind.i64.wrap ((i : Int) + 1) = (i : Int) + 1 := by rw [IntKind.wrap_i64]; omega
        go_wp2_with fail
        go_roundw
        case rel => exact ⟨i + 1, by go_num, hil, HR8.out, HB8.out⟩
        case measure => simp [intOf]; omega
    · have hie : i = kds.length := by omega
      rw [hie, List.take_length] at hrow
      have HROW2 := Lib.hid hrow
      have hcl : ∀ W, Below wr.heap.size wr W → (W.cell? ⟨w.heap.size, 1, none⟩ = some (.string lab) ∧ W.cell? ⟨w.heap.size, 2, none⟩ = some (.slice Ar rws.length cr)) ∧ W.heap[w.heap.size + 1]? = some (.cells #[.int .i64 0, .int .i64 0, .string (⟨#[]⟩ : ByteArray), .slice none 0 0] 38 (0, 0)) ∧ Kd.C k50 W Ar rws.length rws ∧ rC W W2.heap.size u3 (kds.map kidC) ∧ W2.heap.size ≤ W.heap.size := fun W hW => by
        have h2 : Below W2.heap.size W2 W := HBE.out.trans (hW.mono HBE.out.size)
        obtain ⟨⟨_, b1, b2, _⟩, _⟩ := box8 ((h2.block _ (Array.getElem?_eq_some_iff.1 HGN.out).1).trans HGN.out)
        exact ⟨⟨b1, b2⟩, (h2.block _ (Array.getElem?_eq_some_iff.1 HG2.out).1).trans HG2.out, Kd.C_below HR.out h2, Kd.R_below HROW2.out hW, h2.size⟩
      have HCL := Lib.hid hcl
      have hkml : (kds.map kidC).length ≤ 1000000 := by rw [List.length_map]; exact hkl
      clear hrow hie hbe hcl
      go_wp2_with fail
      clear b3
      refine' wp_region_factsM (S := (fun _ W => Below wr.heap.size wr W)) (fun _ W W' => Below W.heap.size W W') [cellF W2.heap.size (numC 1), eqM _, eqM (.string lab), cellF W2.heap.size (textC lab), eqM _, eqM (.slice Ar rws.length cr), cellF W2.heap.size (rowsC rws), eqM _, cellF W2.heap.size (listC (kds.map kidC)), rowF W2.heap.size [numC 1, textC lab, rowsC rws, listC (kds.map kidC)], cellF W2.heap.size (listC [numC 1, textC lab, rowsC rws, listC (kds.map kidC)])] (by kernel_rfl) (by kernel_rfl) ?hst ?h0 (Ord.stepsM_cons ?s0 (Ord.stepsM_cons ?s1 (Ord.stepsM_cons ?s2 (Ord.stepsM_cons ?s3 (Ord.stepsM_cons ?s4 (Ord.stepsM_cons ?s5 (Ord.stepsM_cons ?s6 (Ord.stepsM_cons ?s7 (Ord.stepsM_cons ?s8 (Ord.stepsM_cons ?s9 (Ord.stepsM_cons ?s10 (Ord.stepsM_nil)))))))))))) ?fin
      case s0 =>
        intro g W L hL hSW hd
        try simp only [Nat.zero_add, Nat.reduceAdd] at hd ⊢
        with_reducible refine OpGives.pre_reads [] 78 ?_ ?_ ?_
        · rfl
        · kernel_rfl
        simp only [List.map_cons, List.map_nil]
        refine OpGives.call (f := 39) (args := #[.int .i64 1]) (w' := W) (by go_simp) ((num7_R 1 W).mono fun e W' ⟨he, hb⟩ => ⟨_, he, hb, num_F _ _ _, hSW.trans (hb.mono hSW.size)⟩)
      case s1 =>
        intro g W L hL hSW hd
        try simp only [Nat.zero_add, Nat.reduceAdd] at hd ⊢
        with_reducible refine OpGives.pre_reads [] 78 ?_ ?_ ?_
        · rfl
        · kernel_rfl
        simp only [List.map_cons, List.map_nil]
        refine OpGives.val (w' := W) ?_ ⟨Below.refl _ _, rfl, hSW⟩
        go_simp
        try with_reducible rfl
      case s2 =>
        intro g W L hL hSW hd
        try simp only [Nat.zero_add, Nat.reduceAdd] at hd ⊢
        have h1 : g 1 = _ := hd 1 (by decide) (by kernel_rfl)
        with_reducible refine OpGives.pre_reads [(38, 1)] 78 ?_ ?_ ?_
        · rfl
        · kernel_rfl
        simp only [List.map_cons, List.map_nil]
        obtain ⟨⟨z1, z2⟩, _⟩ := HCL.out W hSW; refine OpGives.val (v := .string lab) (w' := W) ?_ ⟨Below.refl _ _, rfl, hSW⟩; go_simp
      case s3 =>
        intro g W L hL hSW hd
        try simp only [Nat.zero_add, Nat.reduceAdd] at hd ⊢
        have h2 : g 2 = _ := hd 2 (by decide) (by kernel_rfl)
        with_reducible refine OpGives.pre_reads [(39, 2)] 78 ?_ ?_ ?_
        · rfl
        · kernel_rfl
        simp only [List.map_cons, List.map_nil]
        rw [h2]; refine OpGives.call (f := 40) (args := #[.string lab]) (w' := W) (by go_simp) ((text7_R lab W).mono fun e W' ⟨he, hb⟩ => ⟨_, he, hb, text_F _ _ _, hSW.trans (hb.mono hSW.size)⟩)
      case s4 =>
        intro g W L hL hSW hd
        try simp only [Nat.zero_add, Nat.reduceAdd] at hd ⊢
        with_reducible refine OpGives.pre_reads [] 78 ?_ ?_ ?_
        · rfl
        · kernel_rfl
        simp only [List.map_cons, List.map_nil]
        refine OpGives.val (w' := W) ?_ ⟨Below.refl _ _, rfl, hSW⟩
        go_simp
        try with_reducible rfl
      case s5 =>
        intro g W L hL hSW hd
        try simp only [Nat.zero_add, Nat.reduceAdd] at hd ⊢
        have h4 : g 4 = _ := hd 4 (by decide) (by kernel_rfl)
        with_reducible refine OpGives.pre_reads [(41, 4)] 78 ?_ ?_ ?_
        · rfl
        · kernel_rfl
        simp only [List.map_cons, List.map_nil]
        obtain ⟨⟨z1, z2⟩, _⟩ := HCL.out W hSW; refine OpGives.val (v := .slice Ar rws.length cr) (w' := W) ?_ ⟨Below.refl _ _, rfl, hSW⟩; go_simp
      case s6 =>
        intro g W L hL hSW hd
        try simp only [Nat.zero_add, Nat.reduceAdd] at hd ⊢
        have h5 : g 5 = _ := hd 5 (by decide) (by kernel_rfl)
        with_reducible refine OpGives.pre_reads [(42, 5)] 78 ?_ ?_ ?_
        · rfl
        · kernel_rfl
        simp only [List.map_cons, List.map_nil]
        rw [h5]; refine OpGives.call (f := 27) (args := #[.slice Ar rws.length cr]) (w' := W) (by go_simp) ((rows7_calls rws Ar cr W (HCL.out W hSW).2.2.1 hOlr (Nat.le_trans hrl (by decide))).mono fun e W' ⟨u, he, hf, hb⟩ => ⟨u, he, hb, cellF_lower hf (HCL.out W hSW).2.2.2.2, hSW.trans (hb.mono hSW.size)⟩)
      case s7 =>
        intro g W L hL hSW hd
        try simp only [Nat.zero_add, Nat.reduceAdd] at hd ⊢
        with_reducible refine OpGives.pre_reads [] 78 ?_ ?_ ?_
        · rfl
        · kernel_rfl
        simp only [List.map_cons, List.map_nil]
        refine OpGives.val (w' := W) ?_ ⟨Below.refl _ _, rfl, hSW⟩
        go_simp
        try with_reducible rfl
      case s8 =>
        intro g W L hL hSW hd
        try simp only [Nat.zero_add, Nat.reduceAdd] at hd ⊢
        have h7 : g 7 = _ := hd 7 (by decide) (by kernel_rfl)
        with_reducible refine OpGives.pre_reads [(44, 7)] 78 ?_ ?_ ?_
        · rfl
        · kernel_rfl
        simp only [List.map_cons, List.map_nil]
        rw [h7]; refine OpGives.call (f := 38) (args := #[u3]) (w' := W) (by go_simp) ((list7_R (HCL.out W hSW).2.2.2.1).mono fun e W' ⟨u, he, hf, hb⟩ => ⟨u, he, hb, hf, hSW.trans (hb.mono hSW.size)⟩)
      case s9 =>
        intro g W L hL hSW hd
        try simp only [Nat.zero_add, Nat.reduceAdd] at hd ⊢
        have h0 := hd 0 (by decide) (by kernel_rfl)
        change (cellF W2.heap.size (numC 1)) (g 0) W at h0
        have h3 := hd 3 (by decide) (by kernel_rfl)
        change (cellF W2.heap.size (textC lab)) (g 3) W at h3
        have h6 := hd 6 (by decide) (by kernel_rfl)
        change (cellF W2.heap.size (rowsC rws)) (g 6) W at h6
        have h8 := hd 8 (by decide) (by kernel_rfl)
        change (cellF W2.heap.size (listC (kds.map kidC))) (g 8) W at h8
        with_reducible refine OpGives.pre_reads [(37, 0), (40, 3), (43, 6), (45, 8)] 78 ?_ ?_ ?_
        · rfl
        · kernel_rfl
        simp only [List.map_cons, List.map_nil]
        refine OpGives.val (v := .slice (some ⟨W.heap.size, 0, none⟩) 4 4) (w' := W.alloc (.cells ([g 0, g 3, g 6, g 8].flatMap fun v => v.cells.toList).toArray 38)) (exec_buildSlice 36 4 _ rfl (lit_run4 h0 h3 h6 h8 _ (by simp [rdl_cons]))) ⟨(Below.refl _ _).alloc (Nat.le_refl _) _, rowF_of (repsM_4 h0 h3 h6 h8) (HCL.out W hSW).2.2.2.2 (by simp), hSW.alloc hSW.size _⟩
      case s10 =>
        intro g W L hL hSW hd
        try simp only [Nat.zero_add, Nat.reduceAdd] at hd ⊢
        have h9 := hd 9 (by decide) (by kernel_rfl)
        change (rowF W2.heap.size [numC 1, textC lab, rowsC rws, listC (kds.map kidC)]) (g 9) W at h9
        with_reducible refine OpGives.pre_reads [(46, 9)] 78 ?_ ?_ ?_
        · rfl
        · kernel_rfl
        simp only [List.map_cons, List.map_nil]
        refine OpGives.call (f := 38) (args := #[g 9]) (w' := W) (by go_simp) ((list7_R h9).mono fun e W' ⟨u, he, hf, hb⟩ => ⟨u, he, hb, hf, hSW.trans (hb.mono hSW.size)⟩)
      case hst =>
        refine fun i j v w w' _ h hR => st_of (R := fun W W' => Below W.heap.size W W') ?_ i v w w' h hR
        repeat' first
          | exact trivial
          | with_reducible refine StL.eq ?_
          | refine ⟨fun v w w' h hR => cellF_below h hR, ?_⟩
          | refine ⟨fun v w w' h hR => rowF_below h hR, ?_⟩
          | refine ⟨fun v w w' h hR => litC_below h hR, ?_⟩
      case h0 => exact (Below.refl _ _).drew
      case fin =>
        intro v' W L hL hSW hf
        have h10 := hf 10 (Nat.lt_of_lt_of_eq (by decide : 10 < 11) rfl)
        change cellF W2.heap.size (listC [numC 1, textC lab, rowsC rws, listC (kds.map kidC)]) (v' 10) W at h10
        clear hf
        generalize hF : Ord.pre _ _ v' _ = F
        rw [Ord.pre_lit [some 37, some 38, some 39, some 40, some 41, some 42, some 43, some 44, some 45, some 46, some 47]
          (by kernel_rfl)] at hF
        simp only [Ord.puts, Nat.zero_add, Nat.reduceAdd] at hF
        subst hF
        obtain ⟨v3, e10, hR3⟩ := h10
        obtain ⟨A3, c3, rfl⟩ := R_slice hR3
        rw [e10]
        have hgb := (HCL.out W hSW).2.1
        obtain ⟨⟨z0, z1, z2, z3⟩, f0, f1, f2, f3⟩ := box4 hgb
        have hbw : Below w.heap.size w W := HB2.out.trans ((HBE.out.trans (hSW.mono HBE.out.size)).mono HB2.out.size)
        have HGB := Lib.hid hgb
        have HBW := Lib.hid hbw
        have HR3 := Lib.hid hR3
        clear hgb hbw hR3 hSW e10
        refine any_one (i := 11) (by kernel_rfl) ?_
        refine wpOp_skip (w' := put4 W (w.heap.size + 1) (.int .i64 3) (.int .i64 0) (.string (⟨#[]⟩ : ByteArray)) (.slice A3 (listC [numC 1, textC lab, rowsC rws, listC (kds.map kidC)]).f3.length c3)) rfl rfl (by unfold put4 listC; go_simp) ?_
        refine wpAny_done (by kernel_rfl) ?_ _
        try simp only [List.getElem_toArray, List.getElem_cons_succ, List.getElem_cons_zero]
        go_frame
        have hgf := four_put HGB.out (.int .i64 3) (.int .i64 0) (.string (⟨#[]⟩ : ByteArray)) (.slice A3 (listC [numC 1, textC lab, rowsC rws, listC (kds.map kidC)]).f3.length c3)
        have hrf := rC_put HR3.out (g := w.heap.size + 1) (b0 := w.heap.size) (by have := HS2.out; omega) (by have := HS2.out; omega) (.int .i64 3) (.int .i64 0) (.string (⟨#[]⟩ : ByteArray)) (.slice A3 (listC [numC 1, textC lab, rowsC rws, listC (kds.map kidC)]).f3.length c3)
        have hbf := put4_below' HBW.out (g := w.heap.size + 1) (by omega) (.int .i64 3) (.int .i64 0) (.string (⟨#[]⟩ : ByteArray)) (.slice A3 (listC [numC 1, textC lab, rowsC rws, listC (kds.map kidC)]).f3.length c3)
        have HGF := Lib.hid (show (put4 W (w.heap.size + 1) (.int .i64 3) (.int .i64 0) (.string (⟨#[]⟩ : ByteArray)) (.slice A3 (listC [numC 1, textC lab, rowsC rws, listC (kds.map kidC)]).f3.length c3)).heap[w.heap.size + 1]? = _ from hgf)
        have HRF := Lib.hid hrf
        have HBF := Lib.hid hbf
        clear hgf hrf hbf z0 z1 z2 z3 f0 f1 f2 f3 HGB HBW HR3
        generalize put4 W (w.heap.size + 1) (.int .i64 3) (.int .i64 0) (.string (⟨#[]⟩ : ByteArray)) (.slice A3 (listC [numC 1, textC lab, rowsC rws, listC (kds.map kidC)]).f3.length c3) = WF at *
        go_wp2_with fail
        refine bodyPost_ret (results_cell_row rfl _ _ (w.heap.size + 1) 38 #[.int .i64 3, .int .i64 0, .string (⟨#[]⟩ : ByteArray), .slice A3 (listC [numC 1, textC lab, rowsC rws, listC (kds.map kidC)]).f3.length c3] (0, 0) _ rfl HGF.out Tryz.underlying38 rfl (by kernel_rfl)) rfl ?_
        exact ⟨_, rfl, ⟨_, rfl, HRF.out⟩, HBF.out⟩
set_option maxHeartbeats 16000000 in
set_option maxRecDepth 100000 in
theorem shape_commit (o : Ob) (Ar : Option Addr) (cr : Nat) (Ak : Option Addr) (ck : Nat) (Ap : Option Addr) (cp : Nat) (w : World) (hO : ObAt w o Ar cr Ak ck Ap cp) (hpl : o.parents.length ≤ 1000000) (hk1 : ¬ o.kind = 1) :
    Calls Tryz.prog 21 #[.agg (obV o Ar cr Ak ck Ap cp)] w (CellPostR w.heap.size (commitC o) w) := by
  obtain ⟨knd, lab, rws, kds, prs, stp, nte, rot⟩ := o
  unfold obV commitC
  simp only at hO hpl hk1 ⊢
  have hk1b : (knd == 1) = false := by simpa using hk1
  have hOp := hO.p
  simp only at hOp
  obtain ⟨W1, hW1⟩ : ∃ W1, W1 = w.alloc (.cells #[.int .i64 knd, .string lab, .slice Ar rws.length cr, .slice Ak kds.length ck, .slice Ap prs.length cp, .int .i64 stp, .string nte, .string rot] 27) := ⟨_, rfl⟩
  have hn1 : Below w.heap.size w W1 := by rw [hW1]; exact (Below.refl _ _).alloc (Nat.le_refl _) _
  have hg1 : W1.heap[w.heap.size]? = some (.cells #[.int .i64 knd, .string lab, .slice Ar rws.length cr, .slice Ak kds.length ck, .slice Ap prs.length cp, .int .i64 stp, .string nte, .string rot] 27 (0, 0)) := by rw [hW1]; exact alloc_lastV _ _
  have hs1 : W1.heap.size = w.heap.size + 1 := by rw [hW1]; simp
  obtain ⟨W2, hW2⟩ : ∃ W2, W2 = W1.alloc (.cells #[.int .i64 0, .int .i64 0, .string (⟨#[]⟩ : ByteArray), .slice none 0 0] 38) := ⟨_, rfl⟩
  have hn2 : Below W1.heap.size W1 W2 := by rw [hW2]; exact (Below.refl _ _).alloc (Nat.le_refl _) _
  have hg2 : W2.heap[w.heap.size + 1]? = some (.cells #[.int .i64 0, .int .i64 0, .string (⟨#[]⟩ : ByteArray), .slice none 0 0] 38 (0, 0)) := by rw [hW2, ← hs1]; exact alloc_lastV _ _
  have hs2 : W2.heap.size = w.heap.size + 2 := by rw [hW2]; simp [hs1]
  have hgn := (hn2.block _ (Array.getElem?_eq_some_iff.1 hg1).1).trans hg1
  have hb2 : Below w.heap.size w W2 := hn1.trans (hn2.mono hn1.size)
  obtain ⟨⟨b0, b1, b2, b3⟩, b4, b5, b6, b7⟩ := box8 hgn
  have HP := Lib.hid (Kd.C_below hOp hb2)
  have HGN := Lib.hid hgn
  have HG2 := Lib.hid hg2
  have HB2 := Lib.hid hb2
  have HS2 := Lib.hid hs2
  rw [hW2, hW1] at b0 b1 b2 b3 b4 b5 b6 b7
  rw [hW1] at hW2
  have HW2 := Lib.hid hW2
  clear hW1 hW2 hn1 hg1 hs1 hn2 hg2 hs2 hgn hb2 hO hOp
  go_enter Tryz.func21, Tryz.ntmps21
  go_wp2_with fail
  rw [← HW2.out]
  clear b0 b1 b2 b3 b4 b5 b6 b7
  go_loopw [5, 6] (fun v i wr => ∃ k : Nat, i = .int .i64 (k : Int) ∧ k ≤ prs.length ∧ rC wr W2.heap.size v ((prs.take k).map textC) ∧ Below W2.heap.size W2 wr) (fun _ i _ => prs.length - (intOf i).toNat)
  case atStart => exact ⟨0, rfl, Nat.zero_le _, Kd.R_nil _ _ _ _ _, Below.refl _ _⟩
  case round =>
    obtain ⟨i, rfl, hi, hrow, hbe⟩ := hrel
    have HROW := Lib.hid hrow
    have HBE := Lib.hid hbe
    have b4 := (box8 ((hbe.block _ (Array.getElem?_eq_some_iff.1 HGN.out).1).trans HGN.out)).2.1
    by_cases hil : i < prs.length
    · obtain ⟨x, hx⟩ : ∃ x, prs[i]? = some x := ⟨_, List.getElem?_eq_getElem hil⟩
      obtain ⟨ad, rfl, c0, hbk⟩ := str_at (Kd.C_below HP.out hbe) hx
      have HX := Lib.hid hx
      have hlen : ((prs.take i).map textC).length ≤ 1000000 := by rw [List.length_map, List.length_take]; omega
      have HLEN := Lib.hid hlen
      clear hx hlen hrow hbe
      go_wp2_with fail
      clear c0 hbk b4
      refine (text7_R x wr).mono ?_
      rintro e W4 ⟨rfl, hb4⟩
      obtain ⟨W5, hW5⟩ : ∃ W5, W5 = W4.alloc (.cells #[.int .i64 2, .int .i64 0, .string x, .slice none 0 0] 38) := ⟨_, rfl⟩
      have hl5 : litC W4.heap.size [textC x] (.slice (some ⟨W4.heap.size, 0, none⟩) 1 1) W5 := by rw [hW5]; exact litC_of (repsM_1 (text_F x _ _)) (Nat.le_refl _)
      have hb5 : Below W4.heap.size W4 W5 := by rw [hW5]; exact (Below.refl _ _).alloc (Nat.le_refl _) _
      have hbw : Below wr.heap.size wr W5 := hb4.trans (hb5.mono hb4.size)
      have hrW := Kd.R_below HROW.out hbw
      obtain ⟨v8, W8, hr8, hg8, hR8⟩ := append_lit (b0 := W2.heap.size) (lo := W4.heap.size) hrW (fun k hk => Nat.lt_of_lt_of_le (rC_own HROW.out k hk) hb4.size) (Nat.le_trans HBE.out.size hb4.size) hl5 HLEN.out 36
      have hB8 := grown_below hrW hg8 (HBE.out.trans (hbw.mono HBE.out.size)) (Nat.le_trans HBE.out.size hbw.size)
      have hR8' : rC W8 W2.heap.size v8 ((prs.take (i + 1)).map textC) := by
        rw [List.take_add_one, HX.out]; simpa using hR8
      have HR8 := Lib.hid hR8'
      have HB8 := Lib.hid hB8
      rw [hW5] at hr8
      have HAPP := Lib.hid hr8
      clear hg8 hR8 hR8' hB8 hrW hbw hl5 hb5 hW5 hb4 hr8
      have hwi : IntKind.i64.wrap ((i : Int) + 1) = (i : Int) + 1 := by rw [IntKind.wrap_i64]; omega
      go_wp2_with (refine wpList_value rfl (exec_append _ _ 36 rfl HAPP.out) ?_)
      go_roundw
      case rel => exact ⟨i + 1, by go_num, hil, HR8.out, HB8.out⟩
      case measure => simp [intOf]; omega
    · have hie : i = prs.length := by omega
      rw [hie, List.take_length] at hrow
      have HROW2 := Lib.hid hrow
      have hcl : ∀ W, Below wr.heap.size wr W → (W.cell? ⟨w.heap.size, 5, none⟩ = some (.int .i64 stp) ∧ W.cell? ⟨w.heap.size, 6, none⟩ = some (.string nte) ∧ W.cell? ⟨w.heap.size, 7, none⟩ = some (.string rot)) ∧ W.heap[w.heap.size + 1]? = some (.cells #[.int .i64 0, .int .i64 0, .string (⟨#[]⟩ : ByteArray), .slice none 0 0] 38 (0, 0)) ∧ rC W W2.heap.size u5 (prs.map textC) ∧ W2.heap.size ≤ W.heap.size := fun W hW => by
        have h2 : Below W2.heap.size W2 W := HBE.out.trans (hW.mono HBE.out.size)
        obtain ⟨_, _, b5, b6, b7⟩ := box8 ((h2.block _ (Array.getElem?_eq_some_iff.1 HGN.out).1).trans HGN.out)
        exact ⟨⟨b5, b6, b7⟩, (h2.block _ (Array.getElem?_eq_some_iff.1 HG2.out).1).trans HG2.out, Kd.R_below HROW2.out hW, h2.size⟩
      have HCL := Lib.hid hcl
      have hkml : (prs.map textC).length ≤ 1000000 := by rw [List.length_map]; exact hpl
      clear hrow hie hbe hcl
      go_wp2_with fail
      clear b4
      refine' wp_region_factsM (S := (fun _ W => Below wr.heap.size wr W)) (fun _ W W' => Below W.heap.size W W') [cellF W2.heap.size (numC 2), eqM _, cellF W2.heap.size (listC (prs.map textC)), eqM _, eqM (.int .i64 stp), cellF W2.heap.size (numC stp), eqM _, eqM (.string nte), cellF W2.heap.size (textC nte), eqM _, eqM (.string rot), cellF W2.heap.size (textC rot), rowF W2.heap.size [numC 2, listC (prs.map textC), numC stp, textC nte, textC rot], cellF W2.heap.size (listC [numC 2, listC (prs.map textC), numC stp, textC nte, textC rot])] (by kernel_rfl) (by kernel_rfl) ?hst ?h0 (Ord.stepsM_cons ?s0 (Ord.stepsM_cons ?s1 (Ord.stepsM_cons ?s2 (Ord.stepsM_cons ?s3 (Ord.stepsM_cons ?s4 (Ord.stepsM_cons ?s5 (Ord.stepsM_cons ?s6 (Ord.stepsM_cons ?s7 (Ord.stepsM_cons ?s8 (Ord.stepsM_cons ?s9 (Ord.stepsM_cons ?s10 (Ord.stepsM_cons ?s11 (Ord.stepsM_cons ?s12 (Ord.stepsM_cons ?s13 (Ord.stepsM_nil))))))))))))))) ?fin
      case s0 =>
        intro g W L hL hSW hd
        try simp only [Nat.zero_add, Nat.reduceAdd] at hd ⊢
        with_reducible refine OpGives.pre_reads [] 78 ?_ ?_ ?_
        · rfl
        · kernel_rfl
        simp only [List.map_cons, List.map_nil]
        refine OpGives.call (f := 39) (args := #[.int .i64 2]) (w' := W) (by go_simp) ((num7_R 2 W).mono fun e W' ⟨he, hb⟩ => ⟨_, he, hb, num_F _ _ _, hSW.trans (hb.mono hSW.size)⟩)
      case s1 =>
        intro g W L hL hSW hd
        try simp only [Nat.zero_add, Nat.reduceAdd] at hd ⊢
        with_reducible refine OpGives.pre_reads [] 78 ?_ ?_ ?_
        · rfl
        · kernel_rfl
        simp only [List.map_cons, List.map_nil]
        refine OpGives.val (w' := W) ?_ ⟨Below.refl _ _, rfl, hSW⟩
        go_simp
        try with_reducible rfl
      case s2 =>
        intro g W L hL hSW hd
        try simp only [Nat.zero_add, Nat.reduceAdd] at hd ⊢
        have h1 : g 1 = _ := hd 1 (by decide) (by kernel_rfl)
        with_reducible refine OpGives.pre_reads [(65, 1)] 78 ?_ ?_ ?_
        · rfl
        · kernel_rfl
        simp only [List.map_cons, List.map_nil]
        rw [h1]; refine OpGives.call (f := 38) (args := #[u5]) (w' := W) (by go_simp) ((list7_R (HCL.out W hSW).2.2.1).mono fun e W' ⟨u, he, hf, hb⟩ => ⟨u, he, hb, hf, hSW.trans (hb.mono hSW.size)⟩)
      case s3 =>
        intro g W L hL hSW hd
        try simp only [Nat.zero_add, Nat.reduceAdd] at hd ⊢
        with_reducible refine OpGives.pre_reads [] 78 ?_ ?_ ?_
        · rfl
        · kernel_rfl
        simp only [List.map_cons, List.map_nil]
        refine OpGives.val (w' := W) ?_ ⟨Below.refl _ _, rfl, hSW⟩
        go_simp
        try with_reducible rfl
      case s4 =>
        intro g W L hL hSW hd
        try simp only [Nat.zero_add, Nat.reduceAdd] at hd ⊢
        have h3 : g 3 = _ := hd 3 (by decide) (by kernel_rfl)
        with_reducible refine OpGives.pre_reads [(67, 3)] 78 ?_ ?_ ?_
        · rfl
        · kernel_rfl
        simp only [List.map_cons, List.map_nil]
        obtain ⟨⟨z1, z2, z3⟩, _⟩ := HCL.out W hSW; refine OpGives.val (v := .int .i64 stp) (w' := W) ?_ ⟨Below.refl _ _, rfl, hSW⟩; go_simp
      case s5 =>
        intro g W L hL hSW hd
        try simp only [Nat.zero_add, Nat.reduceAdd] at hd ⊢
        have h4 : g 4 = _ := hd 4 (by decide) (by kernel_rfl)
        with_reducible refine OpGives.pre_reads [(68, 4)] 78 ?_ ?_ ?_
        · rfl
        · kernel_rfl
        simp only [List.map_cons, List.map_nil]
        rw [h4]; refine OpGives.call (f := 39) (args := #[.int .i64 stp]) (w' := W) (by go_simp) ((num7_R stp W).mono fun e W' ⟨he, hb⟩ => ⟨_, he, hb, num_F _ _ _, hSW.trans (hb.mono hSW.size)⟩)
      case s6 =>
        intro g W L hL hSW hd
        try simp only [Nat.zero_add, Nat.reduceAdd] at hd ⊢
        with_reducible refine OpGives.pre_reads [] 78 ?_ ?_ ?_
        · rfl
        · kernel_rfl
        simp only [List.map_cons, List.map_nil]
        refine OpGives.val (w' := W) ?_ ⟨Below.refl _ _, rfl, hSW⟩
        go_simp
        try with_reducible rfl
      case s7 =>
        intro g W L hL hSW hd
        try simp only [Nat.zero_add, Nat.reduceAdd] at hd ⊢
        have h6 : g 6 = _ := hd 6 (by decide) (by kernel_rfl)
        with_reducible refine OpGives.pre_reads [(70, 6)] 78 ?_ ?_ ?_
        · rfl
        · kernel_rfl
        simp only [List.map_cons, List.map_nil]
        obtain ⟨⟨z1, z2, z3⟩, _⟩ := HCL.out W hSW; refine OpGives.val (v := .string nte) (w' := W) ?_ ⟨Below.refl _ _, rfl, hSW⟩; go_simp
      case s8 =>
        intro g W L hL hSW hd
        try simp only [Nat.zero_add, Nat.reduceAdd] at hd ⊢
        have h7 : g 7 = _ := hd 7 (by decide) (by kernel_rfl)
        with_reducible refine OpGives.pre_reads [(71, 7)] 78 ?_ ?_ ?_
        · rfl
        · kernel_rfl
        simp only [List.map_cons, List.map_nil]
        rw [h7]; refine OpGives.call (f := 40) (args := #[.string nte]) (w' := W) (by go_simp) ((text7_R nte W).mono fun e W' ⟨he, hb⟩ => ⟨_, he, hb, text_F _ _ _, hSW.trans (hb.mono hSW.size)⟩)
      case s9 =>
        intro g W L hL hSW hd
        try simp only [Nat.zero_add, Nat.reduceAdd] at hd ⊢
        with_reducible refine OpGives.pre_reads [] 78 ?_ ?_ ?_
        · rfl
        · kernel_rfl
        simp only [List.map_cons, List.map_nil]
        refine OpGives.val (w' := W) ?_ ⟨Below.refl _ _, rfl, hSW⟩
        go_simp
        try with_reducible rfl
      case s10 =>
        intro g W L hL hSW hd
        try simp only [Nat.zero_add, Nat.reduceAdd] at hd ⊢
        have h9 : g 9 = _ := hd 9 (by decide) (by kernel_rfl)
        with_reducible refine OpGives.pre_reads [(73, 9)] 78 ?_ ?_ ?_
        · rfl
        · kernel_rfl
        simp only [List.map_cons, List.map_nil]
        obtain ⟨⟨z1, z2, z3⟩, _⟩ := HCL.out W hSW; refine OpGives.val (v := .string rot) (w' := W) ?_ ⟨Below.refl _ _, rfl, hSW⟩; go_simp
      case s11 =>
        intro g W L hL hSW hd
        try simp only [Nat.zero_add, Nat.reduceAdd] at hd ⊢
        have h10 : g 10 = _ := hd 10 (by decide) (by kernel_rfl)
        with_reducible refine OpGives.pre_reads [(74, 10)] 78 ?_ ?_ ?_
        · rfl
        · kernel_rfl
        simp only [List.map_cons, List.map_nil]
        rw [h10]; refine OpGives.call (f := 40) (args := #[.string rot]) (w' := W) (by go_simp) ((text7_R rot W).mono fun e W' ⟨he, hb⟩ => ⟨_, he, hb, text_F _ _ _, hSW.trans (hb.mono hSW.size)⟩)
      case s12 =>
        intro g W L hL hSW hd
        try simp only [Nat.zero_add, Nat.reduceAdd] at hd ⊢
        have h0 := hd 0 (by decide) (by kernel_rfl)
        change (cellF W2.heap.size (numC 2)) (g 0) W at h0
        have h2 := hd 2 (by decide) (by kernel_rfl)
        change (cellF W2.heap.size (listC (prs.map textC))) (g 2) W at h2
        have h5 := hd 5 (by decide) (by kernel_rfl)
        change (cellF W2.heap.size (numC stp)) (g 5) W at h5
        have h8 := hd 8 (by decide) (by kernel_rfl)
        change (cellF W2.heap.size (textC nte)) (g 8) W at h8
        have h11 := hd 11 (by decide) (by kernel_rfl)
        change (cellF W2.heap.size (textC rot)) (g 11) W at h11
        with_reducible refine OpGives.pre_reads [(64, 0), (66, 2), (69, 5), (72, 8), (75, 11)] 78 ?_ ?_ ?_
        · rfl
        · kernel_rfl
        simp only [List.map_cons, List.map_nil]
        refine OpGives.val (v := .slice (some ⟨W.heap.size, 0, none⟩) 5 5) (w' := W.alloc (.cells ([g 0, g 2, g 5, g 8, g 11].flatMap fun v => v.cells.toList).toArray 38)) (exec_buildSlice 36 5 _ rfl (lit_run5 h0 h2 h5 h8 h11 _ (by simp [rdl_cons]))) ⟨(Below.refl _ _).alloc (Nat.le_refl _) _, rowF_of (repsM_5 h0 h2 h5 h8 h11) (HCL.out W hSW).2.2.2 (by simp), hSW.alloc hSW.size _⟩
      case s13 =>
        intro g W L hL hSW hd
        try simp only [Nat.zero_add, Nat.reduceAdd] at hd ⊢
        have h12 := hd 12 (by decide) (by kernel_rfl)
        change (rowF W2.heap.size [numC 2, listC (prs.map textC), numC stp, textC nte, textC rot]) (g 12) W at h12
        with_reducible refine OpGives.pre_reads [(76, 12)] 78 ?_ ?_ ?_
        · rfl
        · kernel_rfl
        simp only [List.map_cons, List.map_nil]
        refine OpGives.call (f := 38) (args := #[g 12]) (w' := W) (by go_simp) ((list7_R h12).mono fun e W' ⟨u, he, hf, hb⟩ => ⟨u, he, hb, hf, hSW.trans (hb.mono hSW.size)⟩)
      case hst =>
        refine fun i j v w w' _ h hR => st_of (R := fun W W' => Below W.heap.size W W') ?_ i v w w' h hR
        repeat' first
          | exact trivial
          | with_reducible refine StL.eq ?_
          | refine ⟨fun v w w' h hR => cellF_below h hR, ?_⟩
          | refine ⟨fun v w w' h hR => rowF_below h hR, ?_⟩
          | refine ⟨fun v w w' h hR => litC_below h hR, ?_⟩
      case h0 => exact (Below.refl _ _).drew
      case fin =>
        intro v' W L hL hSW hf
        have h10 := hf 13 (Nat.lt_of_lt_of_eq (by decide : 13 < 14) rfl)
        change cellF W2.heap.size (listC [numC 2, listC (prs.map textC), numC stp, textC nte, textC rot]) (v' 13) W at h10
        clear hf
        generalize hF : Ord.pre _ _ v' _ = F
        rw [Ord.pre_lit [some 64, some 65, some 66, some 67, some 68, some 69, some 70, some 71, some 72, some 73, some 74, some 75, some 76, some 77]
          (by kernel_rfl)] at hF
        simp only [Ord.puts, Nat.zero_add, Nat.reduceAdd] at hF
        subst hF
        obtain ⟨v3, e10, hR3⟩ := h10
        obtain ⟨A3, c3, rfl⟩ := R_slice hR3
        rw [e10]
        have hgb := (HCL.out W hSW).2.1
        obtain ⟨⟨z0, z1, z2, z3⟩, f0, f1, f2, f3⟩ := box4 hgb
        have hbw : Below w.heap.size w W := HB2.out.trans ((HBE.out.trans (hSW.mono HBE.out.size)).mono HB2.out.size)
        have HGB := Lib.hid hgb
        have HBW := Lib.hid hbw
        have HR3 := Lib.hid hR3
        clear hgb hbw hR3 hSW e10
        refine any_one (i := 14) (by kernel_rfl) ?_
        refine wpOp_skip (w' := put4 W (w.heap.size + 1) (.int .i64 3) (.int .i64 0) (.string (⟨#[]⟩ : ByteArray)) (.slice A3 (listC [numC 2, listC (prs.map textC), numC stp, textC nte, textC rot]).f3.length c3)) rfl rfl (by unfold put4 listC; go_simp) ?_
        refine wpAny_done (by kernel_rfl) ?_ _
        try simp only [List.getElem_toArray, List.getElem_cons_succ, List.getElem_cons_zero]
        go_frame
        have hgf := four_put HGB.out (.int .i64 3) (.int .i64 0) (.string (⟨#[]⟩ : ByteArray)) (.slice A3 (listC [numC 2, listC (prs.map textC), numC stp, textC nte, textC rot]).f3.length c3)
        have hrf := rC_put HR3.out (g := w.heap.size + 1) (b0 := w.heap.size) (by have := HS2.out; omega) (by have := HS2.out; omega) (.int .i64 3) (.int .i64 0) (.string (⟨#[]⟩ : ByteArray)) (.slice A3 (listC [numC 2, listC (prs.map textC), numC stp, textC nte, textC rot]).f3.length c3)
        have hbf := put4_below' HBW.out (g := w.heap.size + 1) (by omega) (.int .i64 3) (.int .i64 0) (.string (⟨#[]⟩ : ByteArray)) (.slice A3 (listC [numC 2, listC (prs.map textC), numC stp, textC nte, textC rot]).f3.length c3)
        have HGF := Lib.hid (show (put4 W (w.heap.size + 1) (.int .i64 3) (.int .i64 0) (.string (⟨#[]⟩ : ByteArray)) (.slice A3 (listC [numC 2, listC (prs.map textC), numC stp, textC nte, textC rot]).f3.length c3)).heap[w.heap.size + 1]? = _ from hgf)
        have HRF := Lib.hid hrf
        have HBF := Lib.hid hbf
        clear hgf hrf hbf z0 z1 z2 z3 f0 f1 f2 f3 HGB HBW HR3
        generalize put4 W (w.heap.size + 1) (.int .i64 3) (.int .i64 0) (.string (⟨#[]⟩ : ByteArray)) (.slice A3 (listC [numC 2, listC (prs.map textC), numC stp, textC nte, textC rot]).f3.length c3) = WF at *
        go_wp2_with fail
        refine bodyPost_ret (results_cell_row rfl _ _ (w.heap.size + 1) 38 #[.int .i64 3, .int .i64 0, .string (⟨#[]⟩ : ByteArray), .slice A3 (listC [numC 2, listC (prs.map textC), numC stp, textC nte, textC rot]).f3.length c3] (0, 0) _ rfl HGF.out Tryz.underlying38 rfl (by kernel_rfl)) rfl ?_
        exact ⟨_, rfl, ⟨_, rfl, HRF.out⟩, HBF.out⟩
theorem shape_calls (o : Ob) (Ar : Option Addr) (cr : Nat) (Ak : Option Addr) (ck : Nat) (Ap : Option Addr) (cp : Nat) (w : World) (hO : ObAt w o Ar cr Ak ck Ap cp) (hrl : o.rows.length ≤ 1000000) (hkl : o.kids.length ≤ 1000000) (hpl : o.parents.length ≤ 1000000) (hk8 : ∀ x ∈ o.kids, 0 ≤ x.f0 ∧ x.f0 ≤ 255) :
    Calls Tryz.prog 21 #[.agg (obV o Ar cr Ak ck Ap cp)] w (CellPostR w.heap.size (cellOf o) w) := by
  unfold cellOf
  by_cases h : o.kind = 1
  · rw [if_pos h]; exact shape_node o Ar cr Ak ck Ap cp w hO hrl hkl hk8 h
  · rw [if_neg h]; exact shape_commit o Ar cr Ak ck Ap cp w hO hpl h
end Go.Proofs.YtgjlchcfdbmmlaaGreatDoor.PObjectPuts
-- cut by hand (fewer functions) from a text PRINTED BY print.sh 35421559b90ae4d0a3588c463048766b98c2df88dd9212a6774a882060cdf62d : not as printed
namespace Go.Proofs.YtgjlchcfdbmmlaaGreatDoor.PObjectPuts
open Go.RowKit Go.Proofs.YtgjlchcfdbmmlaaGreatDoorW.PrintWords Go.Proofs.YtgjlchcfdbmmlaaGreatDoorW.PrintLast Go.Proofs.YtgjlchcfdbmmlaaGreatDoorW.PrintMore
attribute [local go_sem] max2_int min2_int max_two min_two max_three min_three max_four min_four   -- for this text's walks alone

/-! ### fastiref04_bytes: function 60 -/
def fastiref04_bytes.f : Nat → Int → Option (ByteArray)
  | 0, _ => none
  | k + 1, a0 => if a0 = 0 then (some (⟨#[]⟩ : ByteArray)) else ((fastiref04_bytes.f k (wrap64 (Int.tdiv a0 256))).bind fun t173 => ((some (([(Int.tmod a0 256) % 256] : List Int) : List Int)).bind fun y174 => (if t173.size + (strOfNums y174).size ≤ 9223372036854775807 then (some (t173 ++ (strOfNums y174))) else (none))))
def fastiref04_bytes.T3 : Bool × List (List Nat × List Nat) := (true, [([], []), ([0], [0]), ([1], [1]), ([], []), ([3], [3]), ([4], [4]), ([5], [5]), ([6], [6]), ([2, 7], [2, 7]), ([8, 2, 0, 1, 2, 3, 4, 5, 6, 7, 8], [8])])
def fastiref04_bytes.B3 : List Nat := [0, 1, 3, 0, 8, 24, 56, 120, 255, 511]
theorem fastiref04_bytes.tab3 : rtab .any (opsOf Tryz.f60 3) = fastiref04_bytes.T3 := by kernel_rfl
theorem fastiref04_bytes.bits3 : waitsOk fastiref04_bytes.T3.2 fastiref04_bytes.B3 = true := by kernel_rfl
set_option maxHeartbeats 8000000 in
set_option maxRecDepth 100000 in
theorem fastiref04_bytes.calls (k : Nat) : ∀ (a0 : Int) (r : ByteArray) (w : World) (h : fastiref04_bytes.f k a0 = some r),
    Calls Tryz.prog 60 #[.int .i64 a0] w fun e w' => e = .returned (.string r) ∧ Below w.heap.size w w' := by
  induction k using Nat.strongRecOn with
  | _ k ih =>
  intro a0 r w h
  cases k with
  | zero => exact absurd h (by simp [fastiref04_bytes.f])
  | succ k =>
  simp only [fastiref04_bytes.f] at h
  have HB := Aside0.mk (Below.refl w.heap.size w)
  have H : (if a0 = 0 then (some (⟨#[]⟩ : ByteArray)) else ((fastiref04_bytes.f k (wrap64 (Int.tdiv a0 256))).bind fun t173 => ((some (([(Int.tmod a0 256) % 256] : List Int) : List Int)).bind fun y174 => (if t173.size + (strOfNums y174).size ≤ 9223372036854775807 then (some (t173 ++ (strOfNums y174))) else (none))))) = some r := h
  clear h
  by_cases c2 : a0 = 0
  · rw [if_pos c2] at H
    have c2b0 : (a0 == 0) = true := beq_iff_eq.mpr c2
    have c2b1 : (a0 != 0) = false := bne_eq_false_iff_eq.mpr c2
    clear c2
    obtain rfl := Option.some.inj H
    go_enter Tryz.func60, Tryz.ntmps60
    go_wp2
    go_ret
    exact ⟨by first | rfl | (simp [errW_none, errW_some] <;> rfl) | (simp [*, errW_none, errW_some] <;> rfl), by repeat (first | (with_reducible first | exact HB.out | apply below_alloc | apply pw_below_drewN | apply below_drew1) | exact HB.out)⟩
  · rw [if_neg c2] at H
    have c2b0 : (a0 == 0) = false := beq_eq_false_iff_ne.mpr c2
    have c2b1 : (a0 != 0) = true := bne_iff_ne.mpr c2
    replace H := Option.bind_eq_some_iff.mp H
    obtain ⟨t173, A30, H⟩ := H
    replace H : ((some (([(Int.tmod a0 256) % 256] : List Int) : List Int)).bind fun y174 => (if t173.size + (strOfNums y174).size ≤ 9223372036854775807 then (some (t173 ++ (strOfNums y174))) else (none))) = some r := H
    have A3 := Aside0.mk A30
    clear A30
    obtain ⟨y174, hy174⟩ : ∃ y_ : List Int, y_ = (([(Int.tmod a0 256) % 256] : List Int)) := ⟨_, rfl⟩
    replace H : (if t173.size + (strOfNums y174).size ≤ 9223372036854775807 then (some (t173 ++ (strOfNums y174))) else (none)) = some r := by first | (rw [hy174]; with_reducible exact H) | (have H2_ := (Option.bind_some _ _).symm.trans H; rw [hy174]; with_reducible exact H2_) | (have H2_ := (Option.bind_some _ _).symm.trans H; with_reducible exact H2_) | with_reducible exact H | (rw [hy174]; exact H) | exact H
    have Ny174 := Aside0.mk hy174
    clear hy174
    by_cases c4 : t173.size + (strOfNums y174).size ≤ 9223372036854775807
    · rw [if_pos c4] at H
      have c4b0 := eq_true c4
      have c4b1 : decide (t173.size + (strOfNums y174).size ≤ 9223372036854775807) = true := decide_eq_true c4
      try have c4b2 : (9223372036854775807 < t173.size + (strOfNums y174).size) = False := eq_false (Nat.not_lt.2 c4)
      obtain rfl := Option.some.inj H
      go_enter Tryz.func60, Tryz.ntmps60
      try go_wp2
      have n0_ := Aside0.mk (below_drew1 HB.out)
      clear HB
      have HB := n0_
      clear n0_
      refine start_ (n := 10) (S := fun w' => True) (ds := []) #[false, false, false, false, false, false, false, false, false, false] (by kernel_rfl) rfl rfl trivial (fun hHeld => ?_); refine with_tabW fastiref04_bytes.tab3 fastiref04_bytes.bits3 (fun HT_ HW_ => ?_)
      generalize w.drew = w5 at HB hHeld ⊢
      refine pure_ (i := 0) (N := some 5) (v := ?_) (a' := ?_) #[true, false, false, false, false, false, false, false, false, false] rfl rfl (any_of HT_.out (by kernel_rfl)) (fun _ _ _ h => h) (Or.inl ⟨by rfl, ?_⟩) ?_ ?_
      rotate_left
      · intro w'
        go_simp
        with_reducible rfl
      rotate_left
      · simp only [Act.put, List.setIfInBounds_toArray, List.set_cons_zero, List.set_cons_succ, i64_w, i32_w]
        rfl
      refine pure_ (i := 1) (N := some 6) (v := ?_) (a' := ?_) #[true, true, false, false, false, false, false, false, false, false] rfl rfl (any_of HT_.out (by kernel_rfl)) (fun _ _ _ h => h) (Or.inl ⟨by rfl, ?_⟩) ?_ ?_
      rotate_left
      · intro w'
        go_simp
        with_reducible rfl
      rotate_left
      · simp only [Act.put, List.setIfInBounds_toArray, List.set_cons_zero, List.set_cons_succ, i64_w, i32_w]
        rfl
      refine pure_ (i := 3) (N := some 8) (v := ?_) (a' := ?_) #[true, true, false, true, false, false, false, false, false, false] rfl rfl (any_of HT_.out (by kernel_rfl)) (fun _ _ _ h => h) (Or.inl ⟨by rfl, ?_⟩) ?_ ?_
      rotate_left
      · intro w'
        go_simp
        with_reducible rfl
      rotate_left
      · simp only [Act.put, List.setIfInBounds_toArray, List.set_cons_zero, List.set_cons_succ, i64_w, i32_w]
        rfl
      refine pure_ (i := 4) (N := some 9) (v := ?_) (a' := ?_) #[true, true, false, true, true, false, false, false, false, false] rfl rfl (any_of HT_.out (by kernel_rfl)) (fun _ _ _ h => h) (Or.inl ⟨by rfl, ?_⟩) ?_ ?_
      rotate_left
      · intro w'
        go_simp
        with_reducible rfl
      rotate_left
      · simp only [Act.put, List.setIfInBounds_toArray, List.set_cons_zero, List.set_cons_succ, i64_w, i32_w]
        rfl
      refine pure_ (i := 5) (N := some 10) (v := ?_) (a' := ?_) #[true, true, false, true, true, true, false, false, false, false] rfl rfl (any_of HT_.out (by kernel_rfl)) (fun _ _ _ h => h) (Or.inl ⟨by rfl, ?_⟩) ?_ ?_
      rotate_left
      · intro w'
        go_simp
        with_reducible rfl
      rotate_left
      · simp only [Act.put, List.setIfInBounds_toArray, List.set_cons_zero, List.set_cons_succ, i64_w, i32_w]
        rfl
      refine join_ (σ := Value) 2 #[true, true, true, true, true, true, true, true, false, false] (fun s_ => [(7, .string t173), (11, s_), (12, .string (strOfNums y174))]) (fun s_ w' => (Kd.R (Kd.int .u8) 5 w' w.heap.size (fun _ => True) s_ y174) ∧ (Below w.heap.size w w')) ?_ ?_
      rotate_left
      · intro hCont
        refine two_ (i := 2) (j := 6) (Ni := some 7) (Nj := some 11) #[true, true, true, true, true, true, false, false, false, false] #[true, true, false, true, true, true, true, false, false, false] rfl rfl rfl rfl (two_of HT_.out (by kernel_rfl)) (by decide) (by decide) (fun K hK => ?_) (fun K hK => ?_)
        · skip
          refine goes_ Tryz.func60 (by kernel_rfl) rfl #[.int .i64 (wrap64 (Int.tdiv a0 256))] (by rfl) rfl rfl (by (try simp only [List.map_toArray, List.map_cons, List.map_nil]); first | done | rfl | (simp only [List.length_drop, List.length_take]; rfl)) ?_
          with_reducible refine (ih k (by omega) (wrap64 (Int.tdiv a0 256)) t173 _ A3.out).mono ?_
          rintro e w6 ⟨rfl, hb⟩
          refine ⟨_, rfl, ?_⟩
          have n0_ := Aside0.mk (below_step (by repeat (first | (with_reducible first | exact HB.out | apply below_alloc | apply pw_below_drewN | apply below_drew1) | exact HB.out)) hb)
          clear HB
          have HB := n0_
          clear n0_
          (try clear hb)
          (try clear hb2)
          (try clear hk)
          (try clear hi)
          refine hK.out _ _ trivial (fun hHeld => ?_)
          clear hK K
          refine norm_ (a' := ?_) ?_ ?_
          rotate_left
          · show Act.put _ (some 7) _ = _
            simp only [Act.put, List.setIfInBounds_toArray, List.set_cons_zero, List.set_cons_succ, i64_w, i32_w]
            rfl
          refine one_ (i := 6) (N := some 11) #[true, true, true, true, true, true, true, false, false, false] rfl rfl (one_of HT_.out (by kernel_rfl)) (by decide) (fun K hK => ?_)
          refine Kd.R_lit_step (Kd.int .u8) _ 5 ?hg (N := 11) ?hd (xs := ([(Int.tmod a0 256) % 256] : List Int)) (inner := [.int .u8 ((Int.tmod a0 256) % 256)]) (ok := fun _ => True) (okp := fun _ => True) ?hr ?hp (fun _ hk => hk) trivial (Below.refl _ _) (Nat.le_refl _) (by simp) ?_; (case hd => rfl); (case hg => rfl); (case hr => first | (go_simp; done) | (go_simp; rfl)); (case hp => exact (Reps.one (show Kd.M (Kd.int .u8) _ _ _ ((Int.tmod a0 256) % 256) [.int .u8 ((Int.tmod a0 256) % 256)] from rfl) (Reps.none _ _)))
          intro v175 w7 ho8 hb hg_ hnew_
          clear hg_ hnew_
          (first | rw [← Ny174.out] at ho8 | (simp only [Int.reduceToNat] at ho8; rw [← Ny174.out] at ho8))
          have n0_ := Aside0.mk (Kd.R_lower ho8 (below_size (by repeat (first | (with_reducible first | exact HB.out | apply below_alloc | apply pw_below_drewN | apply below_drew1) | exact HB.out))))
          have n1_ := Aside0.mk (below_step (by repeat (first | (with_reducible first | exact HB.out | apply below_alloc | apply pw_below_drewN | apply below_drew1) | exact HB.out)) hb)
          clear HB
          have HO176 := n0_
          have HB := n1_
          clear n0_ n1_
          clear hb ho8
          refine hK.out _ _ trivial (fun hHeld => ?_)
          clear hK K
          refine norm_ (a' := ?_) ?_ ?_
          rotate_left
          · show Act.put _ (some 11) _ = _
            simp only [Act.put, List.setIfInBounds_toArray, List.set_cons_zero, List.set_cons_succ, i64_w, i32_w]
            rfl
          refine one_ (i := 7) (N := some 12) #[true, true, true, true, true, true, true, true, false, false] rfl rfl (one_of HT_.out (by kernel_rfl)) (by decide) (fun K hK => ?_)
          have hcv9 := own_string (P := Tryz.prog) Tryz.underlying78 Tryz.underlying5 Tryz.underlying9 (Kd.own_of_R HO176.out)
          refine value_ (w1 := ?_) (v := ?_) (by rfl) rfl ?_ ?_
          rotate_left 2
          · go_simp
            constructor
            · rfl
            · rfl
          clear hcv9
          refine hK.out _ _ trivial (fun hHeld => ?_)
          clear hK K
          refine norm_ (a' := ?_) ?_ ?_
          rotate_left
          · show Act.put _ (some 12) _ = _
            simp only [Act.put, List.setIfInBounds_toArray, List.set_cons_zero, List.set_cons_succ, i64_w, i32_w]
            rfl
          exact norm_ (by simp only [putAll, Act.put, List.setIfInBounds_toArray, List.set_cons_zero, List.set_cons_succ]) (hCont (v175) _ ⟨(by (with_reducible repeat (first | apply Kd.R_alloc | apply Kd.R_drewN | apply Kd.R_drew)); exact HO176.out), (by repeat (first | (with_reducible first | exact HB.out | apply below_alloc | apply pw_below_drewN | apply below_drew1) | exact HB.out))⟩)
        · skip
          refine Kd.R_lit_step (Kd.int .u8) _ 5 ?hg (N := 11) ?hd (xs := ([(Int.tmod a0 256) % 256] : List Int)) (inner := [.int .u8 ((Int.tmod a0 256) % 256)]) (ok := fun _ => True) (okp := fun _ => True) ?hr ?hp (fun _ hk => hk) trivial (Below.refl _ _) (Nat.le_refl _) (by simp) ?_; (case hd => rfl); (case hg => rfl); (case hr => first | (go_simp; done) | (go_simp; rfl)); (case hp => exact (Reps.one (show Kd.M (Kd.int .u8) _ _ _ ((Int.tmod a0 256) % 256) [.int .u8 ((Int.tmod a0 256) % 256)] from rfl) (Reps.none _ _)))
          intro v175 w6 ho7 hb hg_ hnew_
          clear hg_ hnew_
          (first | rw [← Ny174.out] at ho7 | (simp only [Int.reduceToNat] at ho7; rw [← Ny174.out] at ho7))
          have n0_ := Aside0.mk (Kd.R_lower ho7 (below_size (by repeat (first | (with_reducible first | exact HB.out | apply below_alloc | apply pw_below_drewN | apply below_drew1) | exact HB.out))))
          have n1_ := Aside0.mk (below_step (by repeat (first | (with_reducible first | exact HB.out | apply below_alloc | apply pw_below_drewN | apply below_drew1) | exact HB.out)) hb)
          clear HB
          have HO176 := n0_
          have HB := n1_
          clear n0_ n1_
          clear hb ho7
          refine hK.out _ _ trivial (fun hHeld => ?_)
          clear hK K
          refine norm_ (a' := ?_) ?_ ?_
          rotate_left
          · show Act.put _ (some 11) _ = _
            simp only [Act.put, List.setIfInBounds_toArray, List.set_cons_zero, List.set_cons_succ, i64_w, i32_w]
            rfl
          refine two_ (i := 2) (j := 7) (Ni := some 7) (Nj := some 12) #[true, true, true, true, true, true, true, false, false, false] #[true, true, false, true, true, true, true, true, false, false] rfl rfl rfl rfl (two_of HT_.out (by kernel_rfl)) (by decide) (by decide) (fun K hK => ?_) (fun K hK => ?_)
          · skip
            refine goes_ Tryz.func60 (by kernel_rfl) rfl #[.int .i64 (wrap64 (Int.tdiv a0 256))] (by rfl) rfl rfl (by (try simp only [List.map_toArray, List.map_cons, List.map_nil]); first | done | rfl | (simp only [List.length_drop, List.length_take]; rfl)) ?_
            with_reducible refine (ih k (by omega) (wrap64 (Int.tdiv a0 256)) t173 _ A3.out).mono ?_
            rintro e w8 ⟨rfl, hb⟩
            refine ⟨_, rfl, ?_⟩
            have n0_ := Aside0.mk (Kd.R_below (by (with_reducible repeat (first | apply Kd.R_alloc | apply Kd.R_drewN | apply Kd.R_drew)); exact HO176.out) hb)
            have n1_ := Aside0.mk (below_step (by repeat (first | (with_reducible first | exact HB.out | apply below_alloc | apply pw_below_drewN | apply below_drew1) | exact HB.out)) hb)
            clear HO176
            clear HB
            have HO176 := n0_
            have HB := n1_
            clear n0_ n1_
            (try clear hb)
            (try clear hb2)
            (try clear hk)
            (try clear hi)
            refine hK.out _ _ trivial (fun hHeld => ?_)
            clear hK K
            refine norm_ (a' := ?_) ?_ ?_
            rotate_left
            · show Act.put _ (some 7) _ = _
              simp only [Act.put, List.setIfInBounds_toArray, List.set_cons_zero, List.set_cons_succ, i64_w, i32_w]
              rfl
            refine one_ (i := 7) (N := some 12) #[true, true, true, true, true, true, true, true, false, false] rfl rfl (one_of HT_.out (by kernel_rfl)) (by decide) (fun K hK => ?_)
            have hcv9 := own_string (P := Tryz.prog) Tryz.underlying78 Tryz.underlying5 Tryz.underlying9 (Kd.own_of_R HO176.out)
            refine value_ (w1 := ?_) (v := ?_) (by rfl) rfl ?_ ?_
            rotate_left 2
            · go_simp
              constructor
              · rfl
              · rfl
            clear hcv9
            refine hK.out _ _ trivial (fun hHeld => ?_)
            clear hK K
            refine norm_ (a' := ?_) ?_ ?_
            rotate_left
            · show Act.put _ (some 12) _ = _
              simp only [Act.put, List.setIfInBounds_toArray, List.set_cons_zero, List.set_cons_succ, i64_w, i32_w]
              rfl
            exact norm_ (by simp only [putAll, Act.put, List.setIfInBounds_toArray, List.set_cons_zero, List.set_cons_succ]) (hCont (v175) _ ⟨(by (with_reducible repeat (first | apply Kd.R_alloc | apply Kd.R_drewN | apply Kd.R_drew)); exact HO176.out), (by repeat (first | (with_reducible first | exact HB.out | apply below_alloc | apply pw_below_drewN | apply below_drew1) | exact HB.out))⟩)
          · skip
            have hcv8 := own_string (P := Tryz.prog) Tryz.underlying78 Tryz.underlying5 Tryz.underlying9 (Kd.own_of_R HO176.out)
            refine value_ (w1 := ?_) (v := ?_) (by rfl) rfl ?_ ?_
            rotate_left 2
            · go_simp
              constructor
              · rfl
              · rfl
            clear hcv8
            refine hK.out _ _ trivial (fun hHeld => ?_)
            clear hK K
            refine norm_ (a' := ?_) ?_ ?_
            rotate_left
            · show Act.put _ (some 12) _ = _
              simp only [Act.put, List.setIfInBounds_toArray, List.set_cons_zero, List.set_cons_succ, i64_w, i32_w]
              rfl
            refine one_ (i := 2) (N := some 7) #[true, true, true, true, true, true, true, true, false, false] rfl rfl (one_of HT_.out (by kernel_rfl)) (by decide) (fun K hK => ?_)
            refine goes_ Tryz.func60 (by kernel_rfl) rfl #[.int .i64 (wrap64 (Int.tdiv a0 256))] (by rfl) rfl rfl (by (try simp only [List.map_toArray, List.map_cons, List.map_nil]); first | done | rfl | (simp only [List.length_drop, List.length_take]; rfl)) ?_
            with_reducible refine (ih k (by omega) (wrap64 (Int.tdiv a0 256)) t173 _ A3.out).mono ?_
            rintro e w9 ⟨rfl, hb⟩
            refine ⟨_, rfl, ?_⟩
            have n0_ := Aside0.mk (Kd.R_below (by (with_reducible repeat (first | apply Kd.R_alloc | apply Kd.R_drewN | apply Kd.R_drew)); exact HO176.out) hb)
            have n1_ := Aside0.mk (below_step (by repeat (first | (with_reducible first | exact HB.out | apply below_alloc | apply pw_below_drewN | apply below_drew1) | exact HB.out)) hb)
            clear HO176
            clear HB
            have HO176 := n0_
            have HB := n1_
            clear n0_ n1_
            (try clear hb)
            (try clear hb2)
            (try clear hk)
            (try clear hi)
            refine hK.out _ _ trivial (fun hHeld => ?_)
            clear hK K
            refine norm_ (a' := ?_) ?_ ?_
            rotate_left
            · show Act.put _ (some 7) _ = _
              simp only [Act.put, List.setIfInBounds_toArray, List.set_cons_zero, List.set_cons_succ, i64_w, i32_w]
              rfl
            exact norm_ (by simp only [putAll, Act.put, List.setIfInBounds_toArray, List.set_cons_zero, List.set_cons_succ]) (hCont (v175) _ ⟨(by (with_reducible repeat (first | apply Kd.R_alloc | apply Kd.R_drewN | apply Kd.R_drew)); exact HO176.out), (by repeat (first | (with_reducible first | exact HB.out | apply below_alloc | apply pw_below_drewN | apply below_drew1) | exact HB.out))⟩)
      rintro v175 w10 ⟨h0_, h1_⟩
      have n0_ : Aside0 (Kd.R (Kd.int .u8) 5 w10 w.heap.size (fun _ => True) v175 y174) := ⟨h0_⟩
      have n1_ : Aside0 (Below w.heap.size w w10) := ⟨h1_⟩
      clear HB
      clear h0_ h1_
      have HO176 := n0_
      have HB := n1_
      clear n0_ n1_
      have hHeld := trivial
      refine norm_ (a' := ?_) ?_ ?_
      rotate_left
      · simp only [putAll, Act.put, List.setIfInBounds_toArray, List.set_cons_zero, List.set_cons_succ]
        rfl
      refine pure_ (i := 8) (N := some 13) (v := ?_) (a' := ?_) #[true, true, true, true, true, true, true, true, true, false] rfl rfl (any_of HT_.out (by kernel_rfl)) (fun _ _ _ h => h) (Or.inl ⟨by rfl, ?_⟩) ?_ ?_
      rotate_left
      · intro w'
        go_simp
        with_reducible rfl
      rotate_left
      · simp only [Act.put, List.setIfInBounds_toArray, List.set_cons_zero, List.set_cons_succ, i64_w, i32_w]
        rfl
      refine pure_ (i := 9) (N := some 2) (v := ?_) (a' := ?_) #[true, true, true, true, true, true, true, true, true, true] rfl rfl (any_of HT_.out (by kernel_rfl)) (fun _ _ _ h => h) (Or.inl ⟨by rfl, ?_⟩) ?_ ?_
      rotate_left
      · intro w'
        go_simp
        with_reducible rfl
      rotate_left
      · simp only [Act.put, List.setIfInBounds_toArray, List.set_cons_zero, List.set_cons_succ, i64_w, i32_w]
        rfl
      refine done_ (done_of HT_.out (by kernel_rfl)) ?_
      try go_wp2
      go_ret
      exact ⟨by first | rfl | (simp [errW_none, errW_some] <;> rfl) | (simp [*, errW_none, errW_some] <;> rfl), by repeat (first | (with_reducible first | exact HB.out | apply below_alloc | apply pw_below_drewN | apply below_drew1) | exact HB.out)⟩
    · rw [if_neg c4] at H
      exact absurd H (by simp)

/-! ### fastiref04_head: function 37 -/
def fastiref04_head.f (k : Nat) (a0 : Int) (a1 : Int) : Option (ByteArray) := (fastiref04_bytes.f k a1).bind fun t177 => ((some (([(wrap64 (a0 + (t177.size : Int))) % 256] : List Int) : List Int)).bind fun y178 => (if (strOfNums y178).size + t177.size ≤ 9223372036854775807 then (some ((strOfNums y178) ++ t177)) else (none)))
set_option maxHeartbeats 8000000 in
set_option maxRecDepth 100000 in
theorem fastiref04_head.calls (k : Nat) (a0 : Int) (a1 : Int) (r : ByteArray) (w : World) (h : fastiref04_head.f k a0 a1 = some r) :
    Calls Tryz.prog 37 #[.int .i64 a0, .int .i64 a1] w fun e w' => e = .returned (.string r) ∧ Below w.heap.size w w' := by
  have HB := Aside0.mk (Below.refl w.heap.size w)
  have H : ((fastiref04_bytes.f k a1).bind fun t177 => ((some (([(wrap64 (a0 + (t177.size : Int))) % 256] : List Int) : List Int)).bind fun y178 => (if (strOfNums y178).size + t177.size ≤ 9223372036854775807 then (some ((strOfNums y178) ++ t177)) else (none)))) = some r := h
  clear h
  replace H := Option.bind_eq_some_iff.mp H
  obtain ⟨t177, A30, H⟩ := H
  replace H : ((some (([(wrap64 (a0 + (t177.size : Int))) % 256] : List Int) : List Int)).bind fun y178 => (if (strOfNums y178).size + t177.size ≤ 9223372036854775807 then (some ((strOfNums y178) ++ t177)) else (none))) = some r := H
  have A3 := Aside0.mk A30
  clear A30
  obtain ⟨y178, hy178⟩ : ∃ y_ : List Int, y_ = (([(wrap64 (a0 + (t177.size : Int))) % 256] : List Int)) := ⟨_, rfl⟩
  replace H : (if (strOfNums y178).size + t177.size ≤ 9223372036854775807 then (some ((strOfNums y178) ++ t177)) else (none)) = some r := by first | (rw [hy178]; with_reducible exact H) | (have H2_ := (Option.bind_some _ _).symm.trans H; rw [hy178]; with_reducible exact H2_) | (have H2_ := (Option.bind_some _ _).symm.trans H; with_reducible exact H2_) | with_reducible exact H | (rw [hy178]; exact H) | exact H
  have Ny178 := Aside0.mk hy178
  clear hy178
  by_cases c4 : (strOfNums y178).size + t177.size ≤ 9223372036854775807
  · rw [if_pos c4] at H
    have c4b0 := eq_true c4
    have c4b1 : decide ((strOfNums y178).size + t177.size ≤ 9223372036854775807) = true := decide_eq_true c4
    try have c4b2 : (9223372036854775807 < (strOfNums y178).size + t177.size) = False := eq_false (Nat.not_lt.2 c4)
    obtain rfl := Option.some.inj H
    go_enter Tryz.func37, Tryz.ntmps37
    go_wp2_with (first | ((with_reducible refine gate_callee (f := 60) rfl ?_); refine goesL_ (some 7) rfl rfl Tryz.func60 (by kernel_rfl) rfl #[.int .i64 a1] rfl (by (try simp only [List.map_toArray, List.map_cons, List.map_nil]); first | done | rfl | (simp only [List.length_drop, List.length_take]; rfl)) ?_; (with_reducible refine (fastiref04_bytes.calls k a1 t177 _ A3.out).mono ?_); rintro e w5 ⟨rfl, hb⟩; refine ⟨_, rfl, ?_⟩; have n0_ := Aside0.mk (below_step (by repeat (first | (with_reducible first | exact HB.out | apply below_alloc | apply pw_below_drewN | apply below_drew1) | exact HB.out)) hb); clear HB; have HB := n0_; clear n0_; (try clear hb); (try clear hb2); (try clear hk); (try clear hi)) | ((with_reducible refine gate_dst (N := 13) rfl ?_); refine Kd.R_lit (Kd.int .u8) _ 5 ?hg (N := 13) ?hd (xs := ([(wrap64 (a0 + (t177.size : Int))) % 256] : List Int)) (inner := [.int .u8 ((wrap64 (a0 + (t177.size : Int))) % 256)]) (ok := fun _ => True) (okp := fun _ => True) ?hr ?hp (fun _ hk => hk) trivial (Below.refl _ _) (Nat.le_refl _) (by simp) ?_; (case hd => rfl); (case hg => rfl); (case hr => first | (go_simp; done) | (go_simp; rfl)); (case hp => exact (Reps.one (show Kd.M (Kd.int .u8) _ _ _ ((wrap64 (a0 + (t177.size : Int))) % 256) [.int .u8 ((wrap64 (a0 + (t177.size : Int))) % 256)] from rfl) (Reps.none _ _))); intro v179 w6 ho7 hb hg_ hnew_; clear hg_ hnew_; (first | rw [← Ny178.out] at ho7 | (simp only [Int.reduceToNat] at ho7; rw [← Ny178.out] at ho7)); have n0_ := Aside0.mk (Kd.R_lower ho7 (below_size (by repeat (first | (with_reducible first | exact HB.out | apply below_alloc | apply pw_below_drewN | apply below_drew1) | exact HB.out)))); have n1_ := Aside0.mk (below_step (by repeat (first | (with_reducible first | exact HB.out | apply below_alloc | apply pw_below_drewN | apply below_drew1) | exact HB.out)) hb); clear HB; have HO180 := n0_; have HB := n1_; clear n0_ n1_; clear hb ho7; have hcv8 := own_string (P := Tryz.prog) Tryz.underlying78 Tryz.underlying5 Tryz.underlying9 (Kd.own_of_R HO180.out)))
    go_ret
    exact ⟨by first | rfl | (simp [errW_none, errW_some] <;> rfl) | (simp [*, errW_none, errW_some] <;> rfl), by repeat (first | (with_reducible first | exact HB.out | apply below_alloc | apply pw_below_drewN | apply below_drew1) | exact HB.out)⟩
  · rw [if_neg c4] at H
    exact absurd H (by simp)

end Go.Proofs.YtgjlchcfdbmmlaaGreatDoor.PObjectPuts
