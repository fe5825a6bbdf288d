/- CellPuts, walked. -/
import Derived.Test.YtjelpapcboiimaaUR
import Derived.Test.YtjelpapcboiimaaUN
import Derived.Test.YtjelpapcboiimaaRn
namespace Go.Proofs.Ytjelpapcboiimaa.PCellPuts
open Go.RowKit Go.Proofs.Ytjelpapcboiimaa.Ord Go.Proofs.YtjelpapcboiimaaW.PrintWords Go.Proofs.YtjelpapcboiimaaW.PrintLast Go.Proofs.YtjelpapcboiimaaW.PrintMore
set_option linter.unusedVariables false
set_option linter.unusedSimpArgs false
attribute [local irreducible] OpGives
attribute [local go_sem] rdl_const rdl_func rdl_global rdl_nil rdl_cons

set_option maxRecDepth 100000 in
theorem num_exact (n : Int) (w : World) : Calls Try.prog 16 #[.int .i64 n] w fun e w' => e = .returned (.agg #[.int .i64 1, .int .i64 n, .string (⟨#[]⟩ : ByteArray), .slice none 0 0]) ∧ Below w.heap.size w w' := by
  go_enter Try.func16, Try.ntmps16
  go_wp2
  refine bodyPost_ret (results_cell_row rfl _ _ w.heap.size 25 #[.int .i64 1, .int .i64 n, .string (⟨#[]⟩ : ByteArray), .slice none 0 0] (0, 0) _ rfl (heap_alloc_last _ _) Try.underlying25 rfl (by kernel_rfl)) rfl ?_
  exact ⟨rfl, (Below.refl _ _).alloc (Nat.le_refl _) _⟩
/-- A list's cell whose row reads as these cells. -/
def rowListP (l : List S25) : Value → World → Prop := fun v W => ∃ A' c', v = .agg #[.int .i64 3, .int .i64 0, .string (⟨#[]⟩ : ByteArray), .slice A' l.length c'] ∧ Kd.C k25 W A' l.length l ∧ l.length ≤ c'
theorem rowListP_below {l : List S25} {v : Value} {W W' : World} (h : rowListP l v W) (hb : Below W.heap.size W W') : rowListP l v W' := by
  obtain ⟨A', c', e, hC, hc⟩ := h
  exact ⟨A', c', e, Kd.C_below hC hb, hc⟩
set_option maxHeartbeats 8000000 in
set_option maxRecDepth 100000 in
theorem cellPuts_walk (x : S25) (A : Option Addr) (c : Nat) (n : Int) (s : ByteArray) (w : World) (hA : Kd.C k25 w A x.f3.length x.f3) (hc : x.f3.length ≤ c) (hx : wfW x) (hn0 : -9223372036854775808 ≤ n) (hn1 : n ≤ 9223372036854775807) (hs : s.size ≤ 9223372036854775807) :
    Calls Try.prog 3 #[.agg #[.int .i64 x.f0, .int .i64 x.f1, .string x.f2, .slice A x.f3.length c], .int .i64 n, .string s] w fun e w' => e = .returned (.bool true) ∧ Below w.heap.size w w' := by
  obtain ⟨b, ⟨k, hk⟩, hb⟩ := small_any x hx
  obtain ⟨W1, hW1⟩ : ∃ W1, W1 = w.alloc (.cells #[.int .i64 x.f0, .int .i64 x.f1, .string x.f2, .slice A x.f3.length c] 25) := ⟨_, rfl⟩
  have hn1' : Below w.heap.size w W1 := by rw [hW1]; exact (Below.refl _ _).alloc (Nat.le_refl _) _
  have hg1 : W1.heap[w.heap.size]? = some (.cells #[.int .i64 x.f0, .int .i64 x.f1, .string x.f2, .slice A x.f3.length c] 25 (0, 0)) := by rw [hW1]; exact heap_alloc_last _ _
  have HS := Lib.hid (fastilaw04_small.calls k x.f0 x.f1 x.f2 A c x.f3 b W1 (Kd.C_below hA hn1') hc hk)
  have HW1 := Lib.hid hW1
  have HN1 := Lib.hid hn1'
  have HG1 := Lib.hid hg1
  have HA := Lib.hid hA
  have HB := Lib.hid hb
  clear hW1 hn1' hg1 hA hk hb
  have c0 : W1.cell? ⟨w.heap.size, 0, none⟩ = some (.int .i64 x.f0) := by rw [Lib.cell_of_heap HG1.out]; rfl
  have c1 : W1.cell? ⟨w.heap.size, 1, none⟩ = some (.int .i64 x.f1) := by rw [Lib.cell_of_heap HG1.out]; rfl
  have c2 : W1.cell? ⟨w.heap.size, 2, none⟩ = some (.string x.f2) := by rw [Lib.cell_of_heap HG1.out]; rfl
  have c3 : W1.cell? ⟨w.heap.size, 3, none⟩ = some (.slice A x.f3.length c) := by rw [Lib.cell_of_heap HG1.out]; rfl
  go_enter Try.func3, Try.ntmps3
  go_wp2_with fail
  rw [← HW1.out]
  go_wp2_with fail
  clear c0 c1 c2 c3
  refine HS.out.mono ?_
  rintro e W2 ⟨rfl, hb2⟩
  have hg2 := (hb2.block _ (Array.getElem?_eq_some_iff.1 HG1.out).1).trans HG1.out
  have B2 := Lib.hid (HN1.out.trans (hb2.mono HN1.out.size))
  have HG2 := Lib.hid hg2
  clear hg2 hb2
  have lives : ∀ W, Below w.heap.size w W → Calls Try.prog 8 #[] W fun e w' => e = .returned (.bool true) ∧ Below w.heap.size w w' := fun W hW => (lives_calls W).mono fun e w' ⟨he, hw⟩ => ⟨he, hW.trans (hw.mono hW.size)⟩
  have LV := Lib.hid lives
  clear lives
  cases b with
  | false =>
    go_wp2_with fail
    refine (LV.out W2 B2.out).mono ?_
    rintro e W3 ⟨rfl, hb3⟩
    go_wp2_with fail
    go_ret
    exact ⟨rfl, hb3⟩
  | true =>
    by_cases hsz : 1000 < s.size
    · go_wp2_with fail
      refine (LV.out W2 B2.out).mono ?_
      rintro e W3 ⟨rfl, hb3⟩
      go_wp2_with fail
      go_ret
      exact ⟨rfl, hb3⟩
    · obtain ⟨hp, hd⟩ := HB.out rfl
      have hxs := wfS_small x hx (by omega)
      have hel := enc_le x hxs
      obtain ⟨k1, hk1⟩ := Check_any x hx
      obtain ⟨k2, hk2⟩ := Put_ref x hxs (by omega)
      obtain ⟨k3, hk3⟩ := Check_ref x hx
      obtain ⟨k4, hk4⟩ := Size_ref x hxs (by omega)
      obtain ⟨q, hq⟩ : ∃ q : ByteArray, (⟨(putB (checkR x) x).toArray⟩ : ByteArray) = q := ⟨_, rfl⟩
      obtain ⟨m, hm⟩ : ∃ m : Nat, (putB (checkR x) x).length = m := ⟨_, rfl⟩
      have hput := fun W (hW : Below w.heap.size w W) => Put_calls k1 x A c (checkR x) W (Kd.C_below HA.out hW) hc hxs hk1 (fun _ => by omega)
      have hsize := fun W (hW : Below w.heap.size w W) => Size_calls k1 x A c (checkR x) W (Kd.C_below HA.out hW) hc hxs hk1 (fun _ => by omega)
      have hck := fun W (hW : Below w.heap.size w W) => cell_Check.calls k1 x.f0 x.f1 x.f2 A c x.f3 (checkR x) W (Kd.C_below HA.out hW) hc hk1
      have hpr := fun W (hW : Below w.heap.size w W) => fastiref04_Put.calls k2 x.f0 x.f1 x.f2 A c x.f3 ⟨(putB (checkR x) x).toArray⟩ (checkR x) W (Kd.C_below HA.out hW) hc hk2
      have hcr := fun W (hW : Below w.heap.size w W) => fastiref04_Check.calls k3 x.f0 x.f1 x.f2 A c x.f3 (checkR x) W (Kd.C_below HA.out hW) hc hk3
      have hsr := fun W (hW : Below w.heap.size w W) => fastiref04_Size.calls k4 x.f0 x.f1 x.f2 A c x.f3 ((putB (checkR x) x).length : Int) W (Kd.C_below HA.out hW) hc hk4
      simp only [hq] at hput hpr
      simp only [hm] at hsize hsr
      clear hk1 hk2 hk3 hk4 hq hm
      generalize checkR x = r at hput hsize hck hpr hcr hsr
      have HPUT := Lib.hid hput
      have HPR := Lib.hid hpr
      have HSIZE := Lib.hid hsize
      have HSR := Lib.hid hsr
      have HCK := Lib.hid hck
      have HCR := Lib.hid hcr
      clear hput hpr hsize hsr hck hcr
      have d0 : W2.cell? ⟨w.heap.size, 0, none⟩ = some (.int .i64 x.f0) := by rw [Lib.cell_of_heap HG2.out]; rfl
      have d1 : W2.cell? ⟨w.heap.size, 1, none⟩ = some (.int .i64 x.f1) := by rw [Lib.cell_of_heap HG2.out]; rfl
      have d2 : W2.cell? ⟨w.heap.size, 2, none⟩ = some (.string x.f2) := by rw [Lib.cell_of_heap HG2.out]; rfl
      have d3 : W2.cell? ⟨w.heap.size, 3, none⟩ = some (.slice A x.f3.length c) := by rw [Lib.cell_of_heap HG2.out]; rfl
      clear hel hxs
      go_wp2_with fail
      clear d0 d1 d2 d3
      refine (HPUT.out W2 B2.out).mono ?_
      rintro e W3 ⟨rfl, hb3⟩
      have hg3 := (hb3.block _ (Array.getElem?_eq_some_iff.1 HG2.out).1).trans HG2.out
      have B3 := Lib.hid (B2.out.trans (hb3.mono B2.out.size))
      have d0 : W3.cell? ⟨w.heap.size, 0, none⟩ = some (.int .i64 x.f0) := by rw [Lib.cell_of_heap hg3]; rfl
      have d1 : W3.cell? ⟨w.heap.size, 1, none⟩ = some (.int .i64 x.f1) := by rw [Lib.cell_of_heap hg3]; rfl
      have d2 : W3.cell? ⟨w.heap.size, 2, none⟩ = some (.string x.f2) := by rw [Lib.cell_of_heap hg3]; rfl
      have d3 : W3.cell? ⟨w.heap.size, 3, none⟩ = some (.slice A x.f3.length c) := by rw [Lib.cell_of_heap hg3]; rfl
      have HG3 := Lib.hid hg3
      clear hb3 hg3
      go_wp2_with fail
      clear d0 d1 d2 d3
      refine (HPR.out W3 B3.out).mono ?_
      rintro e W4 ⟨rfl, hb4⟩
      have hg4 := (hb4.block _ (Array.getElem?_eq_some_iff.1 HG3.out).1).trans HG3.out
      have B4 := Lib.hid (B3.out.trans (hb4.mono B3.out.size))
      have HG4 := Lib.hid hg4
      clear hb4 hg4
      go_wp2_with fail
      have hsame := fun (y : S25) (hy : wfW y) => Same_self y hy
      obtain ⟨kn, hkn⟩ := hsame ⟨1, n, ⟨#[]⟩, []⟩ (by rw [wfW, wfWL]; exact ⟨hn0, hn1, by decide, by decide, trivial⟩)
      obtain ⟨kt, hkt⟩ := hsame ⟨2, 0, s, []⟩ (by rw [wfW, wfWL]; exact ⟨by decide, by decide, hs, by decide, trivial⟩)
      obtain ⟨kl, hkl⟩ := hsame ⟨3, 0, ⟨#[]⟩, x.f3⟩ (by rw [wfW]; obtain ⟨_, _, _, h1, h2⟩ := wfW_parts hx; exact ⟨by decide, by decide, by decide, h1, h2⟩)
      have hnn := fun W => fastiref04_Same.calls kn 1 n ⟨#[]⟩ none 0 [] 1 n ⟨#[]⟩ none 0 [] true W (Kd.C_nil _ _) (Nat.le_refl _) (Kd.C_nil _ _) (Nat.le_refl _) hkn
      have htt := fun W => fastiref04_Same.calls kt 2 0 s none 0 [] 2 0 s none 0 [] true W (Kd.C_nil _ _) (Nat.le_refl _) (Kd.C_nil _ _) (Nat.le_refl _) hkt
      have hll := fun W A' c' (hW : Below w.heap.size w W) (hC : Kd.C k25 W A' x.f3.length x.f3) (hc' : x.f3.length ≤ c') => fastiref04_Same.calls kl 3 0 ⟨#[]⟩ A' c' x.f3 3 0 ⟨#[]⟩ A c x.f3 true W hC hc' (Kd.C_below HA.out hW) hc hkl
      have HNN := Lib.hid hnn
      have HTT := Lib.hid htt
      have HLL := Lib.hid hll
      have hlen := partsL_len x.f3
      have hpe := parts_eq x
      have hlist := fun W (hW : Below w.heap.size w W) => List_calls x.f3 A c W (Kd.C_below HA.out hW) hc (by omega)
      have HLI := Lib.hid hlist
      have hgz := (Array.getElem?_eq_some_iff.1 HG4.out).1
      have hin : ∀ W, Below W4.heap.size W4 W → Below w.heap.size w W := fun W hW => B4.out.trans (hW.mono B4.out.size)
      have hcl : ∀ W, Below W4.heap.size W4 W → W.cell? ⟨w.heap.size, 0, none⟩ = some (.int .i64 x.f0) ∧ W.cell? ⟨w.heap.size, 1, none⟩ = some (.int .i64 x.f1) ∧ W.cell? ⟨w.heap.size, 2, none⟩ = some (.string x.f2) ∧ W.cell? ⟨w.heap.size, 3, none⟩ = some (.slice A x.f3.length c) := fun W hW => by
        have hg := (hW.block _ hgz).trans HG4.out
        refine ⟨?_, ?_, ?_, ?_⟩ <;> (rw [Lib.cell_of_heap hg]; rfl)
      have HIN := Lib.hid hin
      have HCL := Lib.hid hcl
      clear hsame hkn hkt hkl hnn htt hll hlen hpe hlist hgz hin hcl hn0 hn1 hs hsz hx hp hd HG4 HG3 HG2 HPUT HPR
      refine' wp_region_factsW (sz := 78) (S := (fun _ W => Below W4.heap.size W4 W)) (fun _ W W' => Below W.heap.size W W') [eqM _, eqM _, eqM (.bool true), eqM (.bool true), eqM _, eqM _, eqM (.bool true), eqM (.bool true), eqM (.bool true), eqM (.agg #[.int .i64 x.f0, .int .i64 x.f1, .string x.f2, .slice A x.f3.length c]), eqM (.int .i64 r), eqM (.agg #[.int .i64 x.f0, .int .i64 x.f1, .string x.f2, .slice A x.f3.length c]), eqM (.int .i64 r), eqM (.bool true), eqM (.bool true), eqM (.bool true), eqM (.agg #[.int .i64 x.f0, .int .i64 x.f1, .string x.f2, .slice A x.f3.length c]), eqM (.int .i64 (m : Int)), eqM (.agg #[.int .i64 x.f0, .int .i64 x.f1, .string x.f2, .slice A x.f3.length c]), eqM (.int .i64 (m : Int)), eqM (.bool true), eqM (.bool true), eqM (.bool true), eqM _, eqM (.agg #[.int .i64 1, .int .i64 n, .string (⟨#[]⟩ : ByteArray), .slice none 0 0]), eqM _, eqM (.agg #[.int .i64 1, .int .i64 n, .string (⟨#[]⟩ : ByteArray), .slice none 0 0]), eqM (.bool true), eqM (.bool true), eqM (.bool true), eqM _, eqM (.agg #[.int .i64 2, .int .i64 0, .string s, .slice none 0 0]), eqM _, eqM (.agg #[.int .i64 2, .int .i64 0, .string s, .slice none 0 0]), eqM (.bool true), eqM (.bool true), eqM (.bool true), eqM _, eqM (.slice A x.f3.length c), rowListP x.f3, eqM _, eqM (.slice A x.f3.length c), eqM (.agg #[.int .i64 3, .int .i64 0, .string (⟨#[]⟩ : ByteArray), .slice A x.f3.length c]), eqM (.bool true), eqM (.bool true), eqM (.bool true), eqM (.bool true), eqM (.bool true)] (by kernel_rfl) (by kernel_rfl) rfl (guardsM_of [(3, true), (8, true), (15, true), (22, true), (29, true), (36, true), (45, true)] (n := 48) rfl (by kernel_rfl) ⟨fun _ _ h => h, fun _ _ h => h, fun _ _ h => h, fun _ _ h => h, fun _ _ h => h, fun _ _ h => h, fun _ _ h => h, trivial⟩) ?hst ?h0 (Ord.stepsW_cons ?s0 (Ord.stepsW_cons ?s1 (Ord.stepsW_cons ?s2 (Ord.stepsW_cons ?s3 (Ord.stepsW_cons ?s4 (Ord.stepsW_cons ?s5 (Ord.stepsW_cons ?s6 (Ord.stepsW_cons ?s7 (Ord.stepsW_cons ?s8 (Ord.stepsW_cons ?s9 (Ord.stepsW_cons ?s10 (Ord.stepsW_cons ?s11 (Ord.stepsW_cons ?s12 (Ord.stepsW_cons ?s13 (Ord.stepsW_cons ?s14 (Ord.stepsW_cons ?s15 (Ord.stepsW_cons ?s16 (Ord.stepsW_cons ?s17 (Ord.stepsW_cons ?s18 (Ord.stepsW_cons ?s19 (Ord.stepsW_cons ?s20 (Ord.stepsW_cons ?s21 (Ord.stepsW_cons ?s22 (Ord.stepsW_cons ?s23 (Ord.stepsW_cons ?s24 (Ord.stepsW_cons ?s25 (Ord.stepsW_cons ?s26 (Ord.stepsW_cons ?s27 (Ord.stepsW_cons ?s28 (Ord.stepsW_cons ?s29 (Ord.stepsW_cons ?s30 (Ord.stepsW_cons ?s31 (Ord.stepsW_cons ?s32 (Ord.stepsW_cons ?s33 (Ord.stepsW_cons ?s34 (Ord.stepsW_cons ?s35 (Ord.stepsW_cons ?s36 (Ord.stepsW_cons ?s37 (Ord.stepsW_cons ?s38 (Ord.stepsW_cons ?s39 (Ord.stepsW_cons ?s40 (Ord.stepsW_cons ?s41 (Ord.stepsW_cons ?s42 (Ord.stepsW_cons ?s43 (Ord.stepsW_cons ?s44 (Ord.stepsW_cons ?s45 (Ord.stepsW_cons ?s46 (Ord.stepsW_cons ?s47 (Ord.stepsW_nil))))))))))))))))))))))))))))))))))))))))))))))))) ?fin
      case s0 =>
        intro g W L hL hSW hd
        try simp only [Nat.zero_add, Nat.reduceAdd] at hd ⊢
        with_reducible refine OpGives.pre_reads [] 78 ?_ ?_ ?_
        · rfl
        · kernel_rfl
        simp only [List.map_cons, List.map_nil]
        refine OpGives.val (w' := W) ?_ ⟨Below.refl _ _, rfl, hSW⟩
        go_simp
        try with_reducible rfl
      case s1 =>
        intro g W L hL hSW hd
        try simp only [Nat.zero_add, Nat.reduceAdd] at hd ⊢
        with_reducible refine OpGives.pre_reads [] 78 ?_ ?_ ?_
        · rfl
        · kernel_rfl
        simp only [List.map_cons, List.map_nil]
        refine OpGives.val (w' := W) ?_ ⟨Below.refl _ _, rfl, hSW⟩
        go_simp
        try with_reducible rfl
      case s2 =>
        intro g W L hL hSW hd
        try simp only [Nat.zero_add, Nat.reduceAdd] at hd ⊢
        have h0 : g 0 = _ := hd 0 (by decide) (by kernel_rfl)
        have h1 : g 1 = _ := hd 1 (by decide) (by kernel_rfl)
        with_reducible refine OpGives.pre_reads [(30, 0), (31, 1)] 78 ?_ ?_ ?_
        · rfl
        · kernel_rfl
        simp only [List.map_cons, List.map_nil]
        refine OpGives.val (w' := W) ?_ ⟨Below.refl _ _, rfl, hSW⟩
        go_simp
        try with_reducible rfl
      case s3 =>
        intro g W L hL hSW hd
        try simp only [Nat.zero_add, Nat.reduceAdd] at hd ⊢
        have h2 : g 2 = _ := hd 2 (by decide) (by kernel_rfl)
        with_reducible refine OpGives.pre_reads [(32, 2)] 78 ?_ ?_ ?_
        · rfl
        · kernel_rfl
        simp only [List.map_cons, List.map_nil]
        refine OpGives.val (w' := W) ?_ ⟨Below.refl _ _, rfl, hSW⟩
        go_simp
        try with_reducible rfl
      case s4 =>
        intro g W L hL hSW hd
        try simp only [Nat.zero_add, Nat.reduceAdd] at hd ⊢
        with_reducible refine OpGives.pre_reads [] 78 ?_ ?_ ?_
        · rfl
        · kernel_rfl
        simp only [List.map_cons, List.map_nil]
        refine OpGives.val (w' := W) ?_ ⟨Below.refl _ _, rfl, hSW⟩
        go_simp
        try with_reducible rfl
      case s5 =>
        intro g W L hL hSW hd
        try simp only [Nat.zero_add, Nat.reduceAdd] at hd ⊢
        with_reducible refine OpGives.pre_reads [] 78 ?_ ?_ ?_
        · rfl
        · kernel_rfl
        simp only [List.map_cons, List.map_nil]
        refine OpGives.val (w' := W) ?_ ⟨Below.refl _ _, rfl, hSW⟩
        go_simp
        try with_reducible rfl
      case s6 =>
        intro g W L hL hSW hd
        try simp only [Nat.zero_add, Nat.reduceAdd] at hd ⊢
        have h4 : g 4 = _ := hd 4 (by decide) (by kernel_rfl)
        have h5 : g 5 = _ := hd 5 (by decide) (by kernel_rfl)
        with_reducible refine OpGives.pre_reads [(34, 4), (35, 5)] 78 ?_ ?_ ?_
        · rfl
        · kernel_rfl
        simp only [List.map_cons, List.map_nil]
        refine OpGives.val (w' := W) ?_ ⟨Below.refl _ _, rfl, hSW⟩
        go_simp
        try with_reducible rfl
      case s7 =>
        intro g W L hL hSW hd
        try simp only [Nat.zero_add, Nat.reduceAdd] at hd ⊢
        have h3 : g 3 = _ := hd 3 (by decide) (by kernel_rfl)
        have h6 : g 6 = _ := hd 6 (by decide) (by kernel_rfl)
        with_reducible refine OpGives.pre_reads [(33, 3), (36, 6)] 78 ?_ ?_ ?_
        · rfl
        · kernel_rfl
        simp only [List.map_cons, List.map_nil]
        refine OpGives.val (w' := W) ?_ ⟨Below.refl _ _, rfl, hSW⟩
        go_simp
        try with_reducible rfl
      case s8 =>
        intro g W L hL hSW hd
        try simp only [Nat.zero_add, Nat.reduceAdd] at hd ⊢
        have h7 : g 7 = _ := hd 7 (by decide) (by kernel_rfl)
        with_reducible refine OpGives.pre_reads [(37, 7)] 78 ?_ ?_ ?_
        · rfl
        · kernel_rfl
        simp only [List.map_cons, List.map_nil]
        refine OpGives.val (w' := W) ?_ ⟨Below.refl _ _, rfl, hSW⟩
        go_simp
        try with_reducible rfl
      case s9 =>
        intro g W L hL hSW hd
        try simp only [Nat.zero_add, Nat.reduceAdd] at hd ⊢
        with_reducible refine OpGives.pre_reads [] 78 ?_ ?_ ?_
        · rfl
        · kernel_rfl
        simp only [List.map_cons, List.map_nil]
        obtain ⟨z0, z1, z2, z3⟩ := HCL.out W hSW; refine OpGives.val (v := .agg #[.int .i64 x.f0, .int .i64 x.f1, .string x.f2, .slice A x.f3.length c]) (w' := W) ?_ ⟨Below.refl _ _, rfl, hSW⟩; go_simp
      case s10 =>
        intro g W L hL hSW hd
        try simp only [Nat.zero_add, Nat.reduceAdd] at hd ⊢
        have h9 : g 9 = _ := hd 9 (by decide) (by kernel_rfl)
        with_reducible refine OpGives.pre_reads [(39, 9)] 78 ?_ ?_ ?_
        · rfl
        · kernel_rfl
        simp only [List.map_cons, List.map_nil]
        refine OpGives.call (f := 11) (args := #[.agg #[.int .i64 x.f0, .int .i64 x.f1, .string x.f2, .slice A x.f3.length c]]) (w' := W) (by go_simp) ((HCK.out W (HIN.out W hSW)).mono fun e W' ⟨he, hb⟩ => ⟨_, he, hb, rfl, hSW.trans (hb.mono hSW.size)⟩)
      case s11 =>
        intro g W L hL hSW hd
        try simp only [Nat.zero_add, Nat.reduceAdd] at hd ⊢
        with_reducible refine OpGives.pre_reads [] 78 ?_ ?_ ?_
        · rfl
        · kernel_rfl
        simp only [List.map_cons, List.map_nil]
        obtain ⟨z0, z1, z2, z3⟩ := HCL.out W hSW; refine OpGives.val (v := .agg #[.int .i64 x.f0, .int .i64 x.f1, .string x.f2, .slice A x.f3.length c]) (w' := W) ?_ ⟨Below.refl _ _, rfl, hSW⟩; go_simp
      case s12 =>
        intro g W L hL hSW hd
        try simp only [Nat.zero_add, Nat.reduceAdd] at hd ⊢
        have h11 : g 11 = _ := hd 11 (by decide) (by kernel_rfl)
        with_reducible refine OpGives.pre_reads [(41, 11)] 78 ?_ ?_ ?_
        · rfl
        · kernel_rfl
        simp only [List.map_cons, List.map_nil]
        refine OpGives.call (f := 12) (args := #[.agg #[.int .i64 x.f0, .int .i64 x.f1, .string x.f2, .slice A x.f3.length c]]) (w' := W) (by go_simp) ((HCR.out W (HIN.out W hSW)).mono fun e W' ⟨he, hb⟩ => ⟨_, he, hb, rfl, hSW.trans (hb.mono hSW.size)⟩)
      case s13 =>
        intro g W L hL hSW hd
        try simp only [Nat.zero_add, Nat.reduceAdd] at hd ⊢
        have h10 : g 10 = _ := hd 10 (by decide) (by kernel_rfl)
        have h12 : g 12 = _ := hd 12 (by decide) (by kernel_rfl)
        with_reducible refine OpGives.pre_reads [(40, 10), (42, 12)] 78 ?_ ?_ ?_
        · rfl
        · kernel_rfl
        simp only [List.map_cons, List.map_nil]
        refine OpGives.val (w' := W) ?_ ⟨Below.refl _ _, rfl, hSW⟩
        go_simp
        try with_reducible rfl
      case s14 =>
        intro g W L hL hSW hd
        try simp only [Nat.zero_add, Nat.reduceAdd] at hd ⊢
        have h8 : g 8 = _ := hd 8 (by decide) (by kernel_rfl)
        have h13 : g 13 = _ := hd 13 (by decide) (by kernel_rfl)
        with_reducible refine OpGives.pre_reads [(38, 8), (43, 13)] 78 ?_ ?_ ?_
        · rfl
        · kernel_rfl
        simp only [List.map_cons, List.map_nil]
        refine OpGives.val (w' := W) ?_ ⟨Below.refl _ _, rfl, hSW⟩
        go_simp
        try with_reducible rfl
      case s15 =>
        intro g W L hL hSW hd
        try simp only [Nat.zero_add, Nat.reduceAdd] at hd ⊢
        have h14 : g 14 = _ := hd 14 (by decide) (by kernel_rfl)
        with_reducible refine OpGives.pre_reads [(44, 14)] 78 ?_ ?_ ?_
        · rfl
        · kernel_rfl
        simp only [List.map_cons, List.map_nil]
        refine OpGives.val (w' := W) ?_ ⟨Below.refl _ _, rfl, hSW⟩
        go_simp
        try with_reducible rfl
      case s16 =>
        intro g W L hL hSW hd
        try simp only [Nat.zero_add, Nat.reduceAdd] at hd ⊢
        with_reducible refine OpGives.pre_reads [] 78 ?_ ?_ ?_
        · rfl
        · kernel_rfl
        simp only [List.map_cons, List.map_nil]
        obtain ⟨z0, z1, z2, z3⟩ := HCL.out W hSW; refine OpGives.val (v := .agg #[.int .i64 x.f0, .int .i64 x.f1, .string x.f2, .slice A x.f3.length c]) (w' := W) ?_ ⟨Below.refl _ _, rfl, hSW⟩; go_simp
      case s17 =>
        intro g W L hL hSW hd
        try simp only [Nat.zero_add, Nat.reduceAdd] at hd ⊢
        have h16 : g 16 = _ := hd 16 (by decide) (by kernel_rfl)
        with_reducible refine OpGives.pre_reads [(46, 16)] 78 ?_ ?_ ?_
        · rfl
        · kernel_rfl
        simp only [List.map_cons, List.map_nil]
        refine OpGives.call (f := 13) (args := #[.agg #[.int .i64 x.f0, .int .i64 x.f1, .string x.f2, .slice A x.f3.length c]]) (w' := W) (by go_simp) ((HSIZE.out W (HIN.out W hSW)).mono fun e W' ⟨he, hb⟩ => ⟨_, he, hb, rfl, hSW.trans (hb.mono hSW.size)⟩)
      case s18 =>
        intro g W L hL hSW hd
        try simp only [Nat.zero_add, Nat.reduceAdd] at hd ⊢
        with_reducible refine OpGives.pre_reads [] 78 ?_ ?_ ?_
        · rfl
        · kernel_rfl
        simp only [List.map_cons, List.map_nil]
        obtain ⟨z0, z1, z2, z3⟩ := HCL.out W hSW; refine OpGives.val (v := .agg #[.int .i64 x.f0, .int .i64 x.f1, .string x.f2, .slice A x.f3.length c]) (w' := W) ?_ ⟨Below.refl _ _, rfl, hSW⟩; go_simp
      case s19 =>
        intro g W L hL hSW hd
        try simp only [Nat.zero_add, Nat.reduceAdd] at hd ⊢
        have h18 : g 18 = _ := hd 18 (by decide) (by kernel_rfl)
        with_reducible refine OpGives.pre_reads [(48, 18)] 78 ?_ ?_ ?_
        · rfl
        · kernel_rfl
        simp only [List.map_cons, List.map_nil]
        refine OpGives.call (f := 14) (args := #[.agg #[.int .i64 x.f0, .int .i64 x.f1, .string x.f2, .slice A x.f3.length c]]) (w' := W) (by go_simp) ((HSR.out W (HIN.out W hSW)).mono fun e W' ⟨he, hb⟩ => ⟨_, he, hb, rfl, hSW.trans (hb.mono hSW.size)⟩)
      case s20 =>
        intro g W L hL hSW hd
        try simp only [Nat.zero_add, Nat.reduceAdd] at hd ⊢
        have h17 : g 17 = _ := hd 17 (by decide) (by kernel_rfl)
        have h19 : g 19 = _ := hd 19 (by decide) (by kernel_rfl)
        with_reducible refine OpGives.pre_reads [(47, 17), (49, 19)] 78 ?_ ?_ ?_
        · rfl
        · kernel_rfl
        simp only [List.map_cons, List.map_nil]
        refine OpGives.val (w' := W) ?_ ⟨Below.refl _ _, rfl, hSW⟩
        go_simp
        try with_reducible rfl
      case s21 =>
        intro g W L hL hSW hd
        try simp only [Nat.zero_add, Nat.reduceAdd] at hd ⊢
        have h15 : g 15 = _ := hd 15 (by decide) (by kernel_rfl)
        have h20 : g 20 = _ := hd 20 (by decide) (by kernel_rfl)
        with_reducible refine OpGives.pre_reads [(45, 15), (50, 20)] 78 ?_ ?_ ?_
        · rfl
        · kernel_rfl
        simp only [List.map_cons, List.map_nil]
        refine OpGives.val (w' := W) ?_ ⟨Below.refl _ _, rfl, hSW⟩
        go_simp
        try with_reducible rfl
      case s22 =>
        intro g W L hL hSW hd
        try simp only [Nat.zero_add, Nat.reduceAdd] at hd ⊢
        have h21 : g 21 = _ := hd 21 (by decide) (by kernel_rfl)
        with_reducible refine OpGives.pre_reads [(51, 21)] 78 ?_ ?_ ?_
        · rfl
        · kernel_rfl
        simp only [List.map_cons, List.map_nil]
        refine OpGives.val (w' := W) ?_ ⟨Below.refl _ _, rfl, hSW⟩
        go_simp
        try with_reducible rfl
      case s23 =>
        intro g W L hL hSW hd
        try simp only [Nat.zero_add, Nat.reduceAdd] at hd ⊢
        with_reducible refine OpGives.pre_reads [] 78 ?_ ?_ ?_
        · rfl
        · kernel_rfl
        simp only [List.map_cons, List.map_nil]
        refine OpGives.val (w' := W) ?_ ⟨Below.refl _ _, rfl, hSW⟩
        go_simp
        try with_reducible rfl
      case s24 =>
        intro g W L hL hSW hd
        try simp only [Nat.zero_add, Nat.reduceAdd] at hd ⊢
        have h23 : g 23 = _ := hd 23 (by decide) (by kernel_rfl)
        with_reducible refine OpGives.pre_reads [(53, 23)] 78 ?_ ?_ ?_
        · rfl
        · kernel_rfl
        simp only [List.map_cons, List.map_nil]
        refine OpGives.call (f := 16) (args := #[.int .i64 n]) (w' := W) (by go_simp) ((num_exact n W).mono fun e W' ⟨he, hb⟩ => ⟨_, he, hb, rfl, hSW.trans (hb.mono hSW.size)⟩)
      case s25 =>
        intro g W L hL hSW hd
        try simp only [Nat.zero_add, Nat.reduceAdd] at hd ⊢
        with_reducible refine OpGives.pre_reads [] 78 ?_ ?_ ?_
        · rfl
        · kernel_rfl
        simp only [List.map_cons, List.map_nil]
        refine OpGives.val (w' := W) ?_ ⟨Below.refl _ _, rfl, hSW⟩
        go_simp
        try with_reducible rfl
      case s26 =>
        intro g W L hL hSW hd
        try simp only [Nat.zero_add, Nat.reduceAdd] at hd ⊢
        have h25 : g 25 = _ := hd 25 (by decide) (by kernel_rfl)
        with_reducible refine OpGives.pre_reads [(55, 25)] 78 ?_ ?_ ?_
        · rfl
        · kernel_rfl
        simp only [List.map_cons, List.map_nil]
        refine OpGives.val (w' := W) ?_ ⟨Below.refl _ _, rfl, hSW⟩
        go_simp
        try with_reducible rfl
      case s27 =>
        intro g W L hL hSW hd
        try simp only [Nat.zero_add, Nat.reduceAdd] at hd ⊢
        have h24 : g 24 = _ := hd 24 (by decide) (by kernel_rfl)
        have h26 : g 26 = _ := hd 26 (by decide) (by kernel_rfl)
        with_reducible refine OpGives.pre_reads [(54, 24), (56, 26)] 78 ?_ ?_ ?_
        · rfl
        · kernel_rfl
        simp only [List.map_cons, List.map_nil]
        refine OpGives.call (f := 15) (args := #[.agg #[.int .i64 1, .int .i64 n, .string (⟨#[]⟩ : ByteArray), .slice none 0 0], .agg #[.int .i64 1, .int .i64 n, .string (⟨#[]⟩ : ByteArray), .slice none 0 0]]) (w' := W) (by go_simp) ((HNN.out W).mono fun e W' ⟨he, hb⟩ => ⟨_, he, hb, rfl, hSW.trans (hb.mono hSW.size)⟩)
      case s28 =>
        intro g W L hL hSW hd
        try simp only [Nat.zero_add, Nat.reduceAdd] at hd ⊢
        have h22 : g 22 = _ := hd 22 (by decide) (by kernel_rfl)
        have h27 : g 27 = _ := hd 27 (by decide) (by kernel_rfl)
        with_reducible refine OpGives.pre_reads [(52, 22), (57, 27)] 78 ?_ ?_ ?_
        · rfl
        · kernel_rfl
        simp only [List.map_cons, List.map_nil]
        refine OpGives.val (w' := W) ?_ ⟨Below.refl _ _, rfl, hSW⟩
        go_simp
        try with_reducible rfl
      case s29 =>
        intro g W L hL hSW hd
        try simp only [Nat.zero_add, Nat.reduceAdd] at hd ⊢
        have h28 : g 28 = _ := hd 28 (by decide) (by kernel_rfl)
        with_reducible refine OpGives.pre_reads [(58, 28)] 78 ?_ ?_ ?_
        · rfl
        · kernel_rfl
        simp only [List.map_cons, List.map_nil]
        refine OpGives.val (w' := W) ?_ ⟨Below.refl _ _, rfl, hSW⟩
        go_simp
        try with_reducible rfl
      case s30 =>
        intro g W L hL hSW hd
        try simp only [Nat.zero_add, Nat.reduceAdd] at hd ⊢
        with_reducible refine OpGives.pre_reads [] 78 ?_ ?_ ?_
        · rfl
        · kernel_rfl
        simp only [List.map_cons, List.map_nil]
        refine OpGives.val (w' := W) ?_ ⟨Below.refl _ _, rfl, hSW⟩
        go_simp
        try with_reducible rfl
      case s31 =>
        intro g W L hL hSW hd
        try simp only [Nat.zero_add, Nat.reduceAdd] at hd ⊢
        have h30 : g 30 = _ := hd 30 (by decide) (by kernel_rfl)
        with_reducible refine OpGives.pre_reads [(60, 30)] 78 ?_ ?_ ?_
        · rfl
        · kernel_rfl
        simp only [List.map_cons, List.map_nil]
        refine OpGives.call (f := 17) (args := #[.string s]) (w' := W) (by go_simp) ((text_exact s W).mono fun e W' ⟨he, hb⟩ => ⟨_, he, hb, rfl, hSW.trans (hb.mono hSW.size)⟩)
      case s32 =>
        intro g W L hL hSW hd
        try simp only [Nat.zero_add, Nat.reduceAdd] at hd ⊢
        with_reducible refine OpGives.pre_reads [] 78 ?_ ?_ ?_
        · rfl
        · kernel_rfl
        simp only [List.map_cons, List.map_nil]
        refine OpGives.val (w' := W) ?_ ⟨Below.refl _ _, rfl, hSW⟩
        go_simp
        try with_reducible rfl
      case s33 =>
        intro g W L hL hSW hd
        try simp only [Nat.zero_add, Nat.reduceAdd] at hd ⊢
        have h32 : g 32 = _ := hd 32 (by decide) (by kernel_rfl)
        with_reducible refine OpGives.pre_reads [(62, 32)] 78 ?_ ?_ ?_
        · rfl
        · kernel_rfl
        simp only [List.map_cons, List.map_nil]
        refine OpGives.val (w' := W) ?_ ⟨Below.refl _ _, rfl, hSW⟩
        go_simp
        try with_reducible rfl
      case s34 =>
        intro g W L hL hSW hd
        try simp only [Nat.zero_add, Nat.reduceAdd] at hd ⊢
        have h31 : g 31 = _ := hd 31 (by decide) (by kernel_rfl)
        have h33 : g 33 = _ := hd 33 (by decide) (by kernel_rfl)
        with_reducible refine OpGives.pre_reads [(61, 31), (63, 33)] 78 ?_ ?_ ?_
        · rfl
        · kernel_rfl
        simp only [List.map_cons, List.map_nil]
        refine OpGives.call (f := 15) (args := #[.agg #[.int .i64 2, .int .i64 0, .string s, .slice none 0 0], .agg #[.int .i64 2, .int .i64 0, .string s, .slice none 0 0]]) (w' := W) (by go_simp) ((HTT.out W).mono fun e W' ⟨he, hb⟩ => ⟨_, he, hb, rfl, hSW.trans (hb.mono hSW.size)⟩)
      case s35 =>
        intro g W L hL hSW hd
        try simp only [Nat.zero_add, Nat.reduceAdd] at hd ⊢
        have h29 : g 29 = _ := hd 29 (by decide) (by kernel_rfl)
        have h34 : g 34 = _ := hd 34 (by decide) (by kernel_rfl)
        with_reducible refine OpGives.pre_reads [(59, 29), (64, 34)] 78 ?_ ?_ ?_
        · rfl
        · kernel_rfl
        simp only [List.map_cons, List.map_nil]
        refine OpGives.val (w' := W) ?_ ⟨Below.refl _ _, rfl, hSW⟩
        go_simp
        try with_reducible rfl
      case s36 =>
        intro g W L hL hSW hd
        try simp only [Nat.zero_add, Nat.reduceAdd] at hd ⊢
        have h35 : g 35 = _ := hd 35 (by decide) (by kernel_rfl)
        with_reducible refine OpGives.pre_reads [(65, 35)] 78 ?_ ?_ ?_
        · rfl
        · kernel_rfl
        simp only [List.map_cons, List.map_nil]
        refine OpGives.val (w' := W) ?_ ⟨Below.refl _ _, rfl, hSW⟩
        go_simp
        try with_reducible rfl
      case s37 =>
        intro g W L hL hSW hd
        try simp only [Nat.zero_add, Nat.reduceAdd] at hd ⊢
        with_reducible refine OpGives.pre_reads [] 78 ?_ ?_ ?_
        · rfl
        · kernel_rfl
        simp only [List.map_cons, List.map_nil]
        refine OpGives.val (w' := W) ?_ ⟨Below.refl _ _, rfl, hSW⟩
        go_simp
        try with_reducible rfl
      case s38 =>
        intro g W L hL hSW hd
        try simp only [Nat.zero_add, Nat.reduceAdd] at hd ⊢
        have h37 : g 37 = _ := hd 37 (by decide) (by kernel_rfl)
        with_reducible refine OpGives.pre_reads [(67, 37)] 78 ?_ ?_ ?_
        · rfl
        · kernel_rfl
        simp only [List.map_cons, List.map_nil]
        obtain ⟨z0, z1, z2, z3⟩ := HCL.out W hSW; refine OpGives.val (v := .slice A x.f3.length c) (w' := W) ?_ ⟨Below.refl _ _, rfl, hSW⟩; go_simp
      case s39 =>
        intro g W L hL hSW hd
        try simp only [Nat.zero_add, Nat.reduceAdd] at hd ⊢
        have h38 : g 38 = _ := hd 38 (by decide) (by kernel_rfl)
        with_reducible refine OpGives.pre_reads [(68, 38)] 78 ?_ ?_ ?_
        · rfl
        · kernel_rfl
        simp only [List.map_cons, List.map_nil]
        refine OpGives.call (f := 18) (args := #[.slice A x.f3.length c]) (w' := W) (by go_simp) ((HLI.out W (HIN.out W hSW)).mono fun e W' ⟨A', c', he, hC, hc', hb⟩ => ⟨_, he, hb, ⟨A', c', rfl, hC, hc'⟩, hSW.trans (hb.mono hSW.size)⟩)
      case s40 =>
        intro g W L hL hSW hd
        try simp only [Nat.zero_add, Nat.reduceAdd] at hd ⊢
        with_reducible refine OpGives.pre_reads [] 78 ?_ ?_ ?_
        · rfl
        · kernel_rfl
        simp only [List.map_cons, List.map_nil]
        refine OpGives.val (w' := W) ?_ ⟨Below.refl _ _, rfl, hSW⟩
        go_simp
        try with_reducible rfl
      case s41 =>
        intro g W L hL hSW hd
        try simp only [Nat.zero_add, Nat.reduceAdd] at hd ⊢
        have h40 : g 40 = _ := hd 40 (by decide) (by kernel_rfl)
        with_reducible refine OpGives.pre_reads [(70, 40)] 78 ?_ ?_ ?_
        · rfl
        · kernel_rfl
        simp only [List.map_cons, List.map_nil]
        obtain ⟨z0, z1, z2, z3⟩ := HCL.out W hSW; refine OpGives.val (v := .slice A x.f3.length c) (w' := W) ?_ ⟨Below.refl _ _, rfl, hSW⟩; go_simp
      case s42 =>
        intro g W L hL hSW hd
        try simp only [Nat.zero_add, Nat.reduceAdd] at hd ⊢
        have h41 : g 41 = _ := hd 41 (by decide) (by kernel_rfl)
        with_reducible refine OpGives.pre_reads [(71, 41)] 78 ?_ ?_ ?_
        · rfl
        · kernel_rfl
        simp only [List.map_cons, List.map_nil]
        refine OpGives.val (w' := W) ?_ ⟨Below.refl _ _, rfl, hSW⟩
        go_simp
        try with_reducible rfl
      case s43 =>
        intro g W L hL hSW hd
        try simp only [Nat.zero_add, Nat.reduceAdd] at hd ⊢
        have h39 := hd 39 (by decide) (by kernel_rfl)
        change (rowListP x.f3) (g 39) W at h39
        have h42 : g 42 = _ := hd 42 (by decide) (by kernel_rfl)
        with_reducible refine OpGives.pre_reads [(69, 39), (72, 42)] 78 ?_ ?_ ?_
        · rfl
        · kernel_rfl
        simp only [List.map_cons, List.map_nil]
        obtain ⟨A', c', e39, hC39, hc39⟩ := h39; rw [e39]; refine OpGives.call (f := 15) (args := #[.agg #[.int .i64 3, .int .i64 0, .string (⟨#[]⟩ : ByteArray), .slice A' x.f3.length c'], .agg #[.int .i64 3, .int .i64 0, .string (⟨#[]⟩ : ByteArray), .slice A x.f3.length c]]) (w' := W) (by go_simp) ((HLL.out W A' c' (HIN.out W hSW) hC39 hc39).mono fun e W' ⟨he, hb⟩ => ⟨_, he, hb, rfl, hSW.trans (hb.mono hSW.size)⟩)
      case s44 =>
        intro g W L hL hSW hd
        try simp only [Nat.zero_add, Nat.reduceAdd] at hd ⊢
        have h36 : g 36 = _ := hd 36 (by decide) (by kernel_rfl)
        have h43 : g 43 = _ := hd 43 (by decide) (by kernel_rfl)
        with_reducible refine OpGives.pre_reads [(66, 36), (73, 43)] 78 ?_ ?_ ?_
        · rfl
        · kernel_rfl
        simp only [List.map_cons, List.map_nil]
        refine OpGives.val (w' := W) ?_ ⟨Below.refl _ _, rfl, hSW⟩
        go_simp
        try with_reducible rfl
      case s45 =>
        intro g W L hL hSW hd
        try simp only [Nat.zero_add, Nat.reduceAdd] at hd ⊢
        have h44 : g 44 = _ := hd 44 (by decide) (by kernel_rfl)
        with_reducible refine OpGives.pre_reads [(74, 44)] 78 ?_ ?_ ?_
        · rfl
        · kernel_rfl
        simp only [List.map_cons, List.map_nil]
        refine OpGives.val (w' := W) ?_ ⟨Below.refl _ _, rfl, hSW⟩
        go_simp
        try with_reducible rfl
      case s46 =>
        intro g W L hL hSW hd
        try simp only [Nat.zero_add, Nat.reduceAdd] at hd ⊢
        with_reducible refine OpGives.pre_reads [] 78 ?_ ?_ ?_
        · rfl
        · kernel_rfl
        simp only [List.map_cons, List.map_nil]
        refine OpGives.call (f := 8) (args := #[]) (w' := W) (by go_simp) ((lives_calls W).mono fun e W' ⟨he, hb⟩ => ⟨_, he, hb, rfl, hSW.trans (hb.mono hSW.size)⟩)
      case s47 =>
        intro g W L hL hSW hd
        try simp only [Nat.zero_add, Nat.reduceAdd] at hd ⊢
        have h45 : g 45 = _ := hd 45 (by decide) (by kernel_rfl)
        have h46 : g 46 = _ := hd 46 (by decide) (by kernel_rfl)
        with_reducible refine OpGives.pre_reads [(75, 45), (76, 46)] 78 ?_ ?_ ?_
        · rfl
        · kernel_rfl
        simp only [List.map_cons, List.map_nil]
        refine OpGives.val (w' := W) ?_ ⟨Below.refl _ _, rfl, hSW⟩
        go_simp
        try with_reducible rfl
      case hst =>
        refine fun i j v w w' _ h hR => st_of (R := fun W W' => Below W.heap.size W W') ?_ i v w w' h hR
        repeat' first
          | exact trivial
          | with_reducible refine StL.eq ?_
          | refine ⟨fun v w w' h hR => rowListP_below h hR, ?_⟩
      case h0 => exact (Below.refl _ _).drew
      case fin =>
        intro v W L hL hSW hf
        have h47 : v 47 = _ := hf 47 (Nat.lt_of_lt_of_eq (by decide : 47 < 48) rfl)
        clear hf
        generalize hF : Ord.pre _ _ v _ = F
        rw [Ord.pre_lit [some 30, some 31, some 32, some 33, some 34, some 35, some 36, some 37, some 38, some 39, some 40, some 41, some 42, some 43, some 44, some 45, some 46, some 47, some 48, some 49, some 50, some 51, some 52, some 53, some 54, some 55, some 56, some 57, some 58, some 59, some 60, some 61, some 62, some 63, some 64, some 65, some 66, some 67, some 68, some 69, some 70, some 71, some 72, some 73, some 74, some 75, some 76, some 77]
          (by kernel_rfl)] at hF
        simp only [Ord.puts, Nat.zero_add, Nat.reduceAdd] at hF
        subst hF
        rw [h47]
        have HS8 := Lib.hid (HIN.out W hSW)
        clear hSW h47
        refine any_one (i := 48) (by kernel_rfl) ?_
        refine wpOp_value (v := .bool true) (w' := W) rfl rfl (by go_simp) ?_
        refine wpAny_done (by kernel_rfl) ?_ _
        try simp only [List.getElem_toArray, List.getElem_cons_succ, List.getElem_cons_zero]
        go_frame
        go_wp2_with fail
        go_ret
        exact ⟨rfl, HS8.out⟩
end Go.Proofs.Ytjelpapcboiimaa.PCellPuts
