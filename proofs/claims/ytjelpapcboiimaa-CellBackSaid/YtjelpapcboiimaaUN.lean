/- lives: the chapter's examples. -/
import Derived.Test.YtjelpapcboiimaaUM
namespace Go.Proofs.Ytjelpapcboiimaa.PCellPuts
open Go.RowKit Go.Proofs.Ytjelpapcboiimaa.Ord Go.Proofs.YtjelpapcboiimaaW.PrintWords Go.Proofs.YtjelpapcboiimaaW.PrintLast Go.Proofs.YtjelpapcboiimaaW.PrintMore
set_option linter.unusedVariables false
set_option linter.unusedSimpArgs false

theorem empty_list : (⟨#[]⟩ : ByteArray).toList = [] := by
  unfold ByteArray.toList ByteArray.toList.loop
  simp [ByteArray.size]
theorem bes300 : bes 300 = [1, 44] := by
  rw [bes_pos (by decide), show 300 / 256 = 1 by decide, bes_pos (by decide), show 1 / 256 = 0 by decide, bes_zero]; rfl
theorem bes2 : bes 2 = [2] := by rw [bes_pos (by decide), show 2 / 256 = 0 by decide, bes_zero]; rfl
theorem bes1 : bes 1 = [1] := by rw [bes_pos (by decide), show 1 / 256 = 0 by decide, bes_zero]; rfl
theorem put300 : putB 0 ⟨1, 300, ⟨#[]⟩, []⟩ = [18, 1, 44] := by
  unfold putB; rw [if_pos rfl, encS, if_pos rfl, if_neg (by decide)]
  show headB 1 300 = _
  unfold headB; rw [bes300]; rfl
theorem putneg : putB 0 ⟨1, -1, ⟨#[]⟩, []⟩ = [32] := by
  unfold putB; rw [if_pos rfl, encS, if_pos rfl, if_pos (by decide)]
  show headB 2 0 = _
  unfold headB; rw [bes_zero]; rfl
theorem putlist : putB 0 ⟨3, 0, ⟨#[]⟩, [⟨1, 1, ⟨#[]⟩, []⟩, ⟨2, 0, ⟨#[]⟩, []⟩]⟩ = [65, 2, 17, 1, 48] := by
  unfold putB
  rw [if_pos rfl, encS, if_neg (by decide), if_neg (by decide), encL, encL, encL, encS, if_pos rfl, if_neg (by decide), encS, if_neg (by decide), if_pos rfl]
  show headB 4 2 ++ (headB 1 1 ++ (headB 3 0 ++ [] ++ [])) = _
  unfold headB; rw [bes2, bes1, bes_zero]; rfl
theorem check_num (n : Int) : cell_Check.f 2 1 n ⟨#[]⟩ [] = some 0 := by
  simp [cell_Check.f, cell_check.f, empty_list]
theorem check_list : cell_Check.f 5 3 0 ⟨#[]⟩ [⟨1, 1, ⟨#[]⟩, []⟩, ⟨2, 0, ⟨#[]⟩, []⟩] = some 0 := by
  simp [cell_Check.f, cell_check.f, cell_check.l0, empty_list, rd_T25, wrap64, ByteArray.size]
theorem next_ex : nextR ⟨#[120, 49, 2, 97, 98, 121]⟩ 1 = (⟨2, 0, ⟨#[97, 98]⟩, []⟩, 5, 0) := by rfl
theorem same_ab : fastiref04_Same.f 3 2 0 ⟨#[97, 98]⟩ [] 2 0 ⟨#[97, 98]⟩ [] = some true := by
  simp [fastiref04_Same.f, fastiref04_Same.l0, fastiref04_Same.j0]
theorem R_C {α : Type} {d : Kd α} {e : Nat} {w : World} {base : Nat} {ok : Nat → Prop} {A : Option Addr} {n c : Nat} {xs : List α} (h : d.R e w base ok (.slice A n c) xs) : d.C w A xs.length xs ∧ xs.length ≤ c := by
  obtain ⟨A', c', hv, hl, hr⟩ := Kd.R_reads h
  injection hv with h1 h2 h3
  subst h1; subst h3
  exact ⟨hr, hl⟩
theorem num_calls (n : Int) (w : World) : Calls Try.prog 16 #[.int .i64 n] w fun e w' => ∃ A c, e = .returned (.agg #[.int .i64 1, .int .i64 n, .string (⟨#[]⟩ : ByteArray), .slice A 0 c]) ∧ Kd.C k25 w' A 0 [] ∧ Below w.heap.size w w' := by
  refine (cell_Num.calls n 1 n ⟨#[]⟩ [] w rfl).mono ?_
  rintro e W1 ⟨v1, rfl, hR1, hb1⟩
  obtain ⟨A1, c1, rfl⟩ := R_slice hR1
  exact ⟨A1, c1, rfl, (R_C hR1).1, hb1⟩
theorem text_calls (s : ByteArray) (w : World) : Calls Try.prog 17 #[.string s] w fun e w' => ∃ A c, e = .returned (.agg #[.int .i64 2, .int .i64 0, .string s, .slice A 0 c]) ∧ Kd.C k25 w' A 0 [] ∧ Below w.heap.size w w' := by
  refine (cell_Text.calls s 2 0 s [] w rfl).mono ?_
  rintro e W1 ⟨v1, rfl, hR1, hb1⟩
  obtain ⟨A1, c1, rfl⟩ := R_slice hR1
  exact ⟨A1, c1, rfl, (R_C hR1).1, hb1⟩
theorem putnum_calls (n : Int) (l : List UInt8) (A : Option Addr) (c : Nat) (w : World) (hA : Kd.C k25 w A 0 []) (hn0 : -9223372036854775808 ≤ n) (hn1 : n ≤ 9223372036854775807) (hp : putB 0 ⟨1, n, ⟨#[]⟩, []⟩ = l) (hl : l.length ≤ 100) :
    Calls Try.prog 9 #[.agg #[.int .i64 1, .int .i64 n, .string (⟨#[]⟩ : ByteArray), .slice A 0 c]] w fun e w' => e = .returned (.tuple #[.string ⟨l.toArray⟩, .int .i64 0]) ∧ Below w.heap.size w w' := by
  have h := Put_calls 2 ⟨1, n, ⟨#[]⟩, []⟩ A c 0 w hA (Nat.zero_le _) (by rw [wfS]; exact ⟨hn0, hn1, by decide, by decide, by rw [wfL]; trivial⟩) (check_num n) (fun _ => by
    have hp' := hp
    unfold putB at hp'
    rw [if_pos rfl] at hp'
    rw [hp']; omega)
  rw [hp] at h
  exact h
def twoX : List S25 := [⟨1, 1, ⟨#[]⟩, []⟩, ⟨2, 0, ⟨#[]⟩, []⟩]
theorem two_reads {W : World} {A A' : Option Addr} {c c' g : Nat} (hg : W.heap[g]? = some (.cells #[.int .i64 1, .int .i64 1, .string (⟨#[]⟩ : ByteArray), .slice A 0 c, .int .i64 2, .int .i64 0, .string (⟨#[]⟩ : ByteArray), .slice A' 0 c'] 25 (0, 0)))
    (h1 : Kd.C k25 W A 0 []) (h2 : Kd.C k25 W A' 0 []) : Kd.C k25 W (some ⟨g, 0, none⟩) 2 twoX := by
  refine ⟨rfl, by decide, fun _ => ⟨_, rfl, fun j p hj => ?_⟩⟩
  have cell : ∀ k u, #[Value.int .i64 1, .int .i64 1, .string (⟨#[]⟩ : ByteArray), .slice A 0 c, .int .i64 2, .int .i64 0, .string (⟨#[]⟩ : ByteArray), .slice A' 0 c'][k]? = some u → W.cell? ⟨g, k, none⟩ = some u := fun k u hu => by rw [Lib.cell_of_heap hg]; exact hu
  match j, hj with
  | 0, hj =>
    injection hj with hj; subst hj
    refine ⟨[.int .i64 1, .int .i64 1, .string (⟨#[]⟩ : ByteArray), .slice A 0 c], rfl, k25_mk W ⟨1, 1, ⟨#[]⟩, []⟩ (Nat.zero_le _) h1, fun i u hu => ?_⟩
    match i, hu with
    | 0, hu => injection hu with hu; subst hu; exact cell 0 _ rfl
    | 1, hu => injection hu with hu; subst hu; exact cell 1 _ rfl
    | 2, hu => injection hu with hu; subst hu; exact cell 2 _ rfl
    | 3, hu => injection hu with hu; subst hu; exact cell 3 _ rfl
  | 1, hj =>
    injection hj with hj; subst hj
    refine ⟨[.int .i64 2, .int .i64 0, .string (⟨#[]⟩ : ByteArray), .slice A' 0 c'], rfl, k25_mk W ⟨2, 0, ⟨#[]⟩, []⟩ (Nat.zero_le _) h2, fun i u hu => ?_⟩
    match i, hu with
    | 0, hu => injection hu with hu; subst hu; exact cell 4 _ rfl
    | 1, hu => injection hu with hu; subst hu; exact cell 5 _ rfl
    | 2, hu => injection hu with hu; subst hu; exact cell 6 _ rfl
    | 3, hu => injection hu with hu; subst hu; exact cell 7 _ rfl
theorem putlist_calls (A : Option Addr) (c : Nat) (w : World) (hA : Kd.C k25 w A 2 twoX) (hc : 2 ≤ c) :
    Calls Try.prog 9 #[.agg #[.int .i64 3, .int .i64 0, .string (⟨#[]⟩ : ByteArray), .slice A 2 c]] w fun e w' => e = .returned (.tuple #[.string ⟨#[65, 2, 17, 1, 48]⟩, .int .i64 0]) ∧ Below w.heap.size w w' := by
  have hp : putB 0 ⟨3, 0, ⟨#[]⟩, twoX⟩ = [65, 2, 17, 1, 48] := putlist
  have h := Put_calls 5 ⟨3, 0, ⟨#[]⟩, twoX⟩ A c 0 w hA hc (by
    rw [wfS]
    refine ⟨by decide, by decide, by decide, by decide, ?_⟩
    unfold twoX
    rw [wfL, wfL, wfL, wfS, wfS, wfL]
    exact ⟨⟨by decide, by decide, by decide, by decide, trivial⟩, ⟨by decide, by decide, by decide, by decide, trivial⟩, trivial⟩) check_list (fun _ => by
    have hp' := hp
    unfold putB at hp'
    rw [if_pos rfl] at hp'
    rw [hp']; decide)
  rw [hp] at h
  exact h
theorem listtwo_calls (A : Option Addr) (c : Nat) (w : World) (hA : Kd.C k25 w A 2 twoX) (hc : 2 ≤ c) :
    Calls Try.prog 18 #[.slice A 2 c] w fun e w' => ∃ A' c', e = .returned (.agg #[.int .i64 3, .int .i64 0, .string (⟨#[]⟩ : ByteArray), .slice A' 2 c']) ∧ Kd.C k25 w' A' 2 twoX ∧ 2 ≤ c' ∧ Below w.heap.size w w' := List_calls twoX A c w hA hc (by decide)
theorem next_calls_ex (w : World) : Calls Try.prog 19 #[.string ⟨#[120, 49, 2, 97, 98, 121]⟩, .int .i64 1] w fun e w' => ∃ A c, e = .returned (.tuple #[.agg #[.int .i64 2, .int .i64 0, .string ⟨#[97, 98]⟩, .slice A 0 c], .int .i64 5, .int .i64 0]) ∧ Kd.C k25 w' A 0 [] ∧ Below w.heap.size w w' := by
  refine (Next_calls ⟨#[120, 49, 2, 97, 98, 121]⟩ 1 w (by decide) (by decide) (by decide)).mono ?_
  rw [next_ex]
  rintro e W ⟨v3, rfl, hR, hb⟩
  obtain ⟨A, c, rfl⟩ := R_slice hR
  exact ⟨A, c, rfl, (R_C hR).1, hb⟩
set_option maxRecDepth 100000 in
theorem text_exact (s : ByteArray) (w : World) : Calls Try.prog 17 #[.string s] w fun e w' => e = .returned (.agg #[.int .i64 2, .int .i64 0, .string s, .slice none 0 0]) ∧ Below w.heap.size w w' := by
  go_enter Try.func17, Try.ntmps17
  go_wp2
  refine bodyPost_ret (results_cell_row rfl _ _ w.heap.size 25 #[.int .i64 2, .int .i64 0, .string s, .slice none 0 0] (0, 0) _ rfl (heap_alloc_last _ _) Try.underlying25 rfl (by kernel_rfl)) rfl ?_
  exact ⟨rfl, (Below.refl _ _).alloc (Nat.le_refl _) _⟩
theorem quiet_val {P : Program} {o : Oper} {a : Act} {C : World → Prop} {K : Act → Prop} {v : Value} (h : ∀ w, C w → (execOp a.eval o).run P w = .ok (.value v) w) (hk : K (a.put o.dst v)) : o.quiet P a C K :=
  ⟨v, fun w hw => by unfold Oper.quietAt Oper.quietUpon; rw [h w hw]; exact ⟨rfl, rfl⟩, hk⟩
theorem quiet_call {P : Program} {o : Oper} {a : Act} {C : World → Prop} {K : Act → Prop} {v : Value} {f : FuncId} {args : Array Value} (h : ∀ w, C w → (execOp a.eval o).run P w = .ok (.enter f args) w) (hc : ∀ w, C w → Calls P f args w fun e w' => e = .returned v ∧ C w') (hk : K (a.put o.dst v)) : o.quiet P a C K :=
  ⟨v, fun w hw => by unfold Oper.quietAt Oper.quietUpon; rw [h w hw]; exact ⟨rfl, hc w hw⟩, hk⟩
theorem region_quiet_lit {P : Program} {C : World → Prop} {id : Nat} {Q : Exit → Act → World → Prop} {a : Act} {w : World} {l : List Oper} (hm : P.follows .mixedOrders = true) (hB : Region.lexB .any l.toArray = true) (hC : C w.drew)
    (h : wpQuiet P l.toArray C (fun a' => ∀ w', C w' → Q .normal a' w') l a) : (Code.region id l.toArray true).wp P Q a w :=
  wp_region_quiet (C := C) hm hB hC (by simpa using h)
set_option maxHeartbeats 8000000 in
set_option maxRecDepth 100000 in
theorem lives_calls (w : World) : Calls Try.prog 8 #[] w fun e w' => e = .returned (.bool true) ∧ Below w.heap.size w w' := by
  go_enter Try.func8, Try.ntmps8
  go_wp2_with fail
  refine (num_calls 300 w).mono ?_
  rintro e W1 ⟨A1, c1, rfl, hC1, hb1⟩
  go_wp2_with fail
  refine (putnum_calls 300 _ A1 c1 W1 hC1 (by decide) (by decide) put300 (by decide)).mono ?_
  rintro e W2 ⟨rfl, hb2⟩
  have B2 := Lib.hid (hb1.trans (hb2.mono hb1.size))
  clear hb1 hb2 hC1
  go_wp2_with fail
  refine (num_calls 1 W2).mono ?_
  rintro e W3 ⟨A3, c3, rfl, hC3, hb3⟩
  have B3 := Lib.hid (B2.out.trans (hb3.mono B2.out.size))
  clear hb3
  go_wp2_with fail
  refine (text_calls ⟨#[]⟩ W3).mono ?_
  rintro e W4 ⟨A4, c4, rfl, hC4, hb4⟩
  have hC3' := Kd.C_below hC3 hb4
  have B4 := Lib.hid (B3.out.trans (hb4.mono B3.out.size))
  clear hb4 hC3
  obtain ⟨W5, hW5⟩ : ∃ W5, W5 = W4.alloc (.cells #[.int .i64 1, .int .i64 1, .string (⟨#[]⟩ : ByteArray), .slice A3 0 c3, .int .i64 2, .int .i64 0, .string (⟨#[]⟩ : ByteArray), .slice A4 0 c4] 25) := ⟨_, rfl⟩
  have hn5 : Below W4.heap.size W4 W5 := by rw [hW5]; exact (Below.refl _ _).alloc (Nat.le_refl _) _
  have h5 := two_reads (W := W5) (g := W4.heap.size) (A := A3) (c := c3) (A' := A4) (c' := c4) (by rw [hW5]; exact heap_alloc_last _ _) (Kd.C_below hC3' hn5) (Kd.C_below hC4 hn5)
  have B5 := Lib.hid (B4.out.trans (hn5.mono B4.out.size))
  have HL := Lib.hid (listtwo_calls (some ⟨W4.heap.size, 0, none⟩) 2 W5 h5 (Nat.le_refl _))
  have HW5 := Lib.hid hW5
  clear hW5 hn5 h5 hC3' hC4
  go_wp2_with fail
  rw [← HW5.out]
  refine HL.out.mono ?_
  rintro e W6 ⟨A6, c6, rfl, hC6, hl6, hb6⟩
  have B6 := Lib.hid (B5.out.trans (hb6.mono B5.out.size))
  clear hb6
  go_wp2_with fail
  refine (putlist_calls A6 c6 W6 hC6 hl6).mono ?_
  rintro e W7 ⟨rfl, hb7⟩
  have B7 := Lib.hid (B6.out.trans (hb7.mono B6.out.size))
  clear hb7 hC6 hl6
  go_wp2_with fail
  refine (next_calls_ex W7).mono ?_
  rintro e W8 ⟨A8, c8, rfl, hC8, hb8⟩
  have B8 := Lib.hid (B7.out.trans (hb8.mono B7.out.size))
  clear hb8
  obtain ⟨W9, hW9⟩ : ∃ W9, W9 = W8.alloc (.cells #[.int .i64 2, .int .i64 0, .string (⟨#[97, 98]⟩ : ByteArray), .slice A8 0 c8] 25) := ⟨_, rfl⟩
  have hn9 : Below W8.heap.size W8 W9 := by rw [hW9]; exact (Below.refl _ _).alloc (Nat.le_refl _) _
  have hg9 : W9.heap[W8.heap.size]? = some (.cells #[.int .i64 2, .int .i64 0, .string (⟨#[97, 98]⟩ : ByteArray), .slice A8 0 c8] 25 (0, 0)) := by rw [hW9]; exact heap_alloc_last _ _
  have hC9 := Kd.C_below hC8 hn9
  have B9 := Lib.hid (B8.out.trans (hn9.mono B8.out.size))
  have HW9 := Lib.hid hW9
  clear hW9 hn9 hC8
  go_wp2_with fail
  rw [← HW9.out]
  refine (num_calls (-1) W9).mono ?_
  rintro e W10 ⟨A10, c10, rfl, hC10, hb10⟩
  have hg10 := (hb10.block _ (Array.getElem?_eq_some_iff.1 hg9).1).trans hg9
  have hC9' := Kd.C_below hC9 hb10
  have B10 := Lib.hid (B9.out.trans (hb10.mono B9.out.size))
  clear hb10 hg9 hC9
  go_wp2_with fail
  refine (putnum_calls (-1) _ A10 c10 W10 hC10 (by decide) (by decide) putneg (by decide)).mono ?_
  rintro e W11 ⟨rfl, hb11⟩
  have hg11 := (hb11.block _ (Array.getElem?_eq_some_iff.1 hg10).1).trans hg10
  have hC11 := Kd.C_below hC9' hb11
  have B11 := Lib.hid (B10.out.trans (hb11.mono B10.out.size))
  clear hb11 hg10 hC9' hC10
  go_wp2_with fail
  have hsz : W8.heap.size < W11.heap.size := (Array.getElem?_eq_some_iff.1 hg11).1
  have z0 : W11.cell? ⟨W8.heap.size, 0, none⟩ = some (.int .i64 2) := by rw [Lib.cell_of_heap hg11]; rfl
  have z1 : W11.cell? ⟨W8.heap.size, 1, none⟩ = some (.int .i64 0) := by rw [Lib.cell_of_heap hg11]; rfl
  have z2 : W11.cell? ⟨W8.heap.size, 2, none⟩ = some (.string (⟨#[97, 98]⟩ : ByteArray)) := by rw [Lib.cell_of_heap hg11]; rfl
  have z3 : W11.cell? ⟨W8.heap.size, 3, none⟩ = some (.slice A8 0 c8) := by rw [Lib.cell_of_heap hg11]; rfl
  have HG := Lib.hid hg11
  have HC := Lib.hid hC11
  clear hg11 hC11 B2 B3 B4 B5 B6 B7 B8 B9 B10 HL HW5 HW9
  have zc : ∀ w', Below W11.heap.size W11 w' → w'.cell? ⟨W8.heap.size, 0, none⟩ = some (.int .i64 2) ∧ w'.cell? ⟨W8.heap.size, 1, none⟩ = some (.int .i64 0) ∧ w'.cell? ⟨W8.heap.size, 2, none⟩ = some (.string (⟨#[97, 98]⟩ : ByteArray)) ∧ w'.cell? ⟨W8.heap.size, 3, none⟩ = some (.slice A8 0 c8) := fun w' hw' => by
    have hg := (hw'.block _ hsz).trans HG.out
    refine ⟨?_, ?_, ?_, ?_⟩ <;> (rw [Lib.cell_of_heap hg]; rfl)
  have ZC := Lib.hid zc
  clear zc z0 z1 z2 z3
  generalize hs5 : (⟨#[65, 2, 17, 1, 48]⟩ : ByteArray) = s5
  generalize hs3 : (⟨#[18, 1, 44]⟩ : ByteArray) = s3
  generalize hs1 : (⟨#[32]⟩ : ByteArray) = s1
  clear hs5 hs3 hs1
  refine region_quiet_lit (C := fun w' => Below W11.heap.size W11 w') (by kernel_rfl) (by kernel_rfl) ((Below.refl _ _).drew) ?_
  refine BigFrame.wpQuiet_want ?hw (fun K hK => quiet_val (v := .string s3) ?h (hK _ ?_))
  case hw => go_simp
  case h => intro w' hw'; go_simp
  clear hK K
  simp only [Act.put, List.setIfInBounds_toArray, List.set_cons_zero, List.set_cons_succ]
  refine BigFrame.wpQuiet_want ?hw (fun K hK => quiet_val (v := .bool true) ?h (hK _ ?_))
  case hw => go_simp
  case h => intro w' hw'; go_simp
  clear hK K
  simp only [Act.put, List.setIfInBounds_toArray, List.set_cons_zero, List.set_cons_succ]
  refine BigFrame.wpQuiet_want ?hw (fun K hK => quiet_val (v := .bool true) ?h (hK _ ?_))
  case hw => go_simp
  case h => intro w' hw'; go_simp
  clear hK K
  simp only [Act.put, List.setIfInBounds_toArray, List.set_cons_zero, List.set_cons_succ]
  refine BigFrame.wpQuiet_want ?hw (fun K hK => quiet_val (v := .int .i64 0) ?h (hK _ ?_))
  case hw => go_simp
  case h => intro w' hw'; go_simp
  clear hK K
  simp only [Act.put, List.setIfInBounds_toArray, List.set_cons_zero, List.set_cons_succ]
  refine BigFrame.wpQuiet_want ?hw (fun K hK => quiet_val (v := .bool true) ?h (hK _ ?_))
  case hw => go_simp
  case h => intro w' hw'; go_simp
  clear hK K
  simp only [Act.put, List.setIfInBounds_toArray, List.set_cons_zero, List.set_cons_succ]
  refine BigFrame.wpQuiet_want ?hw (fun K hK => quiet_val (v := .bool true) ?h (hK _ ?_))
  case hw => go_simp
  case h => intro w' hw'; go_simp
  clear hK K
  simp only [Act.put, List.setIfInBounds_toArray, List.set_cons_zero, List.set_cons_succ]
  refine BigFrame.wpQuiet_want ?hw (fun K hK => quiet_val (v := .bool true) ?h (hK _ ?_))
  case hw => go_simp
  case h => intro w' hw'; go_simp
  clear hK K
  simp only [Act.put, List.setIfInBounds_toArray, List.set_cons_zero, List.set_cons_succ]
  refine BigFrame.wpQuiet_want ?hw (fun K hK => quiet_val (v := .string s5) ?h (hK _ ?_))
  case hw => go_simp
  case h => intro w' hw'; go_simp
  clear hK K
  simp only [Act.put, List.setIfInBounds_toArray, List.set_cons_zero, List.set_cons_succ]
  refine BigFrame.wpQuiet_want ?hw (fun K hK => quiet_val (v := .bool true) ?h (hK _ ?_))
  case hw => go_simp
  case h => intro w' hw'; go_simp
  clear hK K
  simp only [Act.put, List.setIfInBounds_toArray, List.set_cons_zero, List.set_cons_succ]
  refine BigFrame.wpQuiet_want ?hw (fun K hK => quiet_val (v := .bool true) ?h (hK _ ?_))
  case hw => go_simp
  case h => intro w' hw'; go_simp
  clear hK K
  simp only [Act.put, List.setIfInBounds_toArray, List.set_cons_zero, List.set_cons_succ]
  refine BigFrame.wpQuiet_want ?hw (fun K hK => quiet_val (v := .bool true) ?h (hK _ ?_))
  case hw => go_simp
  case h => intro w' hw'; go_simp
  clear hK K
  simp only [Act.put, List.setIfInBounds_toArray, List.set_cons_zero, List.set_cons_succ]
  refine BigFrame.wpQuiet_want ?hw (fun K hK => quiet_val (v := .int .i64 0) ?h (hK _ ?_))
  case hw => go_simp
  case h => intro w' hw'; go_simp
  clear hK K
  simp only [Act.put, List.setIfInBounds_toArray, List.set_cons_zero, List.set_cons_succ]
  refine BigFrame.wpQuiet_want ?hw (fun K hK => quiet_val (v := .bool true) ?h (hK _ ?_))
  case hw => go_simp
  case h => intro w' hw'; go_simp
  clear hK K
  simp only [Act.put, List.setIfInBounds_toArray, List.set_cons_zero, List.set_cons_succ]
  refine BigFrame.wpQuiet_want ?hw (fun K hK => quiet_val (v := .bool true) ?h (hK _ ?_))
  case hw => go_simp
  case h => intro w' hw'; go_simp
  clear hK K
  simp only [Act.put, List.setIfInBounds_toArray, List.set_cons_zero, List.set_cons_succ]
  refine BigFrame.wpQuiet_want ?hw (fun K hK => quiet_val (v := .bool true) ?h (hK _ ?_))
  case hw => go_simp
  case h => intro w' hw'; go_simp
  clear hK K
  simp only [Act.put, List.setIfInBounds_toArray, List.set_cons_zero, List.set_cons_succ]
  refine BigFrame.wpQuiet_want ?hw (fun K hK => quiet_val (v := .agg #[.int .i64 2, .int .i64 0, .string (⟨#[97, 98]⟩ : ByteArray), .slice A8 0 c8]) ?h (hK _ ?_))
  case hw => go_simp
  case h =>
    intro w' hw'
    have k0 := (ZC.out w' hw').1
    have k1 := (ZC.out w' hw').2.1
    have k2 := (ZC.out w' hw').2.2.1
    have k3 := (ZC.out w' hw').2.2.2
    go_simp
  clear hK K
  simp only [Act.put, List.setIfInBounds_toArray, List.set_cons_zero, List.set_cons_succ]
  refine BigFrame.wpQuiet_want ?hw (fun K hK => quiet_call (v := .agg #[.int .i64 2, .int .i64 0, .string (⟨#[97, 98]⟩ : ByteArray), .slice none 0 0]) (f := 17) (args := #[.string (⟨#[97, 98]⟩ : ByteArray)]) ?h (fun w' hw' => (text_exact _ w').mono fun e w'' he => ⟨he.1, hw'.trans (he.2.mono hw'.size)⟩) (hK _ ?_))
  case hw => go_simp
  case h => intro w' hw'; go_simp
  clear hK K
  simp only [Act.put, List.setIfInBounds_toArray, List.set_cons_zero, List.set_cons_succ]
  refine BigFrame.wpQuiet_want ?hw (fun K hK => quiet_call (v := .bool true) (f := 15) (args := #[.agg #[.int .i64 2, .int .i64 0, .string (⟨#[97, 98]⟩ : ByteArray), .slice A8 0 c8], .agg #[.int .i64 2, .int .i64 0, .string (⟨#[97, 98]⟩ : ByteArray), .slice none 0 0]]) ?h (fun w' hw' => (fastiref04_Same.calls 3 2 0 ⟨#[97, 98]⟩ A8 c8 [] 2 0 ⟨#[97, 98]⟩ none 0 [] true w' (Kd.C_below HC.out hw') (Nat.zero_le _) (Kd.C_nil _ _) (Nat.zero_le _) same_ab).mono fun e w'' he => ⟨he.1, hw'.trans (he.2.mono hw'.size)⟩) (hK _ ?_))
  case hw => go_simp
  case h => intro w' hw'; go_simp
  clear hK K
  simp only [Act.put, List.setIfInBounds_toArray, List.set_cons_zero, List.set_cons_succ]
  refine BigFrame.wpQuiet_want ?hw (fun K hK => quiet_val (v := .bool true) ?h (hK _ ?_))
  case hw => go_simp
  case h => intro w' hw'; go_simp
  clear hK K
  simp only [Act.put, List.setIfInBounds_toArray, List.set_cons_zero, List.set_cons_succ]
  refine BigFrame.wpQuiet_want ?hw (fun K hK => quiet_val (v := .bool true) ?h (hK _ ?_))
  case hw => go_simp
  case h => intro w' hw'; go_simp
  clear hK K
  simp only [Act.put, List.setIfInBounds_toArray, List.set_cons_zero, List.set_cons_succ]
  refine BigFrame.wpQuiet_want ?hw (fun K hK => quiet_val (v := .int .i64 5) ?h (hK _ ?_))
  case hw => go_simp
  case h => intro w' hw'; go_simp
  clear hK K
  simp only [Act.put, List.setIfInBounds_toArray, List.set_cons_zero, List.set_cons_succ]
  refine BigFrame.wpQuiet_want ?hw (fun K hK => quiet_val (v := .bool true) ?h (hK _ ?_))
  case hw => go_simp
  case h => intro w' hw'; go_simp
  clear hK K
  simp only [Act.put, List.setIfInBounds_toArray, List.set_cons_zero, List.set_cons_succ]
  refine BigFrame.wpQuiet_want ?hw (fun K hK => quiet_val (v := .bool true) ?h (hK _ ?_))
  case hw => go_simp
  case h => intro w' hw'; go_simp
  clear hK K
  simp only [Act.put, List.setIfInBounds_toArray, List.set_cons_zero, List.set_cons_succ]
  refine BigFrame.wpQuiet_want ?hw (fun K hK => quiet_val (v := .bool true) ?h (hK _ ?_))
  case hw => go_simp
  case h => intro w' hw'; go_simp
  clear hK K
  simp only [Act.put, List.setIfInBounds_toArray, List.set_cons_zero, List.set_cons_succ]
  refine BigFrame.wpQuiet_want ?hw (fun K hK => quiet_val (v := .int .i64 0) ?h (hK _ ?_))
  case hw => go_simp
  case h => intro w' hw'; go_simp
  clear hK K
  simp only [Act.put, List.setIfInBounds_toArray, List.set_cons_zero, List.set_cons_succ]
  refine BigFrame.wpQuiet_want ?hw (fun K hK => quiet_val (v := .bool true) ?h (hK _ ?_))
  case hw => go_simp
  case h => intro w' hw'; go_simp
  clear hK K
  simp only [Act.put, List.setIfInBounds_toArray, List.set_cons_zero, List.set_cons_succ]
  refine BigFrame.wpQuiet_want ?hw (fun K hK => quiet_val (v := .bool true) ?h (hK _ ?_))
  case hw => go_simp
  case h => intro w' hw'; go_simp
  clear hK K
  simp only [Act.put, List.setIfInBounds_toArray, List.set_cons_zero, List.set_cons_succ]
  refine BigFrame.wpQuiet_want ?hw (fun K hK => quiet_val (v := .bool true) ?h (hK _ ?_))
  case hw => go_simp
  case h => intro w' hw'; go_simp
  clear hK K
  simp only [Act.put, List.setIfInBounds_toArray, List.set_cons_zero, List.set_cons_succ]
  refine BigFrame.wpQuiet_want ?hw (fun K hK => quiet_val (v := .string s1) ?h (hK _ ?_))
  case hw => go_simp
  case h => intro w' hw'; go_simp
  clear hK K
  simp only [Act.put, List.setIfInBounds_toArray, List.set_cons_zero, List.set_cons_succ]
  refine BigFrame.wpQuiet_want ?hw (fun K hK => quiet_val (v := .bool true) ?h (hK _ ?_))
  case hw => go_simp
  case h => intro w' hw'; go_simp
  clear hK K
  simp only [Act.put, List.setIfInBounds_toArray, List.set_cons_zero, List.set_cons_succ]
  refine BigFrame.wpQuiet_want ?hw (fun K hK => quiet_val (v := .bool true) ?h (hK _ ?_))
  case hw => go_simp
  case h => intro w' hw'; go_simp
  clear hK K
  simp only [Act.put, List.setIfInBounds_toArray, List.set_cons_zero, List.set_cons_succ]
  refine BigFrame.wpQuiet_want ?hw (fun K hK => quiet_val (v := .bool true) ?h (hK _ ?_))
  case hw => go_simp
  case h => intro w' hw'; go_simp
  clear hK K
  simp only [Act.put, List.setIfInBounds_toArray, List.set_cons_zero, List.set_cons_succ]
  refine BigFrame.wpQuiet_want ?hw (fun K hK => quiet_val (v := .int .i64 0) ?h (hK _ ?_))
  case hw => go_simp
  case h => intro w' hw'; go_simp
  clear hK K
  simp only [Act.put, List.setIfInBounds_toArray, List.set_cons_zero, List.set_cons_succ]
  refine BigFrame.wpQuiet_want ?hw (fun K hK => quiet_val (v := .bool true) ?h (hK _ ?_))
  case hw => go_simp
  case h => intro w' hw'; go_simp
  clear hK K
  simp only [Act.put, List.setIfInBounds_toArray, List.set_cons_zero, List.set_cons_succ]
  refine BigFrame.wpQuiet_want ?hw (fun K hK => quiet_val (v := .bool true) ?h (hK _ ?_))
  case hw => go_simp
  case h => intro w' hw'; go_simp
  clear hK K
  simp only [Act.put, List.setIfInBounds_toArray, List.set_cons_zero, List.set_cons_succ]
  refine BigFrame.wpQuiet_want ?hw (fun K hK => quiet_val (v := .bool true) ?h (hK _ ?_))
  case hw => go_simp
  case h => intro w' hw'; go_simp
  clear hK K
  simp only [Act.put, List.setIfInBounds_toArray, List.set_cons_zero, List.set_cons_succ]
  refine wpQuiet_nil ?_
  intro WF hF
  have hfin := B11.out.trans (hF.mono B11.out.size)
  clear ZC HC HG B11
  go_wp2_with fail
  go_ret
  exact ⟨rfl, hfin⟩
end Go.Proofs.Ytjelpapcboiimaa.PCellPuts
